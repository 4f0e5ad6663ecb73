/-
  CUSTODY: what lies in memory.
-/
import Derived.Test.YtdgjdbpbnipjcaaTrH
import Derived.Test.YtdgjdbpbnipjcaaTrS
import Derived.Test.YtdgjdbpbnipjcaaTrB
import Derived.Maps.OwnSet
import Derived.Maps.Views
import Derived.Maps.RangeWalk
import Derived.Maps.AppendAt
namespace Go.Proofs.Ytdgjdbpbnipjcaa
open Go.RowKit Go.Maps
set_option linter.unusedVariables false

/-! ### maps by int -/
def rdV2 (v : Value) : Option (DataW Value × List MemPlace) := some (.held v, [])
theorem kmLaw2 : Keyed Try.prog 3 := int_keyed Try.underlying3
def KmAt (W : World) (b n : Nat) (D : DataW Value) (f : Int → Option Value) : Prop :=
  W.ownsMap Try.prog 3 rdV2 b n D ∧ ∀ k, InI k → match f k with
    | none => has D (.int .i64 k) = false
    | some v => has D (.int .i64 k) = true ∧ ∀ z, D.atKey (.int .i64 k) z = .held v
theorem wf_key2 (k : Int) (hk : InI k) : (Lit.int .i64 k).wf = true := WalkArith.wf_i64 hk
theorem kkey2 (k : Int) (hk : InI k) : keyOf Try.prog 3 (.int .i64 k) = some (.int .i64 k) := keyOf_int_mk Try.underlying3 (wf_key2 k hk)
theorem keyLit2 (k : Int) : WideAt.IsKeyLit (.int .i64 k) := by trivial
theorem key_ne2 {j k : Int} (h : j ≠ k) : (Lit.int .i64 j) ≠ .int .i64 k := fun e => h (Lit.int.inj e).2
theorem KmAt.look {W : World} {b n : Nat} {D : DataW Value} {f : Int → Option Value} (h : KmAt W b n D f) {T E : TypeId} (hT : Try.prog.underlying T = some (.map 3 E)) {z : Value} (hz : (zeroValue E).run Try.prog W = .ok z W) (k : Int) (hk : InI k) :
    (Instr.lookup T (.map (some b)) (.int .i64 k) false).run Try.prog W = .ok ((f k).getD z) W := by
  obtain ⟨v, ps, hrun, hv⟩ := h.1.lookup kmLaw2 hT hz (zd := .held z) (zp := []) rfl (kkey2 k hk)
  have hv' : DataW.held v = D.atKey (.int .i64 k) (.held z) := by
    unfold rdV2 at hv
    exact (Prod.mk.inj (Option.some.inj hv)).1
  have hk' := h.2 k hk
  rw [hrun]
  cases hfk : f k with
  | none =>
    rw [hfk] at hk'
    dsimp only at hk'
    rw [atKey_of_not_has hk'] at hv'
    rw [DataW.held.inj hv']
    rfl
  | some x =>
    rw [hfk] at hk'
    dsimp only at hk'
    rw [hk'.2] at hv'
    rw [DataW.held.inj hv']
    rfl
theorem KmAt.put {W : World} {b n : Nat} {D : DataW Value} {f : Int → Option Value} (h : KmAt W b n D f) {T E : TypeId} (hT : Try.prog.underlying T = some (.map 3 E)) (hn : n < 1000000) (k : Int) (hk : InI k) (x : Value) :
    ∃ W' D', (Instr.mapUpdate T (.map (some b)) (.int .i64 k) x).run Try.prog W = .ok () W' ∧ KmAt W' b (n + 1) D' (fun j => if j = k then some x else f j) ∧ W.grownBy W' (some b) := by
  obtain ⟨W', hrun, hm, ht⟩ := h.1.store kmLaw2 hT (by unfold maxLen; omega) (kkey2 k hk) (d := .held x) (ps := []) rfl
  refine ⟨W', _, hrun, ⟨hm, fun j hj => ?_⟩, ht.grown⟩
  have hj' := h.2 j hj
  by_cases e : j = k
  · subst e
    dsimp only
    rw [if_pos rfl]
    exact ⟨has_put_same h.1.isMap (keyLit2 j) _, fun z => atKey_put_same h.1.isMap (keyLit2 j) _ z⟩
  · dsimp only
    rw [if_neg e]
    cases hfj : f j with
    | none => rw [hfj] at hj'; dsimp only at hj' ⊢; rw [has_put_other (key_ne2 e)]; exact hj'
    | some y => rw [hfj] at hj'; dsimp only at hj' ⊢; exact ⟨by rw [has_put_other (key_ne2 e)]; exact hj'.1, fun z => by rw [atKey_put_other (key_ne2 e)]; exact hj'.2 z⟩
theorem KmAt.del {W : World} {b n : Nat} {D : DataW Value} {f : Int → Option Value} (h : KmAt W b n D f) {T E : TypeId} (hT : Try.prog.underlying T = some (.map 3 E)) (k : Int) (hk : InI k) :
    ∃ W' D', (∀ ty, (Builtin.delete_ #[T, 3] ty #[.map (some b), .int .i64 k]).run Try.prog W = .ok (.tuple #[]) W') ∧ KmAt W' b n D' (fun j => if j = k then none else f j) ∧ W.grownBy W' (some b) := by
  obtain ⟨W', hrun, hm, ht⟩ := h.1.drop kmLaw2 hT (kkey2 k hk) 0
  refine ⟨W', _, fun ty => ?_, ⟨hm, fun j hj => ?_⟩, ht.grown⟩
  · rw [← hrun]; rfl
  have hj' := h.2 j hj
  by_cases e : j = k
  · subst e
    dsimp only
    rw [if_pos rfl]
    exact has_del_same
  · dsimp only
    rw [if_neg e]
    cases hfj : f j with
    | none => rw [hfj] at hj'; dsimp only at hj' ⊢; rw [has_del_other (key_ne2 e)]; exact hj'
    | some y => rw [hfj] at hj'; dsimp only at hj' ⊢; exact ⟨by rw [has_del_other (key_ne2 e)]; exact hj'.1, fun z => by rw [atKey_del_other (key_ne2 e)]; exact hj'.2 z⟩
theorem KmAt.kept {W W' : World} {b n : Nat} {D : DataW Value} {f : Int → Option Value} {row : Option Nat} (h : KmAt W b n D f) (hg : W.grownBy W' row) (hne : some b ≠ row) : KmAt W' b n D f := ⟨h.1.kept hg hne, h.2⟩
theorem KmAt.blk {W : World} {b n : Nat} {D : DataW Value} {f : Int → Option Value} (h : KmAt W b n D f) : ∃ es clock, W.heap[b]? = some (.map es clock) := by
  obtain ⟨es, clock, h1, _⟩ := h.1
  exact ⟨es, clock, h1⟩
theorem KmAt.same {W : World} {b n : Nat} {D : DataW Value} {f f' : Int → Option Value} (h : KmAt W b n D f) (e : ∀ k, f' k = f k) : KmAt W b n D f' := by
  have : f' = f := funext e
  rw [this]; exact h

/-! ### the state -/
structure TpL where
  r : Int
  b : Int
  z : Bool
def tpA (t : TpL) : Array Value := #[.int .i64 t.r, .int .i64 t.b, .bool t.z]
/-- Spots, open rides, used numbers; and the numbers of all rides so far. -/
structure StL where
  sp : List SpL
  o : Int → Option TpL
  u : Int → Bool
  ks : List Int
/-- Where it lies. -/
structure CuP where
  g : Nat
  sg : Nat
  bo : Nat
  bu : Nat
  n : Nat
  L : List (Nat × Array Value)
def stA2 (c : CuP) (fl : FlL) : Array Value := #[.int .i64 fl.b, .int .i64 fl.r, .int .i64 fl.v, .slice fl.da fl.dn fl.dc, .slice fl.ta fl.tn fl.tc, .slice (some ⟨c.sg, 0, none⟩) c.n c.n, .map (some c.bo), .map (some c.bu)]
abbrev Gh := Int → Option (Nat × TpL)
def ptrV (F : Gh) (k : Int) : Option Value := (F k).map fun p => .pointer (some ⟨p.1, 0, none⟩)
def useV (u : Int → Bool) (k : Int) : Option Value := if u k = true then some (.bool true) else none
structure CuAt (c : CuP) (B : Nat) (fl : FlL) (N : Nat) (W : World) (σ : StL) (F : Gh) (nO nU : Nat) (DO DU : DataW Value) : Prop where
  blk : W.heap[c.g]? = some (.cells (stA2 c fl) 58)
  row : W.ownsRow B 60 4 (.slice (some ⟨c.sg, 0, none⟩) c.n c.n) c.n (flatV spA σ.sp)
  len : σ.sp.length = c.n
  mo : KmAt W c.bo nO DO (ptrV F)
  mu : KmAt W c.bu nU DU (useV σ.u)
  hO : nO ≤ N
  hU : nU ≤ N
  tr : ∀ k q t, F k = some (q, t) → W.heap[q]? = some (.cells (tpA t) 94) ∧ B ≤ q
  inj : ∀ k k' q t t', F k = some (q, t) → F k' = some (q, t') → k = k'
  ab : ∀ k, σ.o k = (F k).map (·.2)
  hk : ∀ k p, F k = some p → k ∈ σ.ks ∧ InI k
  hg : B ≤ c.g
  ho : B ≤ c.bo
  hu : B ≤ c.bu
  oo : c.bo ≠ c.bu
  fr : ∀ p ∈ c.L, W.heap[p.1]? = some (.cells p.2 27)
def CuW (c : CuP) (B : Nat) (fl : FlL) (N : Nat) (W : World) (σ : StL) : Prop := ∃ F nO nU DO DU, CuAt c B fl N W σ F nO nU DO DU
section
variable {c : CuP} {B : Nat} {fl : FlL} {N : Nat} {W : World} {σ : StL} {F : Gh} {nO nU : Nat} {DO DU : DataW Value}
theorem blkG {W W' : World} {k x : Nat} {o : Obj} (h : W.heap[k]? = some o) (hg : W.grownBy W' (some x)) (hne : k ≠ x) : W'.heap[k]? = some o := by
  rw [hg.block k (Array.getElem?_eq_some_iff.1 h).1 (fun e => hne (Option.some.inj e))]
  exact h
theorem rowG {W W' : World} {B n m x : Nat} {e : TypeId} {v : Value} {xs : List Value} (h : W.ownsRow B e n v m xs) (hg : W.grownBy W' (some x)) (hne : v.ownBlock ≠ some x) : W'.ownsRow B e n v m xs := by
  refine ⟨h.1, ?_⟩
  rcases h.2 with hn | ⟨g, cap, cur, hv, hB, hh, rest⟩
  · exact .inl hn
  · exact .inr ⟨g, cap, cur, hv, hB, blkG hh hg (fun e => hne (by rw [hv, ← e]; rfl)), rest⟩
theorem CuAt.rowblk (h : CuAt c B fl N W σ F nO nU DO DU) : (∃ cur, W.heap[c.sg]? = some (.cells cur 60)) ∧ B ≤ c.sg := by
  rcases h.row.2 with ⟨hv, _⟩ | ⟨g, cap, cur, hv, hB, hh, rest⟩
  · cases hv
  · cases hv; exact ⟨⟨cur, hh⟩, hB⟩
theorem CuAt.gs (h : CuAt c B fl N W σ F nO nU DO DU) : c.g ≠ c.sg := by
  intro e
  obtain ⟨⟨cur, h1⟩, _⟩ := h.rowblk
  rw [← e, h.blk] at h1
  exact absurd (Obj.cells.inj (Option.some.inj h1)).2.1 (by decide)
theorem CuAt.go (h : CuAt c B fl N W σ F nO nU DO DU) : c.g ≠ c.bo := by
  intro e
  obtain ⟨es, cl, h1⟩ := h.mo.blk
  rw [← e, h.blk] at h1; cases h1
theorem CuAt.gu (h : CuAt c B fl N W σ F nO nU DO DU) : c.g ≠ c.bu := by
  intro e
  obtain ⟨es, cl, h1⟩ := h.mu.blk
  rw [← e, h.blk] at h1; cases h1
theorem CuAt.so (h : CuAt c B fl N W σ F nO nU DO DU) : c.sg ≠ c.bo := by
  intro e
  obtain ⟨es, cl, h1⟩ := h.mo.blk
  obtain ⟨⟨cur, h2⟩, _⟩ := h.rowblk
  rw [← e, h2] at h1; cases h1
theorem CuAt.su (h : CuAt c B fl N W σ F nO nU DO DU) : c.sg ≠ c.bu := by
  intro e
  obtain ⟨es, cl, h1⟩ := h.mu.blk
  obtain ⟨⟨cur, h2⟩, _⟩ := h.rowblk
  rw [← e, h2] at h1; cases h1
theorem CuAt.tg (h : CuAt c B fl N W σ F nO nU DO DU) {k : Int} {q : Nat} {t : TpL} (hf : F k = some (q, t)) : q ≠ c.g ∧ q ≠ c.sg ∧ q ≠ c.bo ∧ q ≠ c.bu := by
  have h1 := (h.tr k q t hf).1
  refine ⟨fun e => ?_, fun e => ?_, fun e => ?_, fun e => ?_⟩
  · rw [e, h.blk] at h1; exact absurd (Obj.cells.inj (Option.some.inj h1)).2.1 (by decide)
  · obtain ⟨⟨cur, h2⟩, _⟩ := h.rowblk
    rw [e, h2] at h1; exact absurd (Obj.cells.inj (Option.some.inj h1)).2.1 (by decide)
  · obtain ⟨es, cl, h2⟩ := h.mo.blk
    rw [e, h2] at h1; cases h1
  · obtain ⟨es, cl, h2⟩ := h.mu.blk
    rw [e, h2] at h1; cases h1
theorem CuAt.fne (h : CuAt c B fl N W σ F nO nU DO DU) {p : Nat × Array Value} (hp : p ∈ c.L) : p.1 ≠ c.g ∧ p.1 ≠ c.sg ∧ p.1 ≠ c.bo ∧ p.1 ≠ c.bu := by
  have h1 := h.fr p hp
  refine ⟨fun e => ?_, fun e => ?_, fun e => ?_, fun e => ?_⟩
  · rw [e, h.blk] at h1; exact absurd (Obj.cells.inj (Option.some.inj h1)).2.1 (by decide)
  · obtain ⟨⟨cur, h2⟩, _⟩ := h.rowblk
    rw [e, h2] at h1; exact absurd (Obj.cells.inj (Option.some.inj h1)).2.1 (by decide)
  · obtain ⟨es, cl, h2⟩ := h.mo.blk
    rw [e, h2] at h1; cases h1
  · obtain ⟨es, cl, h2⟩ := h.mu.blk
    rw [e, h2] at h1; cases h1
theorem CuAt.fnq (h : CuAt c B fl N W σ F nO nU DO DU) {p : Nat × Array Value} (hp : p ∈ c.L) {k : Int} {q : Nat} {t : TpL} (hf : F k = some (q, t)) : p.1 ≠ q := by
  intro e
  have h1 := h.fr p hp
  rw [e, (h.tr k q t hf).1] at h1
  exact absurd (Obj.cells.inj (Option.some.inj h1)).2.1 (by decide)
theorem CuAt.size (h : CuAt c B fl N W σ F nO nU DO DU) : B ≤ W.heap.size := by
  have := (Array.getElem?_eq_some_iff.1 h.blk).1
  have := h.hg
  omega
/-- What was there stands. -/
theorem CuAt.ext {W' : World} (h : CuAt c B fl N W σ F nO nU DO DU) (hb : Below W.heap.size W W') : CuAt c B fl N W' σ F nO nU DO DU := by
  have hg : W.grownBy W' none := ⟨hb.os, hb.tape, hb.output, hb.size, fun k hk _ => hb.block k hk⟩
  exact ⟨hp_below hb h.blk, ownsRow_ext h.row hb, h.len, h.mo.kept hg (by simp), h.mu.kept hg (by simp), h.hO, h.hU, fun k q t e => ⟨hp_below hb (h.tr k q t e).1, (h.tr k q t e).2⟩, h.inj, h.ab, h.hk, h.hg, h.ho, h.hu, h.oo, fun p hp => hp_below hb (h.fr p hp)⟩
theorem CuW.ext {W' : World} (h : CuW c B fl N W σ) (hb : Below W.heap.size W W') : CuW c B fl N W' σ := by
  obtain ⟨F, nO, nU, DO, DU, h⟩ := h
  exact ⟨F, nO, nU, DO, DU, h.ext hb⟩
theorem CuAt.below {x : Nat} {W' : World} (h : CuAt c B fl N W σ F nO nU DO DU) (hg : W.grownBy W' (some x)) (hx : B ≤ x) : Below B W W' :=
  Below.grown (Below.refl _ _) hg h.size (fun k e => by cases e; exact hx)
/-- The cells of the state. -/
theorem CuAt.cells (h : CuAt c B fl N W σ F nO nU DO DU) : W.cell? ⟨c.g, 4, none⟩ = some (.slice fl.ta fl.tn fl.tc) ∧ W.cell? ⟨c.g, 5, none⟩ = some (.slice (some ⟨c.sg, 0, none⟩) c.n c.n) ∧ W.cell? ⟨c.g, 6, none⟩ = some (.map (some c.bo)) ∧ W.cell? ⟨c.g, 7, none⟩ = some (.map (some c.bu)) := by
  refine ⟨?_, ?_, ?_, ?_⟩ <;> (rw [cell_of_row _ _ _ _ _ _ h.blk]; rfl)
theorem CuAt.spot (h : CuAt c B fl N W σ F nO nU DO DU) (k : Nat) (hk : k < c.n) (j : Nat) (v : Value) (hv : (spA (σ.sp.getD k SpL.zero))[j]? = some v) : W.cell? ⟨c.sg, k * 4 + j, none⟩ = some v := by
  have hj : j < 4 := (Array.getElem?_eq_some_iff.1 hv).1
  rw [h.row.cellAt (k * 4 + j) (by omega), flatV_get SpL.zero spA 4 (fun _ => rfl) σ.sp k j (by rw [h.len]; exact hk) hj]
  exact hv
theorem CuAt.sfz (h : CuAt c B fl N W σ F nO nU DO DU) (j : Nat) : W.frozen? ⟨c.sg, j, none⟩ = false := h.row.frozenAt j
theorem flat_set4 : ∀ (C : List SpL) (k : Nat) (x : SpL), k < C.length →
    ((((flatV spA C).set (k * 4) (.int .i64 x.w)).set (k * 4 + 1) (.int .i64 x.p)).set (k * 4 + 2) (.int .i64 x.r)).set (k * 4 + 3) (.bool x.z) = flatV spA (C.set k x)
  | [], k, x, h => by simp at h
  | y :: C, 0, x, _ => by
    rw [List.set_cons_zero, flatV_cons, flatV_cons]
    rfl
  | y :: C, k + 1, x, h => by
    have ih := flat_set4 C k x (by simpa using h)
    rw [List.set_cons_succ, flatV_cons, flatV_cons, ← ih]
    have e : ∀ (j : Nat) (L : List Value) (u : Value), ((spA y).toList ++ L).set ((k + 1) * 4 + j) u = (spA y).toList ++ L.set (k * 4 + j) u := fun j L u => by
      rw [List.set_append_right _ _ (by show 4 ≤ _; omega)]
      congr 2
      show (k + 1) * 4 + j - 4 = k * 4 + j
      omega
    have e0 := fun L u => e 0 L u
    simp only [Nat.add_zero] at e0
    rw [e0, e, e, e]
/-- Only the row of spots turns. -/
theorem CuAt.rowTurn {W' : World} {sp' : List SpL} (h : CuAt c B fl N W σ F nO nU DO DU) (hg : W.grownBy W' (some c.sg)) (hr : W'.ownsRow B 60 4 (.slice (some ⟨c.sg, 0, none⟩) c.n c.n) c.n (flatV spA sp')) (hl : sp'.length = c.n) :
    CuAt c B fl N W' { σ with sp := sp' } F nO nU DO DU :=
  ⟨blkG h.blk hg h.gs, hr, hl, h.mo.kept hg (fun e => h.so (Option.some.inj e).symm), h.mu.kept hg (fun e => h.su (Option.some.inj e).symm), h.hO, h.hU, fun k q t e => ⟨blkG (h.tr k q t e).1 hg (h.tg e).2.1, (h.tr k q t e).2⟩, h.inj, h.ab, h.hk, h.hg, h.ho, h.hu, h.oo, fun p hp => blkG (h.fr p hp) hg (h.fne hp).2.1⟩
theorem CuAt.putSpot (h : CuAt c B fl N W σ F nO nU DO DU) (k : Nat) (hk : k < c.n) (x : SpL) :
    CuAt c B fl N ((((W.setCell ⟨c.sg, k * 4, none⟩ (.int .i64 x.w)).setCell ⟨c.sg, k * 4 + 1, none⟩ (.int .i64 x.p)).setCell ⟨c.sg, k * 4 + 2, none⟩ (.int .i64 x.r)).setCell ⟨c.sg, k * 4 + 3, none⟩ (.bool x.z)) { σ with sp := σ.sp.set k x } F nO nU DO DU ∧
    Below B W ((((W.setCell ⟨c.sg, k * 4, none⟩ (.int .i64 x.w)).setCell ⟨c.sg, k * 4 + 1, none⟩ (.int .i64 x.p)).setCell ⟨c.sg, k * 4 + 2, none⟩ (.int .i64 x.r)).setCell ⟨c.sg, k * 4 + 3, none⟩ (.bool x.z)) := by
  have s0 := h.row.stored (k * 4) (.int .i64 x.w)
  have s1 := s0.1.stored (k * 4 + 1) (.int .i64 x.p)
  have s2 := s1.1.stored (k * 4 + 2) (.int .i64 x.r)
  have s3 := s2.1.stored (k * 4 + 3) (.bool x.z)
  have hg := ((s0.2.trans s1.2).trans s2.2).trans s3.2
  have hr := s3.1
  rw [flat_set4 σ.sp k x (by rw [h.len]; exact hk)] at hr
  exact ⟨h.rowTurn hg hr (by simpa using h.len), h.below hg h.rowblk.2⟩
theorem CuAt.putZ (h : CuAt c B fl N W σ F nO nU DO DU) (k : Nat) (hk : k < c.n) (x : SpL) (hx : σ.sp.getD k SpL.zero = x) (z : Bool) :
    CuAt c B fl N (W.setCell ⟨c.sg, k * 4 + 3, none⟩ (.bool z)) { σ with sp := σ.sp.set k ⟨x.w, x.p, x.r, z⟩ } F nO nU DO DU ∧ Below B W (W.setCell ⟨c.sg, k * 4 + 3, none⟩ (.bool z)) := by
  have s3 := h.row.stored (k * 4 + 3) (.bool z)
  have hr := s3.1
  have hkl : k < σ.sp.length := by rw [h.len]; exact hk
  have e := flat_set4 σ.sp k ⟨x.w, x.p, x.r, z⟩ hkl
  have g : ∀ j v, (spA x)[j]? = some v → (flatV spA σ.sp)[k * 4 + j]? = some v := fun j v hv => by
    rw [flatV_get SpL.zero spA 4 (fun _ => rfl) σ.sp k j hkl ((Array.getElem?_eq_some_iff.1 hv).1), hx]; exact hv
  have st : ∀ (L : List Value) (i : Nat) (v : Value), L[i]? = some v → L.set i v = L := fun L i v hv => by
    obtain ⟨hi, hv'⟩ := List.getElem?_eq_some_iff.1 hv
    rw [← hv']; exact List.set_getElem_self hi
  dsimp only at e
  have g0 : (flatV spA σ.sp).set (k * 4) (.int .i64 x.w) = flatV spA σ.sp := st _ _ _ (g 0 _ rfl)
  have g1 : (flatV spA σ.sp).set (k * 4 + 1) (.int .i64 x.p) = flatV spA σ.sp := st _ _ _ (g 1 _ rfl)
  have g2 : (flatV spA σ.sp).set (k * 4 + 2) (.int .i64 x.r) = flatV spA σ.sp := st _ _ _ (g 2 _ rfl)
  rw [g0, g1, g2] at e
  rw [e] at hr
  exact ⟨h.rowTurn s3.2 hr (by simpa using h.len), h.below s3.2 h.rowblk.2⟩
/-- The map of open rides turns. -/
theorem CuAt.moTurn {W' : World} {F' : Gh} {nO' : Nat} {DO' : DataW Value} {o' : Int → Option TpL} {ks' : List Int} (h : CuAt c B fl N W σ F nO nU DO DU) (hg : W.grownBy W' (some c.bo)) (hm : KmAt W' c.bo nO' DO' (ptrV F')) (hn : nO' ≤ N)
    (htr : ∀ k q t, F' k = some (q, t) → W'.heap[q]? = some (.cells (tpA t) 94) ∧ B ≤ q) (hinj : ∀ k k' q t t', F' k = some (q, t) → F' k' = some (q, t') → k = k') (hab : ∀ k, o' k = (F' k).map (·.2)) (hk : ∀ k p, F' k = some p → k ∈ ks' ∧ InI k) :
    CuAt c B fl N W' { σ with o := o', ks := ks' } F' nO' nU DO' DU :=
  ⟨blkG h.blk hg h.go, rowG h.row hg (fun e => h.so (Option.some.inj e)), h.len, hm, h.mu.kept hg (fun e => h.oo (Option.some.inj e).symm), hn, h.hU, htr, hinj, hab, hk, h.hg, h.ho, h.hu, h.oo, fun p hp => blkG (h.fr p hp) hg (h.fne hp).2.2.1⟩
theorem CuAt.delKey (h : CuAt c B fl N W σ F nO nU DO DU) (k : Int) (hk : InI k) :
    ∃ W', (∀ ty, (Builtin.delete_ #[55, 3] ty #[.map (some c.bo), .int .i64 k]).run Try.prog W = .ok (.tuple #[]) W') ∧ CuW c B fl N W' { σ with o := fun j => if j = k then none else σ.o j } ∧ Below B W W' ∧ W.grownBy W' (some c.bo) := by
  obtain ⟨W', D', hrun, hm, hg⟩ := h.mo.del Try.underlying55 k hk
  refine ⟨W', hrun, ⟨fun j => if j = k then none else F j, nO, nU, D', DU, ?_⟩, h.below hg h.ho, hg⟩
  refine h.moTurn hg (hm.same fun j => ?_) h.hO (fun j q t e => ?_) (fun j j' q t t' e e' => ?_) (fun j => ?_) (fun j p e => ?_)
  · unfold ptrV; dsimp only; split <;> rfl
  · split at e
    · cases e
    · exact ⟨blkG (h.tr j q t e).1 hg (h.tg e).2.2.1, (h.tr j q t e).2⟩
  · split at e
    · cases e
    · split at e'
      · cases e'
      · exact h.inj j j' q t t' e e'
  · split
    · rfl
    · exact h.ab j
  · split at e
    · cases e
    · exact h.hk j p e
/-- A new ride: its block is new, its key too. -/
theorem CuAt.putKey (h : CuAt c B fl N W σ F nO nU DO DU) (hN : N < 1000000) (k : Int) (hk : InI k) (t : TpL) :
    ∃ W', (Instr.mapUpdate 55 (.map (some c.bo)) (.int .i64 k) (.pointer (some ⟨W.heap.size, 0, none⟩))).run Try.prog (W.alloc (.cells (tpA t) 94)) = .ok () W' ∧
      CuW c B fl (N + 1) W' { σ with o := fun j => if j = k then some t else σ.o j, ks := k :: σ.ks } ∧ Below B W W' ∧ (W.alloc (.cells (tpA t) 94)).grownBy W' (some c.bo) := by
  have hb := below_alloc W (.cells (tpA t) 94)
  have h1 := h.ext hb
  have hnew : (W.alloc (.cells (tpA t) 94)).heap[W.heap.size]? = some (.cells (tpA t) 94) := hp_new rfl
  obtain ⟨W', D', hrun, hm, hg⟩ := h1.mo.put Try.underlying55 (by have := h.hO; omega) k hk (.pointer (some ⟨W.heap.size, 0, none⟩))
  have hne : W.heap.size ≠ c.bo := by
    intro e
    obtain ⟨es, cl, h2⟩ := h.mo.blk
    have := (Array.getElem?_eq_some_iff.1 h2).1
    omega
  have hold : ∀ j q t', F j = some (q, t') → q < W.heap.size := fun j q t' e => (Array.getElem?_eq_some_iff.1 (h.tr j q t' e).1).1
  have h2 : CuAt c B fl (N + 1) (W.alloc (.cells (tpA t) 94)) σ F nO nU DO DU := ⟨h1.blk, h1.row, h1.len, h1.mo, h1.mu, Nat.le_succ_of_le h1.hO, Nat.le_succ_of_le h1.hU, h1.tr, h1.inj, h1.ab, h1.hk, h1.hg, h1.ho, h1.hu, h1.oo, h1.fr⟩
  refine ⟨W', hrun, ⟨fun j => if j = k then some (W.heap.size, t) else F j, nO + 1, nU, D', DU, ?_⟩, (hb.mono h.size).trans (h1.below hg h.ho), hg⟩
  refine h2.moTurn hg (hm.same fun j => ?_) (by have := h.hO; omega) (fun j q t' e => ?_) (fun j j' q t1 t2 e e' => ?_) (fun j => ?_) (fun j p e => ?_)
  · unfold ptrV; dsimp only; split <;> rfl
  · split at e
    · cases e; exact ⟨blkG hnew hg hne, h.size⟩
    · exact ⟨blkG (h1.tr j q t' e).1 hg (h1.tg e).2.2.1, (h.tr j q t' e).2⟩
  · split at e
    · next he =>
      cases e
      split at e'
      · next he' => rw [he, he']
      · exact absurd (hold j' _ t2 e') (Nat.lt_irrefl _)
    · split at e'
      · cases e'
        exact absurd (hold j _ t1 e) (Nat.lt_irrefl _)
      · exact h.inj j j' q t1 t2 e e'
  · split
    · rfl
    · exact h.ab j
  · split at e
    · next he => rw [he]; exact ⟨List.mem_cons_self .., hk⟩
    · exact ⟨List.mem_cons_of_mem _ (h.hk j p e).1, (h.hk j p e).2⟩
theorem CuAt.putUse (h : CuAt c B fl N W σ F nO nU DO DU) (hN : N < 1000000) (k : Int) (hk : InI k) :
    ∃ W', (Instr.mapUpdate 56 (.map (some c.bu)) (.int .i64 k) (.bool true)).run Try.prog W = .ok () W' ∧
      CuW c B fl (N + 1) W' { σ with u := fun j => decide (j = k) || σ.u j } ∧ Below B W W' ∧ W.grownBy W' (some c.bu) := by
  obtain ⟨W', D', hrun, hm, hg⟩ := h.mu.put Try.underlying56 (by have := h.hU; omega) k hk (.bool true)
  refine ⟨W', hrun, ⟨F, nO, nU + 1, DO, D', ?_⟩, h.below hg h.hu, hg⟩
  exact ⟨blkG h.blk hg h.gu, rowG h.row hg (fun e => h.su (Option.some.inj e)), h.len, h.mo.kept hg (fun e => h.oo (Option.some.inj e)), hm.same (fun j => by unfold useV; dsimp only; by_cases hj : j = k <;> simp [hj]), Nat.le_succ_of_le h.hO, by have := h.hU; omega,
    fun j q t e => ⟨blkG (h.tr j q t e).1 hg (h.tg e).2.2.2, (h.tr j q t e).2⟩, h.inj, h.ab, h.hk, h.hg, h.ho, h.hu, h.oo, fun p hp => blkG (h.fr p hp) hg (h.fne hp).2.2.2⟩
/-- A ride's block turns. -/
theorem CuAt.setTrip (h : CuAt c B fl N W σ F nO nU DO DU) {k : Int} {q : Nat} {t t' : TpL} (hf : F k = some (q, t)) {W' : World} (hg : W.grownBy W' (some q)) (hq : W'.heap[q]? = some (.cells (tpA t') 94)) :
    CuW c B fl N W' { σ with o := fun j => if j = k then some t' else σ.o j } ∧ Below B W W' := by
  have hne := h.tg hf
  refine ⟨⟨fun j => if j = k then some (q, t') else F j, nO, nU, DO, DU, ?_⟩, h.below hg (h.tr k q t hf).2⟩
  refine ⟨blkG h.blk hg hne.1.symm, rowG h.row hg (fun e => hne.2.1 (Option.some.inj e).symm), h.len, (h.mo.kept hg (fun e => hne.2.2.1 (Option.some.inj e).symm)).same (fun j => ?_), h.mu.kept hg (fun e => hne.2.2.2 (Option.some.inj e).symm), h.hO, h.hU, fun j p s e => ?_, fun j j' p s s' e e' => ?_, fun j => ?_, fun j p e => ?_, h.hg, h.ho, h.hu, h.oo, fun p hp => blkG (h.fr p hp) hg (h.fnq hp hf)⟩
  · unfold ptrV
    dsimp only
    split
    · next he => rw [he, hf]; rfl
    · rfl
  · split at e
    · cases e; exact ⟨hq, (h.tr k _ t hf).2⟩
    · next he =>
      have hpq : p ≠ q := fun e2 => he (h.inj j k q s t (by rw [← e2]; exact e) hf)
      exact ⟨blkG (h.tr j p s e).1 hg hpq, (h.tr j p s e).2⟩
  · split at e
    · next he =>
      cases e
      split at e'
      · next he' => rw [he, he']
      · rw [he]; exact (h.inj j' k _ s' t e' hf).symm
    · split at e'
      · next he' => cases e'; rw [he']; exact h.inj j k _ s t e hf
      · exact h.inj j j' p s s' e e'
  · dsimp only
    split
    · rfl
    · exact h.ab j
  · split at e
    · next he => rw [he]; exact h.hk k _ hf
    · exact h.hk j p e
/-- A foreign row of events. -/
theorem CuW.addL (h : CuW c B fl N W σ) {g : Nat} {C : Array Value} (hg : W.heap[g]? = some (.cells C 27)) : CuW ⟨c.g, c.sg, c.bo, c.bu, c.n, (g, C) :: c.L⟩ B fl N W σ := by
  obtain ⟨F, nO, nU, DO, DU, h⟩ := h
  exact ⟨F, nO, nU, DO, DU, h.blk, h.row, h.len, h.mo, h.mu, h.hO, h.hU, h.tr, h.inj, h.ab, h.hk, h.hg, h.ho, h.hu, h.oo, fun p hp => by
    rcases List.mem_cons.1 hp with rfl | hp
    · exact hg
    · exact h.fr p hp⟩
theorem CuW.fr (h : CuW c B fl N W σ) : ∀ p ∈ c.L, W.heap[p.1]? = some (.cells p.2 27) := by
  obtain ⟨F, nO, nU, DO, DU, h⟩ := h
  exact h.fr
end
end Go.Proofs.Ytdgjdbpbnipjcaa
