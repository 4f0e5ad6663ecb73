/-
  LINK: what lies in memory: bodies, rows of bodies, a sender, a map of bodies, a receiver (plain laws on worlds). No condition.
-/
import Derived.Test.YtpmjgiabedjlgaaProg
import Derived.Test.YtpmjgiabedjlgaaBase7
import Derived.Test.YtpmjgiabedjlgaaBase14
import Derived.Maps.OwnSet
import Derived.Maps.Views
import Derived.Test.YtpmjgiabedjlgaaBase11
import Derived.BigQuiet
import Derived.Lib.SliceRun
import Derived.Laws.StructEq
import Derived.StillTailTactics
import Derived.RegionTactic
import Derived.Deep.DeepCutAuto
import Derived.Deep.QuietTactic
import Derived.WalkSpells
import Derived.WalkLawsBesides
import Derived.BigRegion
import Derived.Deep.RegionHeld3
import Derived.Deep.RegionLaw
namespace Go.Proofs.Ytpmjgiabedjlgaa
open Go.RowKit Go.Maps
set_option linter.unusedVariables false

/-- A body: where it lies, its room, its bytes. -/
structure Bv where
  a : Option Addr
  c : Nat
  bs : List UInt8
def bsv (x : Bv) : Value := .slice x.a x.bs.length x.c
theorem bsv_one (x : Bv) : (bsv x).oneCell' = true := rfl
def BdOk (W : World) (B : Nat) (x : Bv) : Prop := W.ownsRow B 5 1 (bsv x) x.bs.length (cs b8 x.bs)
theorem BdOk.sl {W : World} {B : Nat} {x : Bv} (h : BdOk W B x) : Sl W 1 x.a x.bs.length x.c (cs b8 x.bs) := by
  obtain ⟨ao, cap, e, hs⟩ := sl_of_own h
  cases e
  exact hs
def nilB : Bv := ⟨none, 0, []⟩
theorem nilB_ok (W : World) (B : Nat) : BdOk W B nilB := ⟨rfl, .inl ⟨rfl, rfl⟩⟩
theorem BdOk.lower {W : World} {B B' : Nat} {x : Bv} (h : BdOk W B x) (hb : B' ≤ B) : BdOk W B' x := by
  refine ⟨h.1, ?_⟩
  rcases h.2 with hn | ⟨g, cap, cur, hv, hB, rest⟩
  · exact .inl hn
  · exact .inr ⟨g, cap, cur, hv, Nat.le_trans hb hB, rest⟩
/-- All blocks but those on the list stand. -/
structure Fx (L : List Nat) (W W' : World) : Prop where
  os : W'.os = W.os
  tape : W'.tape = W.tape
  output : W'.output = W.output
  size : W.heap.size ≤ W'.heap.size
  block : ∀ k, k < W.heap.size → k ∉ L → W'.heap[k]? = W.heap[k]?
theorem Fx.refl (L : List Nat) (W : World) : Fx L W W := ⟨rfl, rfl, rfl, Nat.le_refl _, fun _ _ _ => rfl⟩
theorem Fx.ofBelow {L : List Nat} {W W' : World} (h : Below W.heap.size W W') : Fx L W W' := ⟨h.os, h.tape, h.output, h.size, fun k hk _ => h.block k hk⟩
theorem Fx.ofGrown {L : List Nat} {W W' : World} {row : Option Nat} (h : W.grownBy W' row) (hr : ∀ k, row = some k → k ∈ L) : Fx L W W' := ⟨h.os, h.tape, h.output, h.size, fun k hk hn => h.block k hk (fun e => hn (hr k e.symm))⟩
theorem Fx.setCell {L : List Nat} {W W' : World} (h : Fx L W W') {a : Addr} {v : Value} (ha : a.block ∈ L) : Fx L W (W'.setCell a v) := by
  have hb : Below (W'.heap.size + a.block) W' W' := Below.refl _ _
  have h0 := (Below.refl 0 W').setCell (p := a) (Nat.zero_le _) v
  refine ⟨h0.os.trans h.os, h0.tape.trans h.tape, h0.output.trans h.output, Nat.le_trans h.size h0.size, fun k hk hn => ?_⟩
  rw [heap_setCell_other _ _ _ _ (fun e => hn (by rw [show k = a.block from e]; exact ha))]
  exact h.block k hk hn
theorem Fx.trans {L L' : List Nat} {W W' W'' : World} (h : Fx L W W') (h' : Fx L' W' W'') (hl : ∀ k ∈ L', k ∈ L ∨ W.heap.size ≤ k) : Fx L W W'' :=
  ⟨h'.os.trans h.os, h'.tape.trans h.tape, h'.output.trans h.output, Nat.le_trans h.size h'.size, fun k hk hn => (h'.block k (Nat.lt_of_lt_of_le hk h.size) (fun e => (hl k e).elim hn (fun e2 => absurd hk (Nat.not_lt.2 e2)))).trans (h.block k hk hn)⟩
theorem Fx.step {L : List Nat} {W W' W'' : World} (h : Fx L W W') (hb : Below W'.heap.size W' W'') : Fx L W W'' := h.trans (Fx.ofBelow (L := []) hb) (fun k hk => by simp at hk)
theorem Fx.below {L : List Nat} {W W' : World} {B : Nat} (h : Fx L W W') (hl : ∀ k ∈ L, B ≤ k) (hB : B ≤ W.heap.size) : Below B W W' :=
  ⟨h.os, h.tape, h.output, h.size, fun k hk => h.block k (Nat.lt_of_lt_of_le hk hB) (fun e => absurd hk (Nat.not_lt.2 (hl k e)))⟩
theorem Fx.drewN {L : List Nat} {W W' : World} (h : Fx L W W') (n : Nat) : Fx L W (W'.drewN n) := ⟨h.os, h.tape, h.output, h.size, h.block⟩
theorem Fx.mono {L L' : List Nat} {W W' : World} (h : Fx L W W') (hl : ∀ k ∈ L, k ∈ L') : Fx L' W W' := ⟨h.os, h.tape, h.output, h.size, fun k hk hn => h.block k hk (fun e => hn (hl k e))⟩
/-- No block of bytes is on the list. -/
def NoU8 (W : World) (L : List Nat) : Prop := ∀ j ∈ L, ∀ C fz, W.heap[j]? ≠ some (.cells C 5 fz)
theorem BdOk.keep {L : List Nat} {W W' : World} {B : Nat} {x : Bv} (h : BdOk W B x) (hf : Fx L W W') (hn : NoU8 W L) : BdOk W' B x := by
  refine ⟨h.1, ?_⟩
  rcases h.2 with hn' | ⟨g, cap, cur, hv, hB, hg, rest⟩
  · exact .inl hn'
  · refine .inr ⟨g, cap, cur, hv, hB, ?_, rest⟩
    rw [hf.block g (Array.getElem?_eq_some_iff.1 hg).1 (fun e => hn g e _ _ hg)]
    exact hg
theorem own_keepF {L : List Nat} {W W' : World} {B size n : Nat} {e : TypeId} {v : Value} {xs : List Value} (h : W.ownsRow B e size v n xs) (hf : Fx L W W') (hv : ∀ j, v.ownBlock = some j → j ∉ L) : W'.ownsRow B e size v n xs := by
  refine ⟨h.1, ?_⟩
  rcases h.2 with hn' | ⟨g, cap, cur, hv', hB, hg, rest⟩
  · exact .inl hn'
  · refine .inr ⟨g, cap, cur, hv', hB, ?_, rest⟩
    rw [hf.block g (Array.getElem?_eq_some_iff.1 hg).1 (hv g (by rw [hv']; rfl))]
    exact hg
theorem own_ltF {W : World} {B size n k : Nat} {e : TypeId} {v : Value} {xs : List Value} (h : W.ownsRow B e size v n xs) (hk : v.ownBlock = some k) : k < W.heap.size ∧ B ≤ k ∧ ∃ C fz, W.heap[k]? = some (.cells C e fz) := by
  rcases h.2 with ⟨hv, _⟩ | ⟨j, cap, cur, hv, hB, hj, _⟩
  · rw [hv] at hk; cases hk
  · rw [hv] at hk
    simp [Value.ownBlock] at hk
    subst hk
    exact ⟨(Array.getElem?_eq_some_iff.1 hj).1, hB, _, _, hj⟩
theorem blk_keepF {L : List Nat} {W W' : World} {k : Nat} {o : Obj} (h : W.heap[k]? = some o) (hf : Fx L W W') (hk : k ∉ L) : W'.heap[k]? = some o := by
  rw [hf.block k (Array.getElem?_eq_some_iff.1 h).1 hk]
  exact h
/-- A sender. -/
structure SendAt (B : Nat) (W : World) (g : Nat) (v : Value) (k : Nat) (xs : List Bv) : Prop where
  blk : W.heap[g]? = some (.cells #[.int .i64 (k : Int), v] 106)
  row : W.ownsRow B 22 1 v xs.length (cs bsv xs)
  bds : ∀ x ∈ xs, BdOk W B x
  hB : B ≤ g
def own (v : Value) : List Nat := v.ownBlock.toList
theorem mem_own {v : Value} {j : Nat} : j ∈ own v ↔ v.ownBlock = some j := by unfold own; simp
/-- The sender's own blocks. -/
abbrev sF (g : Nat) (v : Value) : List Nat := g :: own v
theorem SendAt.nou8 {B : Nat} {W : World} {g k : Nat} {v : Value} {xs : List Bv} (h : SendAt B W g v k xs) : NoU8 W (sF g v) := by
  intro j hj C fz e
  rcases List.mem_cons.1 hj with rfl | hj
  · rw [h.blk] at e; exact absurd (Obj.cells.inj (Option.some.inj e)).2.1 (by decide)
  · obtain ⟨_, _, C', fz', e'⟩ := own_ltF h.row (mem_own.1 hj)
    rw [e'] at e; exact absurd (Obj.cells.inj (Option.some.inj e)).2.1 (by decide)
theorem SendAt.lt {B : Nat} {W : World} {g k : Nat} {v : Value} {xs : List Bv} (h : SendAt B W g v k xs) : ∀ j ∈ sF g v, j < W.heap.size ∧ B ≤ j := by
  intro j hj
  rcases List.mem_cons.1 hj with rfl | hj
  · exact ⟨(Array.getElem?_eq_some_iff.1 h.blk).1, h.hB⟩
  · obtain ⟨h1, h2, _⟩ := own_ltF h.row (mem_own.1 hj)
    exact ⟨h1, h2⟩
theorem SendAt.gne {B : Nat} {W : World} {g k : Nat} {v : Value} {xs : List Bv} (h : SendAt B W g v k xs) : g ∉ own v := by
  intro hj
  obtain ⟨_, _, C', fz', e'⟩ := own_ltF h.row (mem_own.1 hj)
  rw [h.blk] at e'; exact absurd (Obj.cells.inj (Option.some.inj e')).2.1 (by decide)
theorem SendAt.keep {L : List Nat} {B : Nat} {W W' : World} {g k : Nat} {v : Value} {xs : List Bv} (h : SendAt B W g v k xs) (hf : Fx L W W') (hn : NoU8 W L) (hd : ∀ j ∈ sF g v, j ∉ L) : SendAt B W' g v k xs :=
  ⟨blk_keepF h.blk hf (hd g (by simp)), own_keepF h.row hf (fun j hj => hd j (List.mem_cons_of_mem _ (mem_own.2 hj))), fun x hx => (h.bds x hx).keep hf hn, h.hB⟩
theorem SendAt.below {B : Nat} {W W' : World} {g k : Nat} {v : Value} {xs : List Bv} (h : SendAt B W g v k xs) (hb : Below W.heap.size W W') : SendAt B W' g v k xs := h.keep (L := []) (Fx.ofBelow hb) (fun j hj => by simp at hj) (fun j _ => by simp)
theorem SendAt.cells {B : Nat} {W : World} {g k : Nat} {v : Value} {xs : List Bv} (h : SendAt B W g v k xs) : W.cell? ⟨g, 0, none⟩ = some (.int .i64 (k : Int)) ∧ W.cell? ⟨g, 1, none⟩ = some v ∧ W.frozen? ⟨g, 0, none⟩ = false ∧ W.frozen? ⟨g, 1, none⟩ = false := two_facts ⟨_, h.blk⟩
theorem SendAt.form {B : Nat} {W : World} {g k : Nat} {v : Value} {xs : List Bv} (h : SendAt B W g v k xs) : ∃ a c, v = .slice a xs.length c ∧ Sl W 1 a xs.length c (cs bsv xs) := by
  obtain ⟨ao, cap, e, hs⟩ := sl_of_own h.row
  exact ⟨ao, cap, e, hs⟩
/-! ### a map of bodies -/
def rdV (v : Value) : Option (DataW Value × List MemPlace) := some (.held v, [])
theorem kmLaw : Keyed Try.prog 3 := int_keyed Try.underlying3
def kmap (W : World) (b n : Nat) (D : DataW Value) : Prop := W.ownsMap Try.prog 3 rdV b n D
/-- What the map holds, by key. -/
abbrev Kf := Nat → Option Bv
def kAt (D : DataW Value) (f : Kf) : Prop := ∀ k : Nat, k < 1000000000 → match f k with
  | none => has D (.int .i64 (k : Int)) = false
  | some x => has D (.int .i64 (k : Int)) = true ∧ ∀ z, D.atKey (.int .i64 (k : Int)) z = .held (bsv x)
theorem wf_key (k : Nat) (hk : k < 1000000000) : (Lit.int .i64 (k : Int)).wf = true := by
  exact WalkArith.wf_i64 (by omega)
theorem kkey (k : Nat) (hk : k < 1000000000) : keyOf Try.prog 3 (.int .i64 (k : Int)) = some (.int .i64 (k : Int)) := keyOf_int_mk Try.underlying3 (wf_key k hk)
theorem zeroB (w : World) : (zeroValue 22).run Try.prog w = .ok (.slice none 0 0) w := by kernel_rfl
theorem kmap_look {W : World} {b n : Nat} {D : DataW Value} {f : Kf} (h : kmap W b n D) (hf : kAt D f) (k : Nat) (hk : k < 1000000000) :
    (Instr.lookup 107 (.map (some b)) (.int .i64 (k : Int)) true).run Try.prog W = .ok (.tuple #[bsv ((f k).getD nilB), .bool (f k).isSome]) W := by
  obtain ⟨v, ps, hrun, hv⟩ := h.look_ok kmLaw Try.underlying107 (zeroB W) (zd := .held (.slice none 0 0)) (zp := []) rfl (kkey k hk)
  have hv' : DataW.held v = D.atKey (.int .i64 (k : Int)) (.held (.slice none 0 0)) := by
    unfold rdV at hv
    exact (Prod.mk.inj (Option.some.inj hv)).1
  have hk' := hf k hk
  rw [hrun]
  cases hfk : f k with
  | none =>
    rw [hfk] at hk'
    dsimp only at hk'
    rw [atKey_of_not_has hk'] at hv'
    rw [hk', DataW.held.inj hv']
    rfl
  | some x =>
    rw [hfk] at hk'
    dsimp only at hk'
    rw [hk'.2] at hv'
    rw [hk'.1, DataW.held.inj hv']
    rfl
theorem keyLit (k : Nat) : WideAt.IsKeyLit (.int .i64 (k : Int)) := by trivial
theorem key_ne {j k : Nat} (h : j ≠ k) : (Lit.int .i64 (j : Int)) ≠ .int .i64 (k : Int) := fun e => h (by have := (Lit.int.inj e).2; omega)
theorem kmap_put {W : World} {b n : Nat} {D : DataW Value} {f : Kf} (h : kmap W b n D) (hf : kAt D f) (hn : n < 1000000) (k : Nat) (hk : k < 1000000000) (x : Bv) :
    ∃ W' D', (Instr.mapUpdate 107 (.map (some b)) (.int .i64 (k : Int)) (bsv x)).run Try.prog W = .ok () W' ∧ kmap W' b (n + 1) D' ∧ kAt D' (fun j => if j = k then some x else f j) ∧ W.mapTurned W' b := by
  obtain ⟨W', hrun, hm, ht⟩ := h.store kmLaw Try.underlying107 (by unfold maxLen; omega) (kkey k hk) (d := .held (bsv x)) (ps := []) rfl
  refine ⟨W', _, hrun, hm, fun j hj => ?_, ht⟩
  have hj' := hf j hj
  by_cases e : j = k
  · subst e
    dsimp only
    rw [if_pos rfl]
    exact ⟨has_put_same h.isMap (keyLit j) _, fun z => atKey_put_same h.isMap (keyLit j) _ z⟩
  · dsimp only
    rw [if_neg e]
    cases hfj : f j with
    | none => rw [hfj] at hj'; dsimp only at hj' ⊢; rw [has_put_other (key_ne e)]; exact hj'
    | some y => rw [hfj] at hj'; dsimp only at hj' ⊢; exact ⟨by rw [has_put_other (key_ne e)]; exact hj'.1, fun z => by rw [atKey_put_other (key_ne e)]; exact hj'.2 z⟩
theorem kmap_del {W : World} {b n : Nat} {D : DataW Value} {f : Kf} (h : kmap W b n D) (hf : kAt D f) (k : Nat) (hk : k < 1000000000) (ty : TypeId) :
    ∃ W' D', (Builtin.delete_ #[107, 3] ty #[.map (some b), .int .i64 (k : Int)]).run Try.prog W = .ok (.tuple #[]) W' ∧ kmap W' b n D' ∧ kAt D' (fun j => if j = k then none else f j) ∧ W.mapTurned W' b := by
  obtain ⟨W', hrun, hm, ht⟩ := h.drop kmLaw Try.underlying107 (kkey k hk) ty
  refine ⟨W', _, hrun, hm, fun j hj => ?_, ht⟩
  have hj' := hf j hj
  by_cases e : j = k
  · subst e
    dsimp only
    rw [if_pos rfl]
    exact has_del_same
  · dsimp only
    rw [if_neg e]
    cases hfj : f j with
    | none => rw [hfj] at hj'; dsimp only at hj' ⊢; rw [has_del_other (key_ne e)]; exact hj'
    | some y => rw [hfj] at hj'; dsimp only at hj' ⊢; exact ⟨by rw [has_del_other (key_ne e)]; exact hj'.1, fun z => by rw [atKey_del_other (key_ne e)]; exact hj'.2 z⟩
theorem kmap_keep {L : List Nat} {W W' : World} {b n : Nat} {D : DataW Value} (h : kmap W b n D) (hf : Fx L W W') (hb : b ∉ L) : kmap W' b n D := by
  obtain ⟨es, clock, h1, h2⟩ := h
  exact ⟨es, clock, blk_keepF h1 hf hb, h2⟩
theorem kmap_blk {W : World} {b n : Nat} {D : DataW Value} (h : kmap W b n D) : ∃ es clock, W.heap[b]? = some (.map es clock) := by
  obtain ⟨es, clock, h1, _⟩ := h
  exact ⟨es, clock, h1⟩
theorem turned_fx {W W' : World} {b : Nat} (h : W.mapTurned W' b) {L : List Nat} (hb : b ∈ L) : Fx L W W' := Fx.ofGrown h.grown (fun k e => by cases e; exact hb)
/-- A receiver. -/
structure RecAt (B : Nat) (W : World) (r : Nat) (v : Value) (b n : Nat) (D : DataW Value) (xs : List Bv) (f : Kf) : Prop where
  blk : W.heap[r]? = some (.cells #[v, .map (some b)] 109)
  row : W.ownsRow B 22 1 v xs.length (cs bsv xs)
  bds : ∀ x ∈ xs, BdOk W B x
  km : kmap W b n D
  ka : kAt D f
  kb : ∀ k x, f k = some x → BdOk W B x
  hB : B ≤ r
  hb : B ≤ b
abbrev rF (r b : Nat) (v : Value) : List Nat := r :: b :: own v
theorem RecAt.nou8 {B : Nat} {W : World} {r b n : Nat} {v : Value} {D : DataW Value} {xs : List Bv} {f : Kf} (h : RecAt B W r v b n D xs f) : NoU8 W (rF r b v) := by
  intro j hj C fz e
  rcases List.mem_cons.1 hj with rfl | hj
  · rw [h.blk] at e; exact absurd (Obj.cells.inj (Option.some.inj e)).2.1 (by decide)
  rcases List.mem_cons.1 hj with rfl | hj
  · obtain ⟨es, cl, e'⟩ := kmap_blk h.km
    rw [e'] at e; cases e
  · obtain ⟨_, _, C', fz', e'⟩ := own_ltF h.row (mem_own.1 hj)
    rw [e'] at e; exact absurd (Obj.cells.inj (Option.some.inj e)).2.1 (by decide)
theorem RecAt.lt {B : Nat} {W : World} {r b n : Nat} {v : Value} {D : DataW Value} {xs : List Bv} {f : Kf} (h : RecAt B W r v b n D xs f) : ∀ j ∈ rF r b v, j < W.heap.size ∧ B ≤ j := by
  intro j hj
  rcases List.mem_cons.1 hj with rfl | hj
  · exact ⟨(Array.getElem?_eq_some_iff.1 h.blk).1, h.hB⟩
  rcases List.mem_cons.1 hj with rfl | hj
  · obtain ⟨es, cl, e'⟩ := kmap_blk h.km
    exact ⟨(Array.getElem?_eq_some_iff.1 e').1, h.hb⟩
  · obtain ⟨h1, h2, _⟩ := own_ltF h.row (mem_own.1 hj)
    exact ⟨h1, h2⟩
/-- The receiver's own blocks are three. -/
theorem RecAt.apart {B : Nat} {W : World} {r b n : Nat} {v : Value} {D : DataW Value} {xs : List Bv} {f : Kf} (h : RecAt B W r v b n D xs f) : r ≠ b ∧ r ∉ own v ∧ b ∉ own v := by
  obtain ⟨es, cl, e'⟩ := kmap_blk h.km
  refine ⟨fun e => ?_, fun hj => ?_, fun hj => ?_⟩
  · have := h.blk; rw [e, e'] at this; cases this
  · obtain ⟨_, _, C', fz', e2⟩ := own_ltF h.row (mem_own.1 hj)
    rw [h.blk] at e2; exact absurd (Obj.cells.inj (Option.some.inj e2)).2.1 (by decide)
  · obtain ⟨_, _, C', fz', e2⟩ := own_ltF h.row (mem_own.1 hj)
    rw [e'] at e2; cases e2
theorem RecAt.keep {L : List Nat} {B : Nat} {W W' : World} {r b n : Nat} {v : Value} {D : DataW Value} {xs : List Bv} {f : Kf} (h : RecAt B W r v b n D xs f) (hf : Fx L W W') (hn : NoU8 W L) (hd : ∀ j ∈ rF r b v, j ∉ L) : RecAt B W' r v b n D xs f :=
  ⟨blk_keepF h.blk hf (hd r (by simp)), own_keepF h.row hf (fun j hj => hd j (List.mem_cons_of_mem _ (List.mem_cons_of_mem _ (mem_own.2 hj)))), fun x hx => (h.bds x hx).keep hf hn, kmap_keep h.km hf (hd b (by simp)), h.ka, fun k x e => (h.kb k x e).keep hf hn, h.hB, h.hb⟩
theorem RecAt.below {B : Nat} {W W' : World} {r b n : Nat} {v : Value} {D : DataW Value} {xs : List Bv} {f : Kf} (h : RecAt B W r v b n D xs f) (hb : Below W.heap.size W W') : RecAt B W' r v b n D xs f := h.keep (L := []) (Fx.ofBelow hb) (fun j hj => by simp at hj) (fun j _ => by simp)
theorem RecAt.cells {B : Nat} {W : World} {r b n : Nat} {v : Value} {D : DataW Value} {xs : List Bv} {f : Kf} (h : RecAt B W r v b n D xs f) : W.cell? ⟨r, 0, none⟩ = some v ∧ W.cell? ⟨r, 1, none⟩ = some (.map (some b)) ∧ W.frozen? ⟨r, 0, none⟩ = false ∧ W.frozen? ⟨r, 1, none⟩ = false := two_facts ⟨_, h.blk⟩
theorem RecAt.form {B : Nat} {W : World} {r b n : Nat} {v : Value} {D : DataW Value} {xs : List Bv} {f : Kf} (h : RecAt B W r v b n D xs f) : ∃ a c, v = .slice a xs.length c ∧ Sl W 1 a xs.length c (cs bsv xs) := by
  obtain ⟨ao, cap, e, hs⟩ := sl_of_own h.row
  exact ⟨ao, cap, e, hs⟩
end Go.Proofs.Ytpmjgiabedjlgaa

namespace Go.Proofs.Ytpmjgiabedjlgaa
open Go.RowKit Go.Maps
set_option linter.unusedVariables false

theorem infoU8k : (Try.prog.info? 5).map (fun i => (i.zero, i.size, i.bytes)) = some (some (.int .u8 0), 1, 1) := by kernel_rfl
theorem nil_no (x : Addr) (n c : Nat) (w : World) : (binOp .eql 22 (.slice (some x) n c) (.slice none 0 0)).run Try.prog w = .ok (.bool false) w := by rw [Go.Lib.run_eql_slice_nil w _ _ _ _ _ _ _ Try.underlying22]; rfl
theorem nil_yes (n c : Nat) (w : World) : (binOp .eql 22 (.slice none n c) (.slice none 0 0)).run Try.prog w = .ok (.bool true) w := by rw [Go.Lib.run_eql_slice_nil w _ _ _ _ _ _ _ Try.underlying22]; rfl
theorem stop_hereK {p : Prop} (h : Hid p) : p := h.out
/-- A body handed back, in memory of its own. -/
def RetBd (bs : List UInt8) (W : World) (e : Ending) (W' : World) : Prop := ∃ a c, e = .returned (.slice a bs.length c) ∧ Hid (BdOk W' W.heap.size ⟨a, c, bs⟩) ∧ Below W.heap.size W W'
set_option maxRecDepth 100000 in
set_option maxHeartbeats 1000000 in
theorem clone_some (W : World) (b o len cap : Nat) (bs : List UInt8) (hs : Sl W 1 (some ⟨b, o, none⟩) len cap (cs b8 bs)) (hl : len ≤ 1000000000) : Calls Try.prog 53 #[.slice (some ⟨b, o, none⟩) len cap] W (RetBd bs W) := by
  have hn := hs.count
  have HS := Lib.hid (hs.ext (below_alloc W (.cells #[] 5)))
  have HN := Lib.hid hn
  have hnil := nil_no ⟨b, o, none⟩ len cap
  clear hs hn
  go_enter Try.func53, Try.ntmps53
  go_wp2_with (at_builtin; refine stop_hereK ?_)
  refine Lib.hid ?_
  at_builtin
  refine wpList_append_many b8 (fun _ => rfl) _ rfl _ _ 22 rfl W.heap.size 5 (.int .u8 0) 1 Try.underlying22 infoU8k rfl (n := 0) (xs := []) (own_empty (hp_new rfl) (Nat.le_refl _)) rfl HS.out rfl (by unfold maxLen; omega) (by omega) (by simp) ?_
  intro v1 w1 ho1 hb1
  obtain ⟨a1, c1, e1, _⟩ := sl_of_own ho1
  subst e1
  have HO := Lib.hid ho1
  have HB := Lib.hid ((below_alloc W (.cells #[] 5)).trans hb1)
  clear ho1 hb1
  go_wp2
  go_ret
  have hn := HN.out
  refine ⟨a1, c1, by simp [hn], Lib.hid ?_, HB.out⟩
  have := HO.out
  unfold BdOk
  rw [Nat.zero_add, List.nil_append] at this
  subst hn
  exact this
set_option maxRecDepth 100000 in
theorem clone_none (W : World) (len cap : Nat) (bs : List UInt8) (hs : Sl W 1 none len cap (cs b8 bs)) : Calls Try.prog 53 #[.slice none len cap] W (RetBd bs W) := by
  have hn := hs.count
  obtain ⟨h1, h2⟩ : len = 0 ∧ cap = 0 := by
    have := hs.hbare rfl
    have := hs.hle
    omega
  subst h1 h2
  have hx : bs = [] := List.eq_nil_of_length_eq_zero hn
  subst hx
  clear hs hn
  have hnil := nil_yes 0 0
  go_enter Try.func53, Try.ntmps53
  go_wp2
  go_ret
  exact ⟨none, 0, rfl, Lib.hid (nilB_ok _ _), Below.refl _ _⟩
set_option maxRecDepth 100000 in
set_option maxHeartbeats 1000000 in
theorem clone_zero (W : World) (x : Addr) (cap : Nat) (hs : Sl W 1 (some x) 0 cap (cs b8 [])) : Calls Try.prog 53 #[.slice (some x) 0 cap] W (RetBd [] W) := by
  have HS := Lib.hid (hs.ext (below_alloc W (.cells #[] 5)))
  have hnil := nil_no x 0 cap
  clear hs
  go_enter Try.func53, Try.ntmps53
  go_wp2_with (at_builtin; refine stop_hereK ?_)
  refine Lib.hid ?_
  at_builtin
  refine wpList_append_many b8 (fun _ => rfl) _ rfl _ _ 22 rfl W.heap.size 5 (.int .u8 0) 1 Try.underlying22 infoU8k rfl (n := 0) (xs := []) (own_empty (hp_new rfl) (Nat.le_refl _)) rfl HS.out rfl (by unfold maxLen; omega) (by omega) (by simp) ?_
  intro v1 w1 ho1 hb1
  obtain ⟨a1, c1, e1, _⟩ := sl_of_own ho1
  subst e1
  have HO := Lib.hid ho1
  have HB := Lib.hid ((below_alloc W (.cells #[] 5)).trans hb1)
  clear ho1 hb1
  go_wp2
  go_ret
  exact ⟨a1, c1, rfl, HO, HB.out⟩
theorem clone_any (W : World) (a : Option Addr) (len cap : Nat) (bs : List UInt8) (hs : Sl W 1 a len cap (cs b8 bs)) (hl : len ≤ 1000000000) : Calls Try.prog 53 #[.slice a len cap] W (RetBd bs W) := by
  cases a with
  | none => exact clone_none W len cap bs hs
  | some x =>
    rcases Nat.eq_zero_or_pos len with h0 | hp
    · obtain ⟨b, o, sp⟩ := x
      have hn := hs.count
      subst h0
      have hx : bs = [] := List.eq_nil_of_length_eq_zero hn
      subst hx
      exact clone_zero W _ cap hs
    · obtain ⟨b, o, e, _⟩ := hs.addr (by have := hs.count; rw [cs_length]; omega)
      cases e
      exact clone_some W b o len cap bs hs hl
set_option maxRecDepth 100000 in
theorem equal_any (W : World) (a a2 : Option Addr) (len cap len2 cap2 : Nat) (bs b2 : List UInt8) (hs : Sl W 1 a len cap (cs b8 bs)) (hs2 : Sl W 1 a2 len2 cap2 (cs b8 b2)) : Calls Try.prog 55 #[.slice a len cap, .slice a2 len2 cap2] W (fun e W' => e = .returned (.bool (decide (bs = b2))) ∧ W' = W) := by
  have h1 := run_b2s W 22 9 5 Try.underlying22 Try.underlying9 Try.underlying5 hs
  have h2 := run_b2s W 22 9 5 Try.underlying22 Try.underlying9 Try.underlying5 hs2
  clear hs hs2
  go_enter Try.func55, Try.ntmps55
  go_wp2
  go_ret
  exact ⟨by (simp; by_cases h : bs = b2 <;> simp [h]), rfl⟩
set_option maxRecDepth 100000 in
theorem next_any {B : Nat} {W : World} {g k : Nat} {v : Value} {xs : List Bv} (h : Hid (SendAt B W g v k xs)) (hk : (k : Int) ≤ 1048576 ∧ (xs.length : Int) ≤ 16) : Calls Try.prog 52 #[.pointer (some ⟨g, 0, none⟩)] W (fun e W' => e = .returned (.int .i64 ((k : Int) + (xs.length : Int))) ∧ ∃ n, W' = W.drewN n) := by
  obtain ⟨c0, c1, _, _⟩ := h.out.cells
  obtain ⟨a, c, e, _⟩ := h.out.form
  subst e
  have hk0 : (0 : Int) ≤ (k : Int) := by omega
  have hx0 : (0 : Int) ≤ (xs.length : Int) := by omega
  clear h
  go_enter Try.func52, Try.ntmps52
  go_wp2
  go_quiet (fail)
  go_wp2
  go_ret
  exact ⟨by first | rfl | (go_num), _, rfl⟩
set_option maxRecDepth 100000 in
theorem newSender_any (W : World) : Calls Try.prog 32 #[] W (fun e W' => e = .returned (.pointer (some ⟨W.heap.size, 0, none⟩)) ∧ Hid (SendAt W.heap.size W' W.heap.size (.slice none 0 0) 0 []) ∧ Below W.heap.size W W') := by
  go_enter Try.func32, Try.ntmps32
  go_wp2
  go_ret
  exact ⟨rfl, Lib.hid ⟨hp_new rfl, World.ownsRow_nil _ _ _ _, fun x hx => (by simp at hx), Nat.le_refl _⟩, below_alloc _ _⟩
set_option maxRecDepth 100000 in
theorem newReceiver_any (W : World) : Calls Try.prog 33 #[] W (fun e W' => e = .returned (.pointer (some ⟨W.heap.size + 1, 0, none⟩)) ∧ Hid (RecAt W.heap.size W' (W.heap.size + 1) (.slice none 0 0) W.heap.size 0 (.map []) [] (fun _ => none)) ∧ Below W.heap.size W W') := by
  have hmm := @run_makeMap Try.prog
  go_enter Try.func33, Try.ntmps33
  go_wp2
  go_ret
  refine ⟨by simp, Lib.hid ⟨hp_new (by simp), World.ownsRow_nil _ _ _ _, fun x hx => (by simp at hx), ?_, fun k hk => rfl, fun k x e => (by cases e), by omega, Nat.le_refl _⟩, below_step (below_alloc _ _) (below_alloc _ _)⟩
  exact kmap_keep (L := []) (World.ownsMap_made W Try.prog 3 rdV) (Fx.ofBelow (below_alloc _ _)) (by simp)
set_option maxRecDepth 100000 in
theorem acked_any {B : Nat} {W : World} {r b n : Nat} {v : Value} {D : DataW Value} {xs : List Bv} {f : Kf} (h : Hid (RecAt B W r v b n D xs f)) : Calls Try.prog 38 #[.pointer (some ⟨r, 0, none⟩)] W (fun e W' => e = .returned (.int .i64 (xs.length : Int)) ∧ W' = W) := by
  obtain ⟨c0, _, _, _⟩ := h.out.cells
  obtain ⟨a, c, e, _⟩ := h.out.form
  subst e
  clear h
  go_enter Try.func38, Try.ntmps38
  go_wp2
  go_ret
  exact ⟨rfl, rfl⟩
end Go.Proofs.Ytpmjgiabedjlgaa

namespace Go.Proofs.Ytpmjgiabedjlgaa
open Go.RowKit Go.Maps
set_option linter.unusedVariables false

theorem sndRow {B : Nat} {W : World} {g k : Nat} {v : Value} {xs : List Bv} (h : Hid (SendAt B W g v k xs)) : W.ownsRow B 22 1 v xs.length (cs bsv xs) := h.out.row
theorem sndDrew {B : Nat} {W : World} {g k : Nat} {v : Value} {xs : List Bv} (h : Hid (SendAt B W g v k xs)) : Hid (SendAt B W.drew g v k xs) := Lib.hid (h.out.below (below_drew (Below.refl _ _)))
theorem sndAlloc {B : Nat} {W : World} {o : Obj} {g k : Nat} {v : Value} {xs : List Bv} (h : Hid (SendAt B W g v k xs)) : Hid (SendAt B (W.alloc o) g v k xs) := Lib.hid (h.out.below (below_alloc _ _))
theorem sndBelow {B : Nat} {W W' : World} {g k : Nat} {v : Value} {xs : List Bv} (hb : Below W.heap.size W W') (h : Hid (SendAt B W g v k xs)) : Hid (SendAt B W' g v k xs) := Lib.hid (h.out.below hb)
theorem bsv_all (x : Bv) : ∀ u ∈ (#[bsv x] : Array Value).toList, u.oneCell' = true := by
  intro u hu
  simp at hu
  subst hu
  rfl
theorem infoB : (Try.prog.info? 22).map (fun i => (i.zero, i.size, i.bytes)) = some (some (.slice none 0 0), 1, 24) := by kernel_rfl
theorem sl_oneB {W : World} {k : Nat} {x : Bv} (h : BlkAt W k #[bsv x]) : Sl W 1 (some ⟨k, 0, none⟩) 1 1 (cs bsv [x]) := by
  obtain ⟨E, h⟩ := h
  refine ⟨rfl, Nat.le_refl _, by unfold maxLen; omega, (fun h => by cases h), fun j u hj => ⟨k, 0, rfl, ?_⟩⟩
  rw [Nat.zero_add, cell_of_row _ _ _ _ _ _ h]
  simpa [cs] using hj
/-- What Put leaves. -/
def PutRet (B g k : Nat) (v : Value) (xs : List Bv) (bs : List UInt8) (W : World) (e : Ending) (W' : World) : Prop :=
  e = .returned (.tuple #[.int .i64 ((k : Int) + (xs.length : Int)), .int .i64 0]) ∧ ∃ v' x, x.bs = bs ∧ Hid (SendAt B W' g v' k (xs ++ [x])) ∧ Hid (Fx (sF g v) W W') ∧ Hid (∀ j ∈ own v', j ∈ own v ∨ W.heap.size ≤ j)
theorem put_done {B g k : Nat} {v v' : Value} {xs : List Bv} {x : Bv} {bs : List UInt8} {W W1 W2 W3 : World} (h : Hid (SendAt B W g v k xs)) (hx : x.bs = bs) (hb1 : Below W.heap.size W W1) (hbd : BdOk W1 W.heap.size x) (hb2 : Below W1.heap.size W1 W2)
    (ho : W3.ownsRow B 22 1 v' (xs.length + 1) (cs bsv xs ++ [bsv x])) (hg : W2.grownBy W3 v.ownBlock) (hf : Fresh W2 v v') : ∃ u x, x.bs = bs ∧ Hid (SendAt B (W3.setCell ⟨g, 1, none⟩ v') g u k (xs ++ [x])) ∧ Hid (Fx (sF g v) W (W3.setCell ⟨g, 1, none⟩ v')) ∧ Hid (∀ j ∈ own u, j ∈ own v ∨ W.heap.size ≤ j) := by
  have hB : B ≤ W.heap.size := Nat.le_trans h.out.hB (Nat.le_of_lt (h.out.lt g (by simp)).1)
  have hb12 := below_step hb1 hb2
  have s1 := h.out.below hb1
  have f3 : Fx (own v) W W3 := (Fx.ofBelow (L := own v) hb12).trans (Fx.ofGrown (L := own v) hg (fun k e => mem_own.2 e)) (fun k hk => .inl hk)
  have f13 : Fx (own v) W1 W3 := (Fx.ofBelow (L := own v) hb2).trans (Fx.ofGrown (L := own v) hg (fun k e => mem_own.2 e)) (fun k hk => .inl hk)
  have f4 : Fx (sF g v) W (W3.setCell ⟨g, 1, none⟩ v') := (f3.mono (fun k hk => List.mem_cons_of_mem _ hk)).setCell (by simp)
  have f14 : Fx (sF g v) W1 (W3.setCell ⟨g, 1, none⟩ v') := (f13.mono (fun k hk => List.mem_cons_of_mem _ hk)).setCell (by simp)
  have e3 : W3.heap[g]? = some (.cells #[.int .i64 (k : Int), v] 106) := blk_keepF h.out.blk f3 h.out.gne
  have hgv : ∀ j, v'.ownBlock = some j → j ∉ [g] := fun j hj hm => by
    obtain rfl : j = g := by simpa using hm
    obtain ⟨_, _, C', fz', e'⟩ := own_ltF ho hj
    rw [e3] at e'; exact absurd (Obj.cells.inj (Option.some.inj e')).2.1 (by decide)
  refine ⟨v', x, hx, Lib.hid ⟨?_, ?_, ?_, h.out.hB⟩, Lib.hid f4, Lib.hid (fun j hj => ?_)⟩
  · have := heap_setCell_same W3 g 1 _ _ v' e3
    simpa using this
  · rw [cs_append, List.length_append]
    exact own_keepF (L := [g]) ho ((Fx.refl [g] W3).setCell (by simp)) hgv
  · intro y hy
    rcases List.mem_append.1 hy with hy | hy
    · exact (h.out.bds y hy).keep f4 h.out.nou8
    · simp at hy; subst hy
      exact (hbd.lower hB).keep f14 s1.nou8
  · rcases hf j (mem_own.1 hj) with e | e
    · exact .inl (mem_own.2 e)
    · exact .inr (Nat.le_trans hb12.size e)
set_option maxRecDepth 100000 in
set_option maxHeartbeats 4000000 in
theorem put_ok {B : Nat} {W : World} {g k : Nat} {v : Value} {xs : List Bv} (h : Hid (SendAt B W g v k xs)) (a : Option Addr) (len cap : Nat) (bs : List UInt8) (hs : Sl W 1 a len cap (cs b8 bs)) (h16 : xs.length < 16) (hlen : len ≤ 256) (hsum : k + xs.length < 1048576) :
    Calls Try.prog 34 #[.pointer (some ⟨g, 0, none⟩), .slice a len cap] W (PutRet B g k v xs bs W) := by
  obtain ⟨c0, c1, _, f1⟩ := h.out.cells
  obtain ⟨va, vc, e, _⟩ := h.out.form
  subst e
  have h16' : ¬ (16 : Int) ≤ (xs.length : Int) := by omega
  have hl' : ¬ (256 : Int) < (len : Int) := by omega
  have hx0 : (0 : Int) ≤ (xs.length : Int) := by omega
  obtain ⟨S, hS⟩ : ∃ S : Int, (k : Int) + (xs.length : Int) = S := ⟨_, rfl⟩
  have hsum' : ¬ (1048576 : Int) ≤ S := by omega
  have HNX : Hid (∀ W', Hid (SendAt B W' g (.slice va xs.length vc) k xs) → Calls Try.prog 52 #[.pointer (some ⟨g, 0, none⟩)] W' (fun e W'' => e = .returned (.int .i64 S) ∧ ∃ n, W'' = W'.drewN n)) := fun W' h' => by
    have := next_any h' (show (k : Int) ≤ 1048576 ∧ (xs.length : Int) ≤ 16 by omega)
    rw [hS] at this
    exact this
  have HSU := Lib.hid hS
  clear hS hx0
  have HK := Lib.hid (show (k : Int) ≤ 1048576 ∧ (xs.length : Int) ≤ 16 by omega)
  have HS := Lib.hid hs
  clear hs
  go_enter Try.func34, Try.ntmps34
  go_wp2_with fail
  refine (HNX.out _ h).mono ?_
  rintro e w1 ⟨rfl, n1, rfl⟩
  have HA := Lib.hid (h.out.below (below_drewN (Below.refl _ _) n1))
  go_wp2_with fail
  refine (HNX.out _ HA).mono ?_
  rintro e w1 ⟨rfl, n2, rfl⟩
  have HB0 := Lib.hid (below_drewN (Below.refl W.heap.size W) (n1 + n2))
  have HW := Lib.hid (h.out.below HB0.out)
  have HSW := Lib.hid (HS.out.ext HB0.out)
  obtain ⟨c0', c1', _, f1'⟩ := HW.out.cells
  go_upto_region 8 with (fail)
  clear c0 c1 f1 HA
  generalize W.drewN (n1 + n2) = W2 at *
  have hgW2 : g < W2.heap.size := (HW.out.lt g (by simp)).1
  have hBg : B ≤ g := HW.out.hB
  have hgne : some g ≠ (Value.slice va xs.length vc).ownBlock := fun e => HW.out.gne (mem_own.2 e.symm)
  have HCL : Hid (∀ W', Below W2.heap.size W2 W' → Calls Try.prog 53 #[.slice a len cap] W' (RetBd bs W')) := fun W' hb => clone_any W' a len cap bs (HSW.out.ext hb) (by omega)
  go_region_law (first
    | ((rw [if_pos (by simp [Region.wanted])]); go_simp; go_at_call 53; (with_reducible refine (HCL.out _ ?_).mono ?_); (focus (first | exact below_drew (Below.refl _ _) | exact Below.refl _ _)); rintro e w5 ⟨xa, xc, rfl, hbd5, hb5⟩; have c5 := cell_keep hb5 c1'; have f5 := (hb5.frozen hgW2).trans f1'; have hg5 := Nat.lt_of_lt_of_le hgW2 hb5.size)
    | ((refine step_append_row _ rfl (.tmp 32) (.tmp 35) 90 rfl B 22 (.slice none 0 0) 1 24 Try.underlying90 infoB rfl (by decide) (v := .slice va xs.length vc) (n := xs.length) (xs := cs bsv xs) (by rfl) (sndRow (g := g) (k := k) (by (repeat (first | (with_reducible assumption) | (with_reducible refine sndDrew ?_) | (with_reducible refine sndAlloc ?_) | ((with_reducible apply sndBelow); focus (with_reducible assumption)))))) (k := w5.heap.size) (C := #[.slice xa bs.length xc]) (by rfl) (by (repeat (first | ((with_reducible refine blkNew ?_); focus (simp; done)) | (with_reducible refine blkDrew ?_) | (with_reducible refine blkOld ?_)))) rfl (bsv_all ⟨xa, xc, bs⟩) (by unfold maxLen; omega) (by omega) (by first | (simp; done) | (simp; omega)) ?_); intro v9 w9 ho9 hg9 hf9; obtain ⟨a9, n9, e9, _⟩ := sl_of_own ho9; subst e9; have c9 := (World.cell?_of_block (a := ⟨g, 1, none⟩) (hg9.block g (by simp; omega) hgne)).trans (cell_keep (below_alloc w5 _) c5); have f9 := (World.frozen?_of_block (a := ⟨g, 1, none⟩) (hg9.block g (by simp; omega) hgne)).trans (((below_alloc w5 _).frozen (p := ⟨g, 1, none⟩) hg5).trans f5); have HO9 := Lib.hid (And.intro ho9 (And.intro hg9 hf9)); clear ho9 hg9 hf9))
  all_goals
    have hbx := below_step HB0.out (below_step (below_drew (Below.refl W2.heap.size W2)) hb5)
    have hd := put_done (W2 := w5.alloc (.cells #[.slice xa bs.length xc] 22)) (x := ⟨xa, xc, bs⟩) h rfl hbx (hbd5.out.lower HB0.out.size) (below_alloc _ _) HO9.out.1 HO9.out.2.1 HO9.out.2.2
    have HD := Lib.hid hd
    clear hd hbx
    go_wp2
    go_ret2
    exact ⟨by rw [HSU.out]; rfl, HD.out⟩
end Go.Proofs.Ytpmjgiabedjlgaa
