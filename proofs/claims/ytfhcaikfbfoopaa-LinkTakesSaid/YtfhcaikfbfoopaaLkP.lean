/-
  LINK: what lies in memory: bodies, rows of bodies, a sender, a map of bodies, a receiver (plain laws on worlds). No condition.
-/
import Derived.Test.YtfhcaikfbfoopaaProg
import Derived.Test.YtfhcaikfbfoopaaBase1
import Derived.Test.YtfhcaikfbfoopaaBase2
import Derived.Test.YtfhcaikfbfoopaaBase3
import Derived.Test.YtfhcaikfbfoopaaHeld
import Derived.Maps.OwnSet
import Derived.Maps.Views
namespace Go.Proofs.Ytfhcaikfbfoopaa
open Go.RowKit Go.Maps
set_option linter.unusedVariables false

/-- A body: where it lies, its room, its bytes. -/
structure Bv where
  a : Option Addr
  c : Nat
  bs : List UInt8
def bsv (x : Bv) : Value := .slice x.a x.bs.length x.c
theorem bsv_one (x : Bv) : (bsv x).oneCell' = true := rfl
def BdOk (W : World) (B : Nat) (x : Bv) : Prop := W.ownsRow B 5 1 (bsv x) x.bs.length (cs b8 x.bs)
theorem BdOk.sl {W : World} {B : Nat} {x : Bv} (h : BdOk W B x) : Sl W 1 x.a x.bs.length x.c (cs b8 x.bs) := by
  obtain ⟨ao, cap, e, hs⟩ := sl_of_own h
  cases e
  exact hs
def nilB : Bv := ⟨none, 0, []⟩
theorem nilB_ok (W : World) (B : Nat) : BdOk W B nilB := ⟨rfl, .inl ⟨rfl, rfl⟩⟩
theorem BdOk.lower {W : World} {B B' : Nat} {x : Bv} (h : BdOk W B x) (hb : B' ≤ B) : BdOk W B' x := by
  refine ⟨h.1, ?_⟩
  rcases h.2 with hn | ⟨g, cap, cur, hv, hB, rest⟩
  · exact .inl hn
  · exact .inr ⟨g, cap, cur, hv, Nat.le_trans hb hB, rest⟩
/-- All blocks but those on the list stand. -/
structure Fx (L : List Nat) (W W' : World) : Prop where
  os : W'.os = W.os
  tape : W'.tape = W.tape
  output : W'.output = W.output
  size : W.heap.size ≤ W'.heap.size
  block : ∀ k, k < W.heap.size → k ∉ L → W'.heap[k]? = W.heap[k]?
theorem Fx.refl (L : List Nat) (W : World) : Fx L W W := ⟨rfl, rfl, rfl, Nat.le_refl _, fun _ _ _ => rfl⟩
theorem Fx.ofBelow {L : List Nat} {W W' : World} (h : Below W.heap.size W W') : Fx L W W' := ⟨h.os, h.tape, h.output, h.size, fun k hk _ => h.block k hk⟩
theorem Fx.ofGrown {L : List Nat} {W W' : World} {row : Option Nat} (h : W.grownBy W' row) (hr : ∀ k, row = some k → k ∈ L) : Fx L W W' := ⟨h.os, h.tape, h.output, h.size, fun k hk hn => h.block k hk (fun e => hn (hr k e.symm))⟩
theorem Fx.setCell {L : List Nat} {W W' : World} (h : Fx L W W') {a : Addr} {v : Value} (ha : a.block ∈ L) : Fx L W (W'.setCell a v) := by
  have hb : Below (W'.heap.size + a.block) W' W' := Below.refl _ _
  have h0 := (Below.refl 0 W').setCell (p := a) (Nat.zero_le _) v
  refine ⟨h0.os.trans h.os, h0.tape.trans h.tape, h0.output.trans h.output, Nat.le_trans h.size h0.size, fun k hk hn => ?_⟩
  rw [heap_setCell_other _ _ _ _ (fun e => hn (by rw [show k = a.block from e]; exact ha))]
  exact h.block k hk hn
theorem Fx.trans {L L' : List Nat} {W W' W'' : World} (h : Fx L W W') (h' : Fx L' W' W'') (hl : ∀ k ∈ L', k ∈ L ∨ W.heap.size ≤ k) : Fx L W W'' :=
  ⟨h'.os.trans h.os, h'.tape.trans h.tape, h'.output.trans h.output, Nat.le_trans h.size h'.size, fun k hk hn => (h'.block k (Nat.lt_of_lt_of_le hk h.size) (fun e => (hl k e).elim hn (fun e2 => absurd hk (Nat.not_lt.2 e2)))).trans (h.block k hk hn)⟩
theorem Fx.step {L : List Nat} {W W' W'' : World} (h : Fx L W W') (hb : Below W'.heap.size W' W'') : Fx L W W'' := h.trans (Fx.ofBelow (L := []) hb) (fun k hk => by simp at hk)
theorem Fx.below {L : List Nat} {W W' : World} {B : Nat} (h : Fx L W W') (hl : ∀ k ∈ L, B ≤ k) (hB : B ≤ W.heap.size) : Below B W W' :=
  ⟨h.os, h.tape, h.output, h.size, fun k hk => h.block k (Nat.lt_of_lt_of_le hk hB) (fun e => absurd hk (Nat.not_lt.2 (hl k e)))⟩
theorem Fx.drewN {L : List Nat} {W W' : World} (h : Fx L W W') (n : Nat) : Fx L W (W'.drewN n) := ⟨h.os, h.tape, h.output, h.size, h.block⟩
theorem Fx.mono {L L' : List Nat} {W W' : World} (h : Fx L W W') (hl : ∀ k ∈ L, k ∈ L') : Fx L' W W' := ⟨h.os, h.tape, h.output, h.size, fun k hk hn => h.block k hk (fun e => hn (hl k e))⟩
/-- No block of bytes is on the list. -/
def NoU8 (W : World) (L : List Nat) : Prop := ∀ j ∈ L, ∀ C fz, W.heap[j]? ≠ some (.cells C 5 fz)
theorem BdOk.keep {L : List Nat} {W W' : World} {B : Nat} {x : Bv} (h : BdOk W B x) (hf : Fx L W W') (hn : NoU8 W L) : BdOk W' B x := by
  refine ⟨h.1, ?_⟩
  rcases h.2 with hn' | ⟨g, cap, cur, hv, hB, hg, rest⟩
  · exact .inl hn'
  · refine .inr ⟨g, cap, cur, hv, hB, ?_, rest⟩
    rw [hf.block g (Array.getElem?_eq_some_iff.1 hg).1 (fun e => hn g e _ _ hg)]
    exact hg
theorem own_keepF {L : List Nat} {W W' : World} {B size n : Nat} {e : TypeId} {v : Value} {xs : List Value} (h : W.ownsRow B e size v n xs) (hf : Fx L W W') (hv : ∀ j, v.ownBlock = some j → j ∉ L) : W'.ownsRow B e size v n xs := by
  refine ⟨h.1, ?_⟩
  rcases h.2 with hn' | ⟨g, cap, cur, hv', hB, hg, rest⟩
  · exact .inl hn'
  · refine .inr ⟨g, cap, cur, hv', hB, ?_, rest⟩
    rw [hf.block g (Array.getElem?_eq_some_iff.1 hg).1 (hv g (by rw [hv']; rfl))]
    exact hg
theorem own_ltF {W : World} {B size n k : Nat} {e : TypeId} {v : Value} {xs : List Value} (h : W.ownsRow B e size v n xs) (hk : v.ownBlock = some k) : k < W.heap.size ∧ B ≤ k ∧ ∃ C fz, W.heap[k]? = some (.cells C e fz) := by
  rcases h.2 with ⟨hv, _⟩ | ⟨j, cap, cur, hv, hB, hj, _⟩
  · rw [hv] at hk; cases hk
  · rw [hv] at hk
    simp [Value.ownBlock] at hk
    subst hk
    exact ⟨(Array.getElem?_eq_some_iff.1 hj).1, hB, _, _, hj⟩
theorem blk_keepF {L : List Nat} {W W' : World} {k : Nat} {o : Obj} (h : W.heap[k]? = some o) (hf : Fx L W W') (hk : k ∉ L) : W'.heap[k]? = some o := by
  rw [hf.block k (Array.getElem?_eq_some_iff.1 h).1 hk]
  exact h
/-- A sender. -/
structure SendAt (B : Nat) (W : World) (g : Nat) (v : Value) (k : Nat) (xs : List Bv) : Prop where
  blk : W.heap[g]? = some (.cells #[.int .i64 (k : Int), v] 91)
  row : W.ownsRow B 22 1 v xs.length (cs bsv xs)
  bds : ∀ x ∈ xs, BdOk W B x
  hB : B ≤ g
def own (v : Value) : List Nat := v.ownBlock.toList
theorem mem_own {v : Value} {j : Nat} : j ∈ own v ↔ v.ownBlock = some j := by unfold own; simp
/-- The sender's own blocks. -/
abbrev sF (g : Nat) (v : Value) : List Nat := g :: own v
theorem SendAt.nou8 {B : Nat} {W : World} {g k : Nat} {v : Value} {xs : List Bv} (h : SendAt B W g v k xs) : NoU8 W (sF g v) := by
  intro j hj C fz e
  rcases List.mem_cons.1 hj with rfl | hj
  · rw [h.blk] at e; exact absurd (Obj.cells.inj (Option.some.inj e)).2.1 (by decide)
  · obtain ⟨_, _, C', fz', e'⟩ := own_ltF h.row (mem_own.1 hj)
    rw [e'] at e; exact absurd (Obj.cells.inj (Option.some.inj e)).2.1 (by decide)
theorem SendAt.lt {B : Nat} {W : World} {g k : Nat} {v : Value} {xs : List Bv} (h : SendAt B W g v k xs) : ∀ j ∈ sF g v, j < W.heap.size ∧ B ≤ j := by
  intro j hj
  rcases List.mem_cons.1 hj with rfl | hj
  · exact ⟨(Array.getElem?_eq_some_iff.1 h.blk).1, h.hB⟩
  · obtain ⟨h1, h2, _⟩ := own_ltF h.row (mem_own.1 hj)
    exact ⟨h1, h2⟩
theorem SendAt.gne {B : Nat} {W : World} {g k : Nat} {v : Value} {xs : List Bv} (h : SendAt B W g v k xs) : g ∉ own v := by
  intro hj
  obtain ⟨_, _, C', fz', e'⟩ := own_ltF h.row (mem_own.1 hj)
  rw [h.blk] at e'; exact absurd (Obj.cells.inj (Option.some.inj e')).2.1 (by decide)
theorem SendAt.keep {L : List Nat} {B : Nat} {W W' : World} {g k : Nat} {v : Value} {xs : List Bv} (h : SendAt B W g v k xs) (hf : Fx L W W') (hn : NoU8 W L) (hd : ∀ j ∈ sF g v, j ∉ L) : SendAt B W' g v k xs :=
  ⟨blk_keepF h.blk hf (hd g (by simp)), own_keepF h.row hf (fun j hj => hd j (List.mem_cons_of_mem _ (mem_own.2 hj))), fun x hx => (h.bds x hx).keep hf hn, h.hB⟩
theorem SendAt.below {B : Nat} {W W' : World} {g k : Nat} {v : Value} {xs : List Bv} (h : SendAt B W g v k xs) (hb : Below W.heap.size W W') : SendAt B W' g v k xs := h.keep (L := []) (Fx.ofBelow hb) (fun j hj => by simp at hj) (fun j _ => by simp)
theorem SendAt.cells {B : Nat} {W : World} {g k : Nat} {v : Value} {xs : List Bv} (h : SendAt B W g v k xs) : W.cell? ⟨g, 0, none⟩ = some (.int .i64 (k : Int)) ∧ W.cell? ⟨g, 1, none⟩ = some v ∧ W.frozen? ⟨g, 0, none⟩ = false ∧ W.frozen? ⟨g, 1, none⟩ = false := two_facts ⟨_, h.blk⟩
theorem SendAt.form {B : Nat} {W : World} {g k : Nat} {v : Value} {xs : List Bv} (h : SendAt B W g v k xs) : ∃ a c, v = .slice a xs.length c ∧ Sl W 1 a xs.length c (cs bsv xs) := by
  obtain ⟨ao, cap, e, hs⟩ := sl_of_own h.row
  exact ⟨ao, cap, e, hs⟩
/-! ### a map of bodies -/
def rdV (v : Value) : Option (DataW Value × List MemPlace) := some (.held v, [])
theorem kmLaw : Keyed Try.prog 3 := int_keyed Try.underlying3
def kmap (W : World) (b n : Nat) (D : DataW Value) : Prop := W.ownsMap Try.prog 3 rdV b n D
/-- What the map holds, by key. -/
abbrev Kf := Nat → Option Bv
def kAt (D : DataW Value) (f : Kf) : Prop := ∀ k : Nat, k < 1000000000 → match f k with
  | none => has D (.int .i64 (k : Int)) = false
  | some x => has D (.int .i64 (k : Int)) = true ∧ ∀ z, D.atKey (.int .i64 (k : Int)) z = .held (bsv x)
theorem wf_key (k : Nat) (hk : k < 1000000000) : (Lit.int .i64 (k : Int)).wf = true := by
  exact WalkArith.wf_i64 (by omega)
theorem kkey (k : Nat) (hk : k < 1000000000) : keyOf Try.prog 3 (.int .i64 (k : Int)) = some (.int .i64 (k : Int)) := keyOf_int_mk Try.underlying3 (wf_key k hk)
theorem zeroB (w : World) : (zeroValue 22).run Try.prog w = .ok (.slice none 0 0) w := by kernel_rfl
theorem kmap_look {W : World} {b n : Nat} {D : DataW Value} {f : Kf} (h : kmap W b n D) (hf : kAt D f) (k : Nat) (hk : k < 1000000000) :
    (Instr.lookup 93 (.map (some b)) (.int .i64 (k : Int)) true).run Try.prog W = .ok (.tuple #[bsv ((f k).getD nilB), .bool (f k).isSome]) W := by
  obtain ⟨v, ps, hrun, hv⟩ := h.look_ok kmLaw Try.underlying93 (zeroB W) (zd := .held (.slice none 0 0)) (zp := []) rfl (kkey k hk)
  have hv' : DataW.held v = D.atKey (.int .i64 (k : Int)) (.held (.slice none 0 0)) := by
    unfold rdV at hv
    exact (Prod.mk.inj (Option.some.inj hv)).1
  have hk' := hf k hk
  rw [hrun]
  cases hfk : f k with
  | none =>
    rw [hfk] at hk'
    dsimp only at hk'
    rw [atKey_of_not_has hk'] at hv'
    rw [hk', DataW.held.inj hv']
    rfl
  | some x =>
    rw [hfk] at hk'
    dsimp only at hk'
    rw [hk'.2] at hv'
    rw [hk'.1, DataW.held.inj hv']
    rfl
theorem keyLit (k : Nat) : WideAt.IsKeyLit (.int .i64 (k : Int)) := by trivial
theorem key_ne {j k : Nat} (h : j ≠ k) : (Lit.int .i64 (j : Int)) ≠ .int .i64 (k : Int) := fun e => h (by have := (Lit.int.inj e).2; omega)
theorem kmap_put {W : World} {b n : Nat} {D : DataW Value} {f : Kf} (h : kmap W b n D) (hf : kAt D f) (hn : n < 1000000) (k : Nat) (hk : k < 1000000000) (x : Bv) :
    ∃ W' D', (Instr.mapUpdate 93 (.map (some b)) (.int .i64 (k : Int)) (bsv x)).run Try.prog W = .ok () W' ∧ kmap W' b (n + 1) D' ∧ kAt D' (fun j => if j = k then some x else f j) ∧ W.mapTurned W' b := by
  obtain ⟨W', hrun, hm, ht⟩ := h.store kmLaw Try.underlying93 (by unfold maxLen; omega) (kkey k hk) (d := .held (bsv x)) (ps := []) rfl
  refine ⟨W', _, hrun, hm, fun j hj => ?_, ht⟩
  have hj' := hf j hj
  by_cases e : j = k
  · subst e
    dsimp only
    rw [if_pos rfl]
    exact ⟨has_put_same h.isMap (keyLit j) _, fun z => atKey_put_same h.isMap (keyLit j) _ z⟩
  · dsimp only
    rw [if_neg e]
    cases hfj : f j with
    | none => rw [hfj] at hj'; dsimp only at hj' ⊢; rw [has_put_other (key_ne e)]; exact hj'
    | some y => rw [hfj] at hj'; dsimp only at hj' ⊢; exact ⟨by rw [has_put_other (key_ne e)]; exact hj'.1, fun z => by rw [atKey_put_other (key_ne e)]; exact hj'.2 z⟩
theorem kmap_del {W : World} {b n : Nat} {D : DataW Value} {f : Kf} (h : kmap W b n D) (hf : kAt D f) (k : Nat) (hk : k < 1000000000) (ty : TypeId) :
    ∃ W' D', (Builtin.delete_ #[93, 3] ty #[.map (some b), .int .i64 (k : Int)]).run Try.prog W = .ok (.tuple #[]) W' ∧ kmap W' b n D' ∧ kAt D' (fun j => if j = k then none else f j) ∧ W.mapTurned W' b := by
  obtain ⟨W', hrun, hm, ht⟩ := h.drop kmLaw Try.underlying93 (kkey k hk) ty
  refine ⟨W', _, hrun, hm, fun j hj => ?_, ht⟩
  have hj' := hf j hj
  by_cases e : j = k
  · subst e
    dsimp only
    rw [if_pos rfl]
    exact has_del_same
  · dsimp only
    rw [if_neg e]
    cases hfj : f j with
    | none => rw [hfj] at hj'; dsimp only at hj' ⊢; rw [has_del_other (key_ne e)]; exact hj'
    | some y => rw [hfj] at hj'; dsimp only at hj' ⊢; exact ⟨by rw [has_del_other (key_ne e)]; exact hj'.1, fun z => by rw [atKey_del_other (key_ne e)]; exact hj'.2 z⟩
theorem kmap_keep {L : List Nat} {W W' : World} {b n : Nat} {D : DataW Value} (h : kmap W b n D) (hf : Fx L W W') (hb : b ∉ L) : kmap W' b n D := by
  obtain ⟨es, clock, h1, h2⟩ := h
  exact ⟨es, clock, blk_keepF h1 hf hb, h2⟩
theorem kmap_blk {W : World} {b n : Nat} {D : DataW Value} (h : kmap W b n D) : ∃ es clock, W.heap[b]? = some (.map es clock) := by
  obtain ⟨es, clock, h1, _⟩ := h
  exact ⟨es, clock, h1⟩
theorem turned_fx {W W' : World} {b : Nat} (h : W.mapTurned W' b) {L : List Nat} (hb : b ∈ L) : Fx L W W' := Fx.ofGrown h.grown (fun k e => by cases e; exact hb)
/-- A receiver. -/
structure RecAt (B : Nat) (W : World) (r : Nat) (v : Value) (b n : Nat) (D : DataW Value) (xs : List Bv) (f : Kf) : Prop where
  blk : W.heap[r]? = some (.cells #[v, .map (some b)] 95)
  row : W.ownsRow B 22 1 v xs.length (cs bsv xs)
  bds : ∀ x ∈ xs, BdOk W B x
  km : kmap W b n D
  ka : kAt D f
  kb : ∀ k x, f k = some x → BdOk W B x
  hB : B ≤ r
  hb : B ≤ b
abbrev rF (r b : Nat) (v : Value) : List Nat := r :: b :: own v
theorem RecAt.nou8 {B : Nat} {W : World} {r b n : Nat} {v : Value} {D : DataW Value} {xs : List Bv} {f : Kf} (h : RecAt B W r v b n D xs f) : NoU8 W (rF r b v) := by
  intro j hj C fz e
  rcases List.mem_cons.1 hj with rfl | hj
  · rw [h.blk] at e; exact absurd (Obj.cells.inj (Option.some.inj e)).2.1 (by decide)
  rcases List.mem_cons.1 hj with rfl | hj
  · obtain ⟨es, cl, e'⟩ := kmap_blk h.km
    rw [e'] at e; cases e
  · obtain ⟨_, _, C', fz', e'⟩ := own_ltF h.row (mem_own.1 hj)
    rw [e'] at e; exact absurd (Obj.cells.inj (Option.some.inj e)).2.1 (by decide)
theorem RecAt.lt {B : Nat} {W : World} {r b n : Nat} {v : Value} {D : DataW Value} {xs : List Bv} {f : Kf} (h : RecAt B W r v b n D xs f) : ∀ j ∈ rF r b v, j < W.heap.size ∧ B ≤ j := by
  intro j hj
  rcases List.mem_cons.1 hj with rfl | hj
  · exact ⟨(Array.getElem?_eq_some_iff.1 h.blk).1, h.hB⟩
  rcases List.mem_cons.1 hj with rfl | hj
  · obtain ⟨es, cl, e'⟩ := kmap_blk h.km
    exact ⟨(Array.getElem?_eq_some_iff.1 e').1, h.hb⟩
  · obtain ⟨h1, h2, _⟩ := own_ltF h.row (mem_own.1 hj)
    exact ⟨h1, h2⟩
/-- The receiver's own blocks are three. -/
theorem RecAt.apart {B : Nat} {W : World} {r b n : Nat} {v : Value} {D : DataW Value} {xs : List Bv} {f : Kf} (h : RecAt B W r v b n D xs f) : r ≠ b ∧ r ∉ own v ∧ b ∉ own v := by
  obtain ⟨es, cl, e'⟩ := kmap_blk h.km
  refine ⟨fun e => ?_, fun hj => ?_, fun hj => ?_⟩
  · have := h.blk; rw [e, e'] at this; cases this
  · obtain ⟨_, _, C', fz', e2⟩ := own_ltF h.row (mem_own.1 hj)
    rw [h.blk] at e2; exact absurd (Obj.cells.inj (Option.some.inj e2)).2.1 (by decide)
  · obtain ⟨_, _, C', fz', e2⟩ := own_ltF h.row (mem_own.1 hj)
    rw [e'] at e2; cases e2
theorem RecAt.keep {L : List Nat} {B : Nat} {W W' : World} {r b n : Nat} {v : Value} {D : DataW Value} {xs : List Bv} {f : Kf} (h : RecAt B W r v b n D xs f) (hf : Fx L W W') (hn : NoU8 W L) (hd : ∀ j ∈ rF r b v, j ∉ L) : RecAt B W' r v b n D xs f :=
  ⟨blk_keepF h.blk hf (hd r (by simp)), own_keepF h.row hf (fun j hj => hd j (List.mem_cons_of_mem _ (List.mem_cons_of_mem _ (mem_own.2 hj)))), fun x hx => (h.bds x hx).keep hf hn, kmap_keep h.km hf (hd b (by simp)), h.ka, fun k x e => (h.kb k x e).keep hf hn, h.hB, h.hb⟩
theorem RecAt.below {B : Nat} {W W' : World} {r b n : Nat} {v : Value} {D : DataW Value} {xs : List Bv} {f : Kf} (h : RecAt B W r v b n D xs f) (hb : Below W.heap.size W W') : RecAt B W' r v b n D xs f := h.keep (L := []) (Fx.ofBelow hb) (fun j hj => by simp at hj) (fun j _ => by simp)
theorem RecAt.cells {B : Nat} {W : World} {r b n : Nat} {v : Value} {D : DataW Value} {xs : List Bv} {f : Kf} (h : RecAt B W r v b n D xs f) : W.cell? ⟨r, 0, none⟩ = some v ∧ W.cell? ⟨r, 1, none⟩ = some (.map (some b)) ∧ W.frozen? ⟨r, 0, none⟩ = false ∧ W.frozen? ⟨r, 1, none⟩ = false := two_facts ⟨_, h.blk⟩
theorem RecAt.form {B : Nat} {W : World} {r b n : Nat} {v : Value} {D : DataW Value} {xs : List Bv} {f : Kf} (h : RecAt B W r v b n D xs f) : ∃ a c, v = .slice a xs.length c ∧ Sl W 1 a xs.length c (cs bsv xs) := by
  obtain ⟨ao, cap, e, hs⟩ := sl_of_own h.row
  exact ⟨ao, cap, e, hs⟩
end Go.Proofs.Ytfhcaikfbfoopaa
