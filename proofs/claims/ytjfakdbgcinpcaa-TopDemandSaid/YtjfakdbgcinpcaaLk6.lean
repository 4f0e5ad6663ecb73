/-
  LINK: what lies in memory: bodies, rows of bodies, a sender, a map of bodies, a receiver (plain laws on worlds). No condition.
-/
import Derived.Test.YtjfakdbgcinpcaaProg
import Derived.Test.YtjfakdbgcinpcaaBase1
import Derived.Test.YtjfakdbgcinpcaaBase7
import Derived.Test.YtjfakdbgcinpcaaHeld
import Derived.Maps.OwnSet
import Derived.Maps.Views
import Derived.RegionTactic
import Derived.Test.YtjfakdbgcinpcaaBase14
import Derived.BigQuiet
import Derived.Lib.SliceRun
import Derived.Laws.StructEq
import Derived.StillTailTactics
import Derived.Deep.DeepCutAuto
import Derived.Deep.QuietTactic
import Derived.WalkSpells
import Derived.WalkLawsBesides
import Derived.BigRegion
import Derived.Deep.RegionHeld3
import Derived.Deep.RegionLaw
namespace Go.Proofs.Ytjfakdbgcinpcaa
open Go.RowKit Go.Maps
set_option linter.unusedVariables false

/-- A body: where it lies, its room, its bytes. -/
structure Bv where
  a : Option Addr
  c : Nat
  bs : List UInt8
def bsv (x : Bv) : Value := .slice x.a x.bs.length x.c
def BdOk (W : World) (B : Nat) (x : Bv) : Prop := W.ownsRow B 5 1 (bsv x) x.bs.length (cs b8 x.bs)
theorem BdOk.sl {W : World} {B : Nat} {x : Bv} (h : BdOk W B x) : Sl W 1 x.a x.bs.length x.c (cs b8 x.bs) := by
  obtain ⟨ao, cap, e, hs⟩ := sl_of_own h
  cases e
  exact hs
/-- All blocks but those on the list stand. -/
structure Fx (L : List Nat) (W W' : World) : Prop where
  os : W'.os = W.os
  tape : W'.tape = W.tape
  output : W'.output = W.output
  size : W.heap.size ≤ W'.heap.size
  block : ∀ k, k < W.heap.size → k ∉ L → W'.heap[k]? = W.heap[k]?
theorem Fx.refl (L : List Nat) (W : World) : Fx L W W := ⟨rfl, rfl, rfl, Nat.le_refl _, fun _ _ _ => rfl⟩
theorem Fx.ofBelow {L : List Nat} {W W' : World} (h : Below W.heap.size W W') : Fx L W W' := ⟨h.os, h.tape, h.output, h.size, fun k hk _ => h.block k hk⟩
theorem Fx.setCell {L : List Nat} {W W' : World} (h : Fx L W W') {a : Addr} {v : Value} (ha : a.block ∈ L) : Fx L W (W'.setCell a v) := by
  have hb : Below (W'.heap.size + a.block) W' W' := Below.refl _ _
  have h0 := (Below.refl 0 W').setCell (p := a) (Nat.zero_le _) v
  refine ⟨h0.os.trans h.os, h0.tape.trans h.tape, h0.output.trans h.output, Nat.le_trans h.size h0.size, fun k hk hn => ?_⟩
  rw [heap_setCell_other _ _ _ _ (fun e => hn (by rw [show k = a.block from e]; exact ha))]
  exact h.block k hk hn
theorem Fx.trans {L L' : List Nat} {W W' W'' : World} (h : Fx L W W') (h' : Fx L' W' W'') (hl : ∀ k ∈ L', k ∈ L ∨ W.heap.size ≤ k) : Fx L W W'' :=
  ⟨h'.os.trans h.os, h'.tape.trans h.tape, h'.output.trans h.output, Nat.le_trans h.size h'.size, fun k hk hn => (h'.block k (Nat.lt_of_lt_of_le hk h.size) (fun e => (hl k e).elim hn (fun e2 => absurd hk (Nat.not_lt.2 e2)))).trans (h.block k hk hn)⟩
theorem Fx.step {L : List Nat} {W W' W'' : World} (h : Fx L W W') (hb : Below W'.heap.size W' W'') : Fx L W W'' := h.trans (Fx.ofBelow (L := []) hb) (fun k hk => by simp at hk)
theorem Fx.below {L : List Nat} {W W' : World} {B : Nat} (h : Fx L W W') (hl : ∀ k ∈ L, B ≤ k) (hB : B ≤ W.heap.size) : Below B W W' :=
  ⟨h.os, h.tape, h.output, h.size, fun k hk => h.block k (Nat.lt_of_lt_of_le hk hB) (fun e => absurd hk (Nat.not_lt.2 (hl k e)))⟩
theorem Fx.drewN {L : List Nat} {W W' : World} (h : Fx L W W') (n : Nat) : Fx L W (W'.drewN n) := ⟨h.os, h.tape, h.output, h.size, h.block⟩
theorem Fx.mono {L L' : List Nat} {W W' : World} (h : Fx L W W') (hl : ∀ k ∈ L, k ∈ L') : Fx L' W W' := ⟨h.os, h.tape, h.output, h.size, fun k hk hn => h.block k hk (fun e => hn (hl k e))⟩
/-- No block of bytes is on the list. -/
def NoU8 (W : World) (L : List Nat) : Prop := ∀ j ∈ L, ∀ C fz, W.heap[j]? ≠ some (.cells C 5 fz)
theorem BdOk.keep {L : List Nat} {W W' : World} {B : Nat} {x : Bv} (h : BdOk W B x) (hf : Fx L W W') (hn : NoU8 W L) : BdOk W' B x := by
  refine ⟨h.1, ?_⟩
  rcases h.2 with hn' | ⟨g, cap, cur, hv, hB, hg, rest⟩
  · exact .inl hn'
  · refine .inr ⟨g, cap, cur, hv, hB, ?_, rest⟩
    rw [hf.block g (Array.getElem?_eq_some_iff.1 hg).1 (fun e => hn g e _ _ hg)]
    exact hg
theorem own_keepF {L : List Nat} {W W' : World} {B size n : Nat} {e : TypeId} {v : Value} {xs : List Value} (h : W.ownsRow B e size v n xs) (hf : Fx L W W') (hv : ∀ j, v.ownBlock = some j → j ∉ L) : W'.ownsRow B e size v n xs := by
  refine ⟨h.1, ?_⟩
  rcases h.2 with hn' | ⟨g, cap, cur, hv', hB, hg, rest⟩
  · exact .inl hn'
  · refine .inr ⟨g, cap, cur, hv', hB, ?_, rest⟩
    rw [hf.block g (Array.getElem?_eq_some_iff.1 hg).1 (hv g (by rw [hv']; rfl))]
    exact hg
theorem own_ltF {W : World} {B size n k : Nat} {e : TypeId} {v : Value} {xs : List Value} (h : W.ownsRow B e size v n xs) (hk : v.ownBlock = some k) : k < W.heap.size ∧ B ≤ k ∧ ∃ C fz, W.heap[k]? = some (.cells C e fz) := by
  rcases h.2 with ⟨hv, _⟩ | ⟨j, cap, cur, hv, hB, hj, _⟩
  · rw [hv] at hk; cases hk
  · rw [hv] at hk
    simp [Value.ownBlock] at hk
    subst hk
    exact ⟨(Array.getElem?_eq_some_iff.1 hj).1, hB, _, _, hj⟩
def own (v : Value) : List Nat := v.ownBlock.toList
theorem mem_own {v : Value} {j : Nat} : j ∈ own v ↔ v.ownBlock = some j := by unfold own; simp
/-- What the map holds, by key. -/
abbrev Kf := Nat → Option Bv
end Go.Proofs.Ytjfakdbgcinpcaa

namespace Go.Proofs.Ytjfakdbgcinpcaa
open Go.RowKit Go.Maps
set_option linter.unusedVariables false

/-- A list of bodies in memory of its own. -/
structure OutAt (B : Nat) (W : World) (u : Value) (ys : List Bv) : Prop where
  row : W.ownsRow B 68 1 u ys.length (cs bsv ys)
  bds : ∀ y ∈ ys, BdOk W B y
theorem OutAt.keep {L : List Nat} {B : Nat} {W W' : World} {u : Value} {ys : List Bv} (h : OutAt B W u ys) (hf : Fx L W W') (hn : NoU8 W L) (hd : ∀ j ∈ own u, j ∉ L) : OutAt B W' u ys := ⟨own_keepF h.row hf (fun j hj => hd j (mem_own.2 hj)), fun y hy => (h.bds y hy).keep hf hn⟩
theorem OutAt.below {B : Nat} {W W' : World} {u : Value} {ys : List Bv} (h : OutAt B W u ys) (hb : Below W.heap.size W W') : OutAt B W' u ys := h.keep (L := []) (Fx.ofBelow hb) (fun j hj => by simp at hj) (fun j _ => by simp)
end Go.Proofs.Ytjfakdbgcinpcaa

namespace Go.Proofs.Ytjfakdbgcinpcaa
open Go.RowKit Go.Maps
set_option linter.unusedVariables false

theorem wpList_append_row {P : Program} (w : World) {ops : Array Oper} {rest : List Oper} {o : Oper} {a : Act} {Q : Exit → Act → World → Prop}
    (hgd : o.guard = none) (s x : Operand) (t : TypeId)
    (ho : o.op = .call { callee := .builtin .append, args := #[s, x], argTypes := #[t, t] })
    (B : Nat) (e : TypeId) (z : Value) (size bytes : Nat) (ht : P.underlying t = some (.slice e))
    (hinfo : (P.info? e).map (fun i => (i.zero, i.size, i.bytes)) = some (some z, size, bytes)) (hzs : z.cells.size = size) (hsz : 0 < size)
    {v : Value} {n : Nat} {xs : List Value} (hs : a.eval s = v) (hown : w.ownsRow B e size v n xs) {k : Nat} {C : Array Value} (hx : a.eval x = .slice (some ⟨k, 0, none⟩) 1 1) (hk : BlkAt w k C) (hC : C.size = size) (h1 : ∀ u ∈ C.toList, u.oneCell' = true)
    (h63 : n + 1 ≤ maxLen) (hbytes : (n + 1) * bytes ≤ 140737488355328) (hB : B ≤ w.heap.size)
    (hK : ∀ v' w', w'.ownsRow B e size v' (n + 1) (xs ++ C.toList) → w.grownBy w' v.ownBlock → Fresh w v v' → wpList P ops Q rest (a.put o.dst v') w') :
    wpList P ops Q (o :: rest) a w := by
  refine wpList_plain hgd fun K hK' => ?_
  obtain ⟨E', hE⟩ := hk
  obtain ⟨v', w', hrun, r1, r2, r3⟩ := run_append_fresh (P := P) w B t o.type e z size bytes ht hinfo hzs hsz v n xs hown ⟨k, 0, none⟩ 1 1 C.toList (by rw [Array.length_toList, hC, Nat.one_mul])
    (fun j u hj => by rw [Addr.add_lit, Nat.zero_add, cell_of_row _ _ _ _ _ _ hE]; simpa using hj) h1 h63 hbytes hB
  unfold Oper.wp
  simp [execOp, ho, resolve, invoke, builtin, hs, hx, hrun, Result.andThen]
  exact hK' _ _ (hK v' w' r1 r2 r3)
section
variable {B : Nat} {W : World} {r b n : Nat} {v : Value} {D : DataW Value} {xs : List Bv} {f : Kf}
end
end Go.Proofs.Ytjfakdbgcinpcaa
