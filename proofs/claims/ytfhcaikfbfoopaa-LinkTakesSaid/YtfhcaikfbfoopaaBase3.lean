/-
  SLICES FOR THE WALK, MORE: cuts 's[lo:hi]'. No condition.
-/
import Derived.Test.YtfhcaikfbfoopaaBase2
import Derived.Deep.Quiet
namespace Go.Proofs.Ytfhcaikfbfoopaa
open Go.RowKit
set_option linter.unusedVariables false
/-- 's[lo:hi]', whatever s: the value, and what it holds. The run equation is laid ahead of the walk. -/
theorem slice_mid {P : Program} {α : Type} {f : α → Value} {w : World} {ao : Option Addr} {len cap : Nat} {xs : List α} (t e : TypeId) (ht : P.underlying t = some (.slice e)) (hz : ∀ w : World, (sizeOf e).run P w = .ok 1 w)
    (hs : Sl w 1 ao len cap (cs f xs)) (lo hi : Nat) (hv : Int) (hh : hv = (hi : Int)) (h1 : lo ≤ hi) (h2 : hi ≤ len) :
    ∃ ao', (∀ w', (Instr.slice t (.slice ao len cap) (some (.int .i64 (lo : Int))) (some (.int .i64 hv)) none).run P w' = .ok (.slice ao' (hi - lo) (cap - lo)) w') ∧ Sl w 1 ao' (hi - lo) (cap - lo) (cs f ((xs.drop lo).take (hi - lo))) := by
  have hle := hs.hle
  subst hh
  refine ⟨if cap = lo then ao else ao.map (·.add (lo * 1)), fun w' => ?_, ?_⟩
  · have he : P.elem t = e := by simp [Program.elem, ht]
    rw [run_slice_lh w' t ao len cap (by rw [he]; exact ht) .i64 .i64 (lo : Int) (hi : Int) (by omega) (by omega) (by omega), he, hz]
    simp [Result.andThen, sliced]
  · exact hs.partT lo hi cap h1 h2 (by omega) (Nat.le_refl _)
/-- 's[:hi]'. -/
theorem slice_to {P : Program} {α : Type} {f : α → Value} {w : World} {ao : Option Addr} {len cap : Nat} {xs : List α} (t e : TypeId) (ht : P.underlying t = some (.slice e)) (hz : ∀ w : World, (sizeOf e).run P w = .ok 1 w)
    (hs : Sl w 1 ao len cap (cs f xs)) (hi : Nat) (h2 : hi ≤ len) :
    ∃ ao', (∀ w', (Instr.slice t (.slice ao len cap) none (some (.int .i64 (hi : Int))) none).run P w' = .ok (.slice ao' hi cap) w') ∧ Sl w 1 ao' hi cap (cs f (xs.take hi)) := by
  have hle := hs.hle
  refine ⟨if cap = 0 then ao else ao.map (·.add (0 * 1)), fun w' => ?_, ?_⟩
  · have he : P.elem t = e := by simp [Program.elem, ht]
    rw [run_slice_h w' t ao len cap (by rw [he]; exact ht) .i64 (hi : Int) (by omega) (by omega), he, hz]
    simp [Result.andThen, sliced]
  · have := hs.partT 0 hi cap (Nat.zero_le _) h2 (by omega) (Nat.le_refl _)
    simpa using this
theorem sl_own {w : World} {B : Nat} {e : TypeId} {size : Nat} {v : Value} {n : Nat} {xs : List Value} (h : w.ownsRow B e size v n xs) : ∃ N ao cap, v = .slice ao N cap ∧ Sl w size ao N cap xs := by
  obtain ⟨x, c, h1, h2⟩ := sl_of_own h
  exact ⟨_, x, c, h1, h2⟩
/-- A new block of cells, as a slice. -/
theorem sl_lit {α : Type} {f : α → Value} (w : World) (E : TypeId) (xs : List α) (C : Array Value) (hC : C = (cs f xs).toArray) (n : Nat) (hn : n = xs.length) (hm : n ≤ 1000000000) :
    Sl (w.alloc (.cells C E)) 1 (some ⟨w.heap.size, 0, none⟩) n n (cs f xs) := by
  subst hC; subst hn
  refine ⟨by rw [cs_length]; omega, Nat.le_refl _, by unfold maxLen; omega, (fun h => by cases h), fun j u hj => ⟨w.heap.size, 0, rfl, ?_⟩⟩
  rw [Nat.zero_add, cell_of_row _ _ _ _ _ _ (heap_alloc_new w _)]
  simpa using hj
theorem below_drewN {B : Nat} {a w : World} (h : Below B a w) (n : Nat) : Below B a (w.drewN n) := ⟨h.os, h.tape, h.output, h.size, h.block⟩
theorem below_alloc (w : World) (o : Obj) : Below w.heap.size w (w.alloc o) := Below.alloc (Below.refl _ _) (Nat.le_refl _) _
theorem below_step {w w1 w2 : World} (h : Below w.heap.size w w1) (h' : Below w1.heap.size w1 w2) : Below w.heap.size w w2 := h.trans (h'.mono h.size)
/-- The answer, and nothing that was there has turned. -/
def RetB (v : Value) (w : World) (e : Ending) (w' : World) : Prop := e = .returned v ∧ Below w.heap.size w w'
theorem RetB.of {v : Value} {w w' : World} {e : Ending} (h : e = .returned v ∧ w = w') : RetB v w e w' := ⟨h.1, by rw [← h.2]; exact Below.refl _ _⟩
end Go.Proofs.Ytfhcaikfbfoopaa
