/-
  A REGION THAT DRAWS ITS ORDER, LOADS A STRUCT OF TWO CELLS AND CALLS: what go_region_held3's second argument needs. No condition.
-/
import Derived.Test.YtjfakdbgcinpcaaBase7
import Derived.Deep.RegionHeld3
import Derived.Tactics
namespace Go.Proofs.Ytjfakdbgcinpcaa
open Go.RowKit
set_option linter.unusedVariables false

theorem cell_keep {w1 w2 : World} {a : Addr} {x : Value} (hb : Below w1.heap.size w1 w2) (h1 : w1.cell? a = some x) : w2.cell? a = some x :=
  (hb.cell (World.block_lt_of_cell? _ _ h1)).trans h1
theorem keep3 {w w1 w2 : World} {a b : Addr} {x y : Value} (hb : Below w1.heap.size w1 w2) (h : w1.cell? a = some x ∧ w1.cell? b = some y ∧ Below w.heap.size w w1) :
    w2.cell? a = some x ∧ w2.cell? b = some y ∧ Below w.heap.size w w2 :=
  ⟨cell_keep hb h.1, cell_keep hb h.2.1, below_step h.2.2 hb⟩
theorem below_drew {B : Nat} {a w : World} (h : Below B a w) : Below B a w.drew := ⟨h.os, h.tape, h.output, h.size, h.block⟩
theorem keep3D {w w1 : World} {a b : Addr} {x y : Value} (h : w1.cell? a = some x ∧ w1.cell? b = some y ∧ Below w.heap.size w w1) :
    w1.drew.cell? a = some x ∧ w1.drew.cell? b = some y ∧ Below w.heap.size w w1.drew := ⟨h.1, h.2.1, below_drew h.2.2⟩
theorem keep3A {w w1 : World} {a b : Addr} {x y : Value} (o : Obj) (h : w1.cell? a = some x ∧ w1.cell? b = some y ∧ Below w.heap.size w w1) :
    (w1.alloc o).cell? a = some x ∧ (w1.alloc o).cell? b = some y ∧ Below w.heap.size w (w1.alloc o) := keep3 (below_alloc _ _) h
theorem keep3_0 (w : World) (x y : Value) (E : TypeId) : (w.alloc (.cells #[x, y] E)).cell? ⟨w.heap.size, 0, none⟩ = some x ∧ (w.alloc (.cells #[x, y] E)).cell? ⟨w.heap.size, 1, none⟩ = some y ∧ Below w.heap.size w (w.alloc (.cells #[x, y] E)) := by
  refine ⟨?_, ?_, below_alloc _ _⟩ <;> (rw [cell_of_row _ _ _ _ _ _ (heap_alloc_new w _)]; rfl)
/-! ### which block lies where -/
theorem hp_new {W : World} {o : Obj} {k : Nat} (h : k = W.heap.size) : (W.alloc o).heap[k]? = some o := by subst h; exact heap_alloc_new W o
theorem hp_old {W : World} {o v : Obj} {k : Nat} (h : W.heap[k]? = some v) : (W.alloc o).heap[k]? = some v := by
  have hk : k < W.heap.size := by
    rcases Nat.lt_or_ge k W.heap.size with h' | h'
    · exact h'
    · rw [Array.getElem?_eq_none h'] at h; cases h
  exact ((below_alloc W o).block k hk).trans h
theorem hp_drew {W : World} {v : Obj} {k : Nat} (h : W.heap[k]? = some v) : W.drew.heap[k]? = some v := h
theorem hp_below {W W' : World} {v : Obj} {k : Nat} (hb : Below W.heap.size W W') (h : W.heap[k]? = some v) : W'.heap[k]? = some v := by
  have hk : k < W.heap.size := by
    rcases Nat.lt_or_ge k W.heap.size with h' | h'
    · exact h'
    · rw [Array.getElem?_eq_none h'] at h; cases h
  exact (hb.block k hk).trans h
/-- Block k holds these cells. -/
def BlkAt (W : World) (k : Nat) (C : Array Value) : Prop := ∃ E, W.heap[k]? = some (.cells C E)
theorem blkNew {W : World} {C : Array Value} {E : TypeId} {k : Nat} (h : k = W.heap.size) : BlkAt (W.alloc (.cells C E)) k C := ⟨E, hp_new h⟩
theorem blkOld {W : World} {o : Obj} {C : Array Value} {k : Nat} (h : BlkAt W k C) : BlkAt (W.alloc o) k C := h.elim fun E h => ⟨E, hp_old h⟩
theorem blkDrew {W : World} {C : Array Value} {k : Nat} (h : BlkAt W k C) : BlkAt W.drew k C := h
theorem blkBelow {W W' : World} {C : Array Value} {k : Nat} (hb : Below W.heap.size W W') (h : BlkAt W k C) : BlkAt W' k C := h.elim fun E h => ⟨E, hp_below hb h⟩
theorem two_facts {W : World} {k : Nat} {x y : Value} (h : BlkAt W k #[x, y]) : W.cell? ⟨k, 0, none⟩ = some x ∧ W.cell? ⟨k, 1, none⟩ = some y ∧ W.frozen? ⟨k, 0, none⟩ = false ∧ W.frozen? ⟨k, 1, none⟩ = false := by
  obtain ⟨E, h⟩ := h
  refine ⟨?_, ?_, frozen_of_row _ _ _ _ _ h, frozen_of_row _ _ _ _ _ h⟩ <;> (rw [cell_of_row _ _ _ _ _ _ h]; rfl)
theorem two_set {W : World} {k : Nat} {x y : Value} (h : BlkAt W k #[x, y]) (u v : Value) : BlkAt ((W.setCell ⟨k, 0, none⟩ u).setCell ⟨k, 1, none⟩ v) k #[u, v] := by
  obtain ⟨E, h⟩ := h
  exact ⟨E, heap_setCell_same _ k 1 _ E v (heap_setCell_same W k 0 _ E u h)⟩
theorem cell_far {w : World} {a b : Addr} {x u : Value} (hab : a.block ≠ b.block) (h : w.cell? a = some x) : (w.setCell b u).cell? a = some x :=
  (World.cell?_of_block (w := w) (Below.heap_setCell w b u a.block hab)).trans h
end Go.Proofs.Ytjfakdbgcinpcaa
