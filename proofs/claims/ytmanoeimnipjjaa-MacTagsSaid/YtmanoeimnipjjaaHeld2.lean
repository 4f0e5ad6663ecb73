/-
  A REGION THAT DRAWS ITS ORDER, LOADS STRUCTS OF TWO CELLS AND CALLS: more. No condition.
-/
import Derived.Test.YtmanoeimnipjjaaHeld
namespace Go.Proofs.Ytmanoeimnipjjaa
open Go.RowKit
set_option linter.unusedVariables false

theorem keep7_1 {w w1 : World} {a b : Addr} {x y : Value} (z u : Value) (E : TypeId) (h : w1.cell? a = some x ∧ w1.cell? b = some y ∧ Below w.heap.size w w1) :
    (w1.alloc (.cells #[z, u] E)).cell? a = some x ∧ (w1.alloc (.cells #[z, u] E)).cell? b = some y ∧ Below w.heap.size w (w1.alloc (.cells #[z, u] E)) ∧ (w1.alloc (.cells #[z, u] E)).cell? ⟨w1.heap.size, 0, none⟩ = some z ∧ (w1.alloc (.cells #[z, u] E)).cell? ⟨w1.heap.size, 1, none⟩ = some u ∧ (w1.alloc (.cells #[z, u] E)).frozen? ⟨w1.heap.size, 0, none⟩ = false ∧ (w1.alloc (.cells #[z, u] E)).frozen? ⟨w1.heap.size, 1, none⟩ = false := by
  obtain ⟨g1, g2, g3⟩ := keep3A (.cells #[z, u] E) h
  have h2 : (w1.alloc (.cells #[z, u] E)).heap[w1.heap.size]? = some (.cells #[z, u] E) := hp_new rfl
  refine ⟨g1, g2, g3, ?_, ?_, frozen_of_row _ _ _ _ _ h2, frozen_of_row _ _ _ _ _ h2⟩ <;> (rw [cell_of_row _ _ _ _ _ _ h2]; rfl)
end Go.Proofs.Ytmanoeimnipjjaa
