/-
  ROWS OF STRUCTS, told by a list of what they are (plain). No condition.
-/
import Derived.Test.YtjfakdbgcinpcaaProg
import Derived.Test.YtjfakdbgcinpcaaBase1
namespace Go.Proofs.Ytjfakdbgcinpcaa
open Go.RowKit
set_option linter.unusedVariables false

section
variable {α : Type} (z : α) (A : α → Array Value) (N : Nat)
def flatV (l : List α) : List Value := l.flatMap fun x => (A x).toList
theorem flatV_cons (x : α) (l : List α) : flatV A (x :: l) = (A x).toList ++ flatV A l := by unfold flatV; simp
theorem flatV_len (hA : ∀ o, (A o).size = N) : ∀ l : List α, (flatV A l).length = l.length * N
  | [] => by simp [flatV]
  | x :: l => by rw [flatV_cons, List.length_append, flatV_len hA l, Array.length_toList, hA, List.length_cons, Nat.succ_mul]; omega
theorem flatV_get (hA : ∀ o, (A o).size = N) : ∀ (l : List α) (i j : Nat), i < l.length → j < N → (flatV A l)[i * N + j]? = (A (l.getD i z))[j]?
  | [], i, j, h, _ => absurd h (by simp)
  | x :: l, 0, j, _, hj => by
    rw [flatV_cons, Nat.zero_mul, Nat.zero_add, List.getElem?_append_left (by rw [Array.length_toList, hA]; exact hj)]
    simp
  | x :: l, i + 1, j, h, hj => by
    rw [flatV_cons, List.getElem?_append_right (by rw [Array.length_toList, hA, Nat.succ_mul]; omega), show (i + 1) * N + j - (A x).toList.length = i * N + j from by rw [Array.length_toList, hA, Nat.succ_mul]; omega]
    rw [flatV_get hA l i j (by simpa using h) hj]
    simp
end
/-- A row of such structs, one element. -/
theorem flat_at {α : Type} (z : α) (A : α → Array Value) (N : Nat) (hN : 0 < N) (hA : ∀ o, (A o).size = N) {w : World} {ao : Option Addr} {len cap : Nat} {l : List α} (h : Sl w N ao len cap (flatV A l)) (hl : l.length = len) (k : Nat) (hk : k < len) :
    ∃ b o, ao = some ⟨b, o, none⟩ ∧ ∀ j v, (A (l.getD k z))[j]? = some v → w.cell? ⟨b, o + k * N + j, none⟩ = some v := by
  have hj : ∀ j v, (A (l.getD k z))[j]? = some v → j < N := fun j v e => by have := (Array.getElem?_eq_some_iff.1 e).1; rw [hA] at this; exact this
  have hpos : 0 < (flatV A l).length := by rw [flatV_len A N hA l]; exact Nat.mul_pos (by omega) hN
  obtain ⟨b, o, e, _, hc⟩ := h.addr hpos
  refine ⟨b, o, e, fun j v hv => ?_⟩
  have := hc (k * N + j) v (by rw [flatV_get z A N hA l k j (by omega) (hj j v hv)]; exact hv)
  rw [Nat.add_assoc]
  exact this
end Go.Proofs.Ytjfakdbgcinpcaa
