/-
  DRAW, THE PLAIN LAW, MORE: orders, exact picks. No program in sight.
-/
import Derived.Test.YtjfakdbgcinpcaaDrawL0
namespace Go.Proofs.Ytjfakdbgcinpcaa
open Go.RowKit
set_option linter.unusedVariables false

/-! ### each number occurs once -/
structure Good (L : List Int) (m : Nat) : Prop where
  len : L.length = m
  rng : ∀ j, j < m → 0 ≤ L.getD j 0 ∧ L.getD j 0 < m
  inj : ∀ i j, i < m → j < m → L.getD i 0 = L.getD j 0 → i = j
theorem swp_get (L : List Int) (i j p : Nat) (hi : i < L.length) (hj : j < L.length) : (swp L i j).getD p 0 = if p = j then L.getD i 0 else if p = i then L.getD j 0 else L.getD p 0 := by
  unfold swp
  simp only [List.getD]
  by_cases h1 : p = j
  · subst h1
    rw [if_pos rfl, List.getElem?_set_self (by simp; exact hj)]
    rfl
  · rw [if_neg h1, List.getElem?_set_ne (fun e => h1 e.symm)]
    by_cases h2 : p = i
    · subst h2
      rw [if_pos rfl, List.getElem?_set_self hi]
      rfl
    · rw [if_neg h2, List.getElem?_set_ne (fun e => h2 e.symm)]
theorem Good.swp {L : List Int} {m : Nat} (h : Good L m) {i j : Nat} (hi : i < m) (hj : j < m) : Good (swp L i j) m := by
  have hi' : i < L.length := by rw [h.len]; exact hi
  have hj' : j < L.length := by rw [h.len]; exact hj
  refine ⟨by rw [swp_length]; exact h.len, fun p hp => ?_, fun p q hp hq e => ?_⟩
  · rw [swp_get L i j p hi' hj']
    split
    · exact h.rng i hi
    · split
      · exact h.rng j hj
      · exact h.rng p hp
  · rw [swp_get L i j p hi' hj', swp_get L i j q hi' hj'] at e
    have key : ∀ a b, a < m → b < m → L.getD a 0 = L.getD b 0 → a = b := h.inj
    split at e
    · split at e
      · omega
      · split at e
        · have := key _ _ hi hj e; omega
        · have := key _ _ hi hq e; omega
    · split at e
      · split at e
        · have := key _ _ hj hi e; omega
        · split at e
          · omega
          · have := key _ _ hj hq e; omega
      · split at e
        · have := key _ _ hp hi e; omega
        · split at e
          · have := key _ _ hp hj e; omega
          · exact key _ _ hp hq e
end Go.Proofs.Ytjfakdbgcinpcaa
