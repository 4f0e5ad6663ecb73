/-
  DRAW, THE PLAIN LAW: sums of weights, the index that a number belongs to. No program in sight.
-/
import Derived.Test.YtfhmhkpplcbiiaaBase2
namespace Go.Proofs.Ytfhmhkpplcbiiaa
open Go.RowKit
set_option linter.unusedVariables false

def sumL : List Int → Int
  | [] => 0
  | x :: l => x + sumL l
theorem sumL_append (a b : List Int) : sumL (a ++ b) = sumL a + sumL b := by
  induction a with
  | nil => simp [sumL]
  | cons x a ih => simp [sumL, ih]; omega
theorem sumL_take (l : List Int) (k : Nat) (hk : k < l.length) : sumL (l.take (k + 1)) = sumL (l.take k) + l.getD k 0 := by
  rw [List.take_succ_eq_append_getElem hk, sumL_append]
  simp [sumL, List.getD, hk]
def badW (x : Int) : Bool := decide (x < 0) || decide (1125899906842624 < x)
def total (l : List Int) : Int × Int :=
  if 256 < l.length then (0, 8) else if l.any badW = true then (0, 1) else if 1125899906842624 < sumL l then (0, 2) else if sumL l = 0 then (0, 10) else (sumL l, 0)
theorem any_bad {l : List Int} {k : Nat} (hk : k < l.length) (h : badW (l.getD k 0) = true) : l.any badW = true := by
  rw [List.any_eq_true]
  exact ⟨l[k], List.getElem_mem hk, by simpa [List.getD, hk] using h⟩
theorem any_good {l : List Int} (h : ∀ j, j < l.length → badW (l.getD j 0) = false) : l.any badW = false := by
  rw [List.any_eq_false]
  intro x hx
  obtain ⟨j, hj, rfl⟩ := List.getElem_of_mem hx
  have := h j hj
  simp [List.getD, hj] at this
  simp [this]
theorem good_iff (x : Int) : badW x = false ↔ 0 ≤ x ∧ x ≤ 1125899906842624 := by unfold badW; simp
theorem total_ok {l : List Int} {n : Int} (h : total l = (n, 0)) : l.length ≤ 256 ∧ (∀ x ∈ l, 0 ≤ x ∧ x ≤ 1125899906842624) ∧ n = sumL l ∧ 0 < n ∧ n ≤ 1125899906842624 := by
  unfold total at h
  split at h
  · simp at h
  · split at h
    · simp at h
    · rename_i h1 h2
      have hg : ∀ x ∈ l, 0 ≤ x ∧ x ≤ 1125899906842624 := fun x hx => by
        have h3 : l.any badW = false := by simpa using h2
        rw [List.any_eq_false] at h3
        have := h3 x hx
        exact (good_iff x).1 (by simpa using this)
      have hpos : 0 ≤ sumL l := by
        clear h h1 h2
        induction l with
        | nil => simp [sumL]
        | cons x l ih =>
          have h1 := (hg x (by simp)).1
          have h2 := ih (fun y hy => hg y (by simp [hy]))
          simp only [sumL]
          omega
      split at h
      · simp at h
      · split at h
        · simp at h
        · simp at h
          exact ⟨by omega, hg, h.symm, by omega, by omega⟩
theorem total_err {l : List Int} {n e : Int} (h : total l = (n, e)) : e = 0 ∨ (n = 0 ∧ (e = 8 ∨ e = 1 ∨ e = 2 ∨ e = 10)) := by
  unfold total at h
  split at h
  · cases h; simp
  · split at h
    · cases h; simp
    · split at h
      · cases h; simp
      · split at h
        · cases h; simp
        · cases h; simp

/-- The index that x belongs to. -/
def pk : List Int → Int → Nat
  | [], _ => 0
  | w :: l, x => if x < w then 0 else pk l (x - w) + 1
theorem pk_nil (x : Int) : pk [] x = 0 := rfl
theorem pk_hit {w : Int} {l : List Int} {x : Int} (h : x < w) : pk (w :: l) x = 0 := by rw [pk, if_pos h]
theorem pk_miss {w : Int} {l : List Int} {x : Int} (h : ¬ x < w) : pk (w :: l) x = pk l (x - w) + 1 := by rw [pk, if_neg h]
theorem drop_cons (l : List Int) (k : Nat) (hk : k < l.length) : l.drop k = l.getD k 0 :: l.drop (k + 1) := by
  rw [List.drop_eq_getElem_cons hk]; simp [List.getD, hk]
theorem sumL_split (l : List Int) (k : Nat) : sumL l = sumL (l.take k) + sumL (l.drop k) := by
  rw [← sumL_append, List.take_append_drop]
def pick (l : List Int) (x : Int) : Int × Int :=
  if (total l).2 ≠ 0 then (0, (total l).2) else if x < 0 ∨ (total l).1 ≤ x then (0, 1) else ((pk l x : Nat), 0)
end Go.Proofs.Ytfhmhkpplcbiiaa
