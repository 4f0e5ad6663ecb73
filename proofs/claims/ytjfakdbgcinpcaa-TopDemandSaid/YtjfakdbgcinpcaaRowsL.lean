/-
  WHAT A LAW's STEP WANTS BESIDES: slices of nested structs, told by a list of what they are. No condition.
-/
import Derived.Test.YtjfakdbgcinpcaaShell4
import Derived.Test.YtjfakdbgcinpcaaFlat
namespace Go.Proofs.Ytjfakdbgcinpcaa
open Go.RowKit Go.ChangeShapes Go.WideShapes Go.Deep
set_option linter.unusedVariables false

theorem all_list {α : Type} (z : α) {Q : Nat → α → Prop} : ∀ n : Nat, (∀ i, i < n → ∃ x, Q i x) → ∃ l : List α, l.length = n ∧ ∀ i, i < n → Q i (l.getD i z)
  | 0, _ => ⟨[], rfl, fun i hi => absurd hi (Nat.not_lt_zero i)⟩
  | n + 1, h => by
    obtain ⟨l, hl, hq⟩ := all_list z n (fun i hi => h i (by omega))
    obtain ⟨x, hx⟩ := h n (by omega)
    refine ⟨l ++ [x], by simp [hl], fun i hi => ?_⟩
    by_cases hin : i < n
    · have := hq i hin
      rw [show (l ++ [x]).getD i z = l.getD i z from by simp [List.getD, List.getElem?_append_left (show i < l.length by omega)]]
      exact this
    · obtain rfl : i = n := by omega
      rw [show (l ++ [x]).getD i z = x from by subst hl; simp [List.getD]]
      exact hx
theorem rows_sl {α : Type} (z : α) (A : α → Array Value) (N : Nat) (hN : 0 < N) (hA : ∀ o, (A o).size = N) (Pw : α → Prop) {L : List Leaf} (hL : L.length = N) (hopen : ∀ cs, Leaves L cs → ∃ o, cs = (A o).toList ∧ Pw o) {w : World} {a : Addr} {len cap : Nat} (hl : len ≤ cap) (hm : cap ≤ maxLen)
    (h : ∀ i, i < len → ∃ cs', Leaves L cs' ∧ ∀ j, j < L.length → w.cell? (a.add (i * L.length + j)) = cs'[j]?) :
    ∃ l : List α, l.length = len ∧ Sl w N (some a) len cap (flatV A l) ∧ ∀ i, i < len → Pw (l.getD i z) := by
  obtain ⟨l, hlen, hq⟩ := all_list z (Q := fun i o => (∀ j, j < N → w.cell? (a.add (i * N + j)) = (A o)[j]?) ∧ Pw o) len (fun i hi => by
    obtain ⟨cs', h1, h2⟩ := h i hi
    obtain ⟨o, rfl, hw⟩ := hopen _ h1
    rw [hL] at h2
    exact ⟨o, fun j hj => by rw [← Array.getElem?_toList]; exact h2 j hj, hw⟩)
  have hol := flatV_len A N hA l
  rw [hlen] at hol
  refine ⟨l, hlen, ⟨hol, hl, hm, (fun h => by cases h), fun j u hj => ?_⟩, fun i hi => (hq i hi).2⟩
  have hj' := (List.getElem?_eq_some_iff.1 hj).1
  rw [hol] at hj'
  have hi : j / N < len := Nat.div_lt_of_lt_mul (by rw [Nat.mul_comm]; exact hj')
  have hr : j % N < N := Nat.mod_lt _ hN
  have hjj : j = j / N * N + j % N := by rw [Nat.mul_comm]; exact (Nat.div_add_mod j N).symm
  have hc := (hq (j / N) hi).1 (j % N) hr
  rw [← hjj] at hc
  rw [hjj, flatV_get z A N hA l _ _ (by omega) hr] at hj
  rw [hj] at hc
  obtain ⟨b, off, spot⟩ := a
  have hspot : spot = none := by
    have h0 := (hq 0 (Nat.lt_of_le_of_lt (Nat.zero_le _) hi)).1 0 hN
    rw [Array.getElem?_eq_getElem (by rw [hA]; exact hN)] at h0
    have := World.cell?_spot h0
    simpa [Addr.add] using this
  subst hspot
  refine ⟨b, off, rfl, ?_⟩
  rw [Addr.add_lit] at hc
  exact hc
end Go.Proofs.Ytjfakdbgcinpcaa
