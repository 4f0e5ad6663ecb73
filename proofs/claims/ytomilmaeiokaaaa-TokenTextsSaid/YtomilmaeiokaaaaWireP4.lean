/-
  WIRE, THE PLAIN LAW: what is encoded is decoded again, in one form only; sizes. No program in sight.
-/
import Derived.Test.YtomilmaeiokaaaaWireP3
import Derived.Test.YtomilmaeiokaaaaWire5
namespace Go.Proofs.Ytomilmaeiokaaaa
open Go.RowKit
set_option linter.unusedVariables false

/-! ### what is decoded -/
theorem intsGo_props (bs : List UInt8) : ∀ (k : Nat) (nx : Int) (acc : List Int), (acc.length : Int) ≤ nx → nx ≤ bs.length → I64s acc →
    ((intsGo bs k nx acc).1.length ≤ bs.length ∧ I64s (intsGo bs k nx acc).1) := by
  intro k
  induction k with
  | zero => intro nx acc h1 h2 h3; exact ⟨by rw [intsGo_zero]; show acc.length ≤ _; omega, h3⟩
  | succ k ih =>
    intro nx acc h1 h2 h3
    obtain ⟨⟨n, x, er⟩, hr⟩ : ∃ r, intRes bs nx = r := ⟨_, rfl⟩
    obtain ⟨p1, p2, p3, p4⟩ := intRes_props hr
    by_cases he : er = 0
    · subst he
      rw [intsGo_more hr]
      have := p3 rfl
      exact ih x (acc ++ [n]) (by simp; omega) (by omega) (fun m hm => by
        rcases List.mem_append.1 hm with hm | hm
        · exact h3 m hm
        · simp at hm; subst hm; exact p2)
    · rw [intsGo_err hr he]
      exact ⟨by simp, fun m hm => by simp at hm⟩
theorem intsRes_props (bs : List UInt8) (at_ : Int) : (intsRes bs at_).1.length ≤ bs.length ∧ I64s (intsRes bs at_).1 := by
  obtain ⟨⟨n, x, er⟩, hr⟩ : ∃ r, intRes bs at_ = r := ⟨_, rfl⟩
  obtain ⟨p1, p2, p3, p4⟩ := intRes_props hr
  unfold intsRes
  rw [hr]
  split
  · exact ⟨by simp, fun m hm => by simp at hm⟩
  · rename_i he
    split
    · exact ⟨by simp, fun m hm => by simp at hm⟩
    · have he' : er = 0 := by simpa using he
      have := p3 he'
      exact intsGo_props bs _ _ [] (by simp; omega) (by simp; omega) (fun m hm => by simp at hm)
end Go.Proofs.Ytomilmaeiokaaaa
