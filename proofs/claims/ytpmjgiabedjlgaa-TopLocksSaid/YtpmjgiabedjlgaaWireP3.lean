/-
  WIRE, THE PLAIN LAW: what Text and Ints answer. No program in sight.
-/
import Derived.Test.YtpmjgiabedjlgaaWireP2
namespace Go.Proofs.Ytpmjgiabedjlgaa
open Go.RowKit
set_option linter.unusedVariables false

theorem scanI_props : ∀ (xs : List UInt8) (k : Nat) (z : BitVec 64), ((scanI k z xs).1 = 0 ∨ (scanI k z xs).1 = 3 ∨ (scanI k z xs).1 = 4) ∧ ((scanI k z xs).1 = 0 → k < (scanI k z xs).2.2 ∧ (scanI k z xs).2.2 ≤ k + xs.length) := by
  intro xs
  induction xs with
  | nil => intro k z; rw [scanI]; split <;> simp
  | cons x xs ih =>
    intro k z
    rw [scanI]
    split
    · simp
    · split
      · split
        · simp
        · simp
      · have := ih (k + 1) (z ||| (BitVec.setWidth 64 x.toBitVec &&& 127#64) <<< (7 * k))
        refine ⟨this.1, fun h => ?_⟩
        have := this.2 h
        simp only [List.length_cons]
        omega

/-- The error is 0, 1, 3 or 4; without one the index behind lies beyond the index, and within the bytes; with one all else is 0. -/
theorem intRes_props {bs : List UInt8} {at_ n nx er : Int} (h : intRes bs at_ = (n, nx, er)) :
    (er = 0 ∨ er = 1 ∨ er = 3 ∨ er = 4) ∧ (-9223372036854775808 ≤ n ∧ n ≤ 9223372036854775807) ∧ (er = 0 → 0 ≤ at_ ∧ at_ < nx ∧ nx ≤ bs.length) ∧ (er ≠ 0 → n = 0 ∧ nx = 0) := by
  unfold intRes at h
  split at h
  · simp only [Prod.mk.injEq] at h
    obtain ⟨rfl, rfl, rfl⟩ := h
    refine ⟨by omega, by omega, by omega, by omega⟩
  · rename_i hat
    have hp := scanI_props (bs.drop at_.toNat) 0 0
    rw [List.length_drop] at hp
    split at h
    · rename_i h0
      simp only [Prod.mk.injEq] at h
      obtain ⟨rfl, rfl, rfl⟩ := h
      have := hp.2 h0
      exact ⟨.inl rfl, num_range _, fun _ => by omega, fun h => absurd rfl h⟩
    · rename_i h0
      simp only [Prod.mk.injEq] at h
      obtain ⟨rfl, rfl, rfl⟩ := h
      refine ⟨?_, by omega, fun h => absurd h h0, fun _ => ⟨rfl, rfl⟩⟩
      rcases hp.1 with h | h | h <;> omega

def lenRes (bs : List UInt8) (at_ : Int) : Int × Int × Int :=
  if (intRes bs at_).2.2 ≠ 0 then (0, 0, (intRes bs at_).2.2) else if (intRes bs at_).1 < 0 then (0, 0, 3) else intRes bs at_

def intsGo (bs : List UInt8) : Nat → Int → List Int → List Int × Int × Int
  | 0, nx, acc => (acc, nx, 0)
  | k + 1, nx, acc => if (intRes bs nx).2.2 ≠ 0 then ([], 0, (intRes bs nx).2.2) else intsGo bs k (intRes bs nx).2.1 (acc ++ [(intRes bs nx).1])
def intsRes (bs : List UInt8) (at_ : Int) : List Int × Int × Int :=
  if (intRes bs at_).2.2 ≠ 0 then ([], 0, (intRes bs at_).2.2) else if (intRes bs at_).1 < 0 then ([], 0, 3) else intsGo bs (intRes bs at_).1.toNat (intRes bs at_).2.1 []

theorem intsGo_zero (bs : List UInt8) (nx : Int) (acc : List Int) : intsGo bs 0 nx acc = (acc, nx, 0) := rfl
theorem intsGo_err {bs : List UInt8} {k : Nat} {nx : Int} {acc : List Int} {n x er : Int} (h : intRes bs nx = (n, x, er)) (he : er ≠ 0) : intsGo bs (k + 1) nx acc = ([], 0, er) := by
  rw [intsGo, h, if_pos he]
theorem intsGo_more {bs : List UInt8} {k : Nat} {nx : Int} {acc : List Int} {n x : Int} (h : intRes bs nx = (n, x, 0)) : intsGo bs (k + 1) nx acc = intsGo bs k x (acc ++ [n]) := by
  rw [intsGo, h, if_neg (by simp)]
end Go.Proofs.Ytpmjgiabedjlgaa
