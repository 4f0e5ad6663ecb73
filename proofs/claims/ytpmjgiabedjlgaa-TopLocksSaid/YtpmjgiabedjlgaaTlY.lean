/-
  WHAT A LAW's STEP WANTS BESIDES: a slice of a lock's steps. No condition.
-/
import Derived.Test.YtpmjgiabedjlgaaRowsL
import Derived.Test.YtpmjgiabedjlgaaTlP
namespace Go.Proofs.Ytpmjgiabedjlgaa
open Go.RowKit Go.ChangeShapes Go.WideShapes Go.Deep
set_option linter.unusedVariables false

abbrev i64Ls : Leaf := .int .i64
theorem leaf_ints {k : IntKind} {ks : List Leaf} {cs : List Value} (h : Leaves ks cs) (i : Nat) (hk : ks[i]? = some (.int k)) : ∃ n, cs[i]? = some (.int k n) ∧ (Lit.int k n).wf = true := by
  obtain ⟨v, hv, n, rfl, hw⟩ := h.2 i _ hk
  exact ⟨n, hv, hw⟩
abbrev stLv : List Leaf := [i64Ls, i64Ls, i64Ls, i64Ls, .int .u8]
theorem b8_of {n : Int} (h : (Lit.int .u8 n).wf = true) : Value.int .u8 n = b8 (UInt8.ofNat n.toNat) := by
  have hn : 0 ≤ n ∧ n < 256 := by
    have h2 : IntKind.u8.min ≤ n ∧ n ≤ IntKind.u8.max := by simpa [Lit.wf] using h
    have e1 : IntKind.u8.min = 0 := by decide
    have e2 : IntKind.u8.max = 255 := by decide
    omega
  simp only [b8, UInt8.toNat_ofNat']
  congr 1
  omega
theorem stA_open (cs : List Value) (h : Leaves stLv cs) : ∃ o : StepL, cs = (stA o).toList ∧ True := by
  have hl := h.1
  match cs, hl with
  | [c0, c1, c2, c3, c4], _ =>
    obtain ⟨n0, e0, w0⟩ := leaf_ints h 0 rfl
    obtain ⟨n1, e1, w1⟩ := leaf_ints h 1 rfl
    obtain ⟨n2, e2, w2⟩ := leaf_ints h 2 rfl
    obtain ⟨n3, e3, w3⟩ := leaf_ints h 3 rfl
    obtain ⟨n4, e4, w4⟩ := leaf_ints h 4 rfl
    simp at e0 e1 e2 e3 e4
    subst e0 e1 e2 e3 e4
    exact ⟨⟨n0, n1, n2, n3, UInt8.ofNat n4.toNat⟩, by rw [b8_of w4]; rfl, trivial⟩
end Go.Proofs.Ytpmjgiabedjlgaa
