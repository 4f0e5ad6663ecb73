/-
  WHAT A LAW's STEP WANTS BESIDES: a slice of moves. No condition.
-/
import Derived.Test.YtfhcaikfbfoopaaRowsL
import Derived.Test.YtfhcaikfbfoopaaLkX
namespace Go.Proofs.Ytfhcaikfbfoopaa
open Go.RowKit Go.ChangeShapes Go.WideShapes Go.Deep
set_option linter.unusedVariables false

abbrev i64Lm : Leaf := .int .i64
theorem leaf_intm {k : IntKind} {ks : List Leaf} {cs : List Value} (h : Leaves ks cs) (i : Nat) (hk : ks[i]? = some (.int k)) : ∃ n, cs[i]? = some (.int k n) ∧ (Lit.int k n).wf = true := by
  obtain ⟨v, hv, n, rfl, hw⟩ := h.2 i _ hk
  exact ⟨n, hv, hw⟩
abbrev movLv : List Leaf := [i64Lm, i64Lm]
theorem movA_open (cs : List Value) (h : Leaves movLv cs) : ∃ o : MovL, cs = (movA o).toList ∧ True := by
  have hl := h.1
  match cs, hl with
  | [c0, c1], _ =>
    obtain ⟨n0, e0, w0⟩ := leaf_intm h 0 rfl
    obtain ⟨n1, e1, w1⟩ := leaf_intm h 1 rfl
    simp at e0 e1
    subst e0 e1
    exact ⟨⟨n0, n1⟩, rfl, trivial⟩
end Go.Proofs.Ytfhcaikfbfoopaa
