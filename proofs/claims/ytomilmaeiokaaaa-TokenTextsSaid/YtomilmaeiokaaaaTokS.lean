/-
  TOKENS: how a token reads as an argument. No condition.
-/
import Derived.Test.YtomilmaeiokaaaaShell4
import Derived.Test.YtomilmaeiokaaaaBase4
namespace Go.Proofs.Ytomilmaeiokaaaa
open Go.RowKit Go.ChangeShapes Go.WideShapes Go.Deep
set_option linter.unusedVariables false

abbrev i64L : Leaf := .int .i64
abbrev tokL : List Leaf := [i64L, i64L, i64L, i64L, i64L, i64L, .int .u64]
theorem leaf_int {k : IntKind} {ks : List Leaf} {cs : List Value} (h : Leaves ks cs) (i : Nat) (hk : ks[i]? = some (.int k)) : ∃ n, cs[i]? = some (.int k n) ∧ (Lit.int k n).wf = true := by
  obtain ⟨v, hv, n, rfl, hw⟩ := h.2 i _ hk
  exact ⟨n, hv, hw⟩
theorem tok_open {cs : List Value} (h : Leaves tokL cs) : ∃ (b r d f t n : Int) (g : BitVec 64), cs = [.int .i64 b, .int .i64 r, .int .i64 d, .int .i64 f, .int .i64 t, .int .i64 n, u64 g] ∧ ∀ x ∈ [b, r, d, f, t, n], (Lit.int .i64 x).wf = true := by
  have hl := h.1
  match cs, hl with
  | [c0, c1, c2, c3, c4, c5, c6], _ =>
    obtain ⟨n0, e0, w0⟩ := leaf_int h 0 rfl
    obtain ⟨n1, e1, w1⟩ := leaf_int h 1 rfl
    obtain ⟨n2, e2, w2⟩ := leaf_int h 2 rfl
    obtain ⟨n3, e3, w3⟩ := leaf_int h 3 rfl
    obtain ⟨n4, e4, w4⟩ := leaf_int h 4 rfl
    obtain ⟨n5, e5, w5⟩ := leaf_int h 5 rfl
    obtain ⟨n6, e6, w6⟩ := leaf_int h 6 rfl
    obtain ⟨x, hx⟩ := wf_u64 w6
    simp at e0 e1 e2 e3 e4 e5 e6
    subst e0 e1 e2 e3 e4 e5 e6
    refine ⟨n0, n1, n2, n3, n4, n5, x, by rw [hx], fun y hy => ?_⟩
    simp at hy
    rcases hy with rfl | rfl | rfl | rfl | rfl | rfl <;> assumption
section
variable {H : Type} {enc : TypeId × Value → H} {P : Program} {w : World} {base : Nat} {spare : Nat → Bool} {held : Bool} {r : Reach} {b0 : Nat} {t : TypeId} {fs : Array Field} {v : Value} {d : DataW H} {p : List MemPlace} {n : Nat}
theorem tok_val (hs : P.underlying t = some (.struct fs)) (hk : leaves P n t = some tokL) (hv : Value.okWide P w r b0 t v) (h : DataW.Trod enc P w base spare held t v d p) :
    ∃ (b r d f t n : Int) (g : BitVec 64), v = .agg #[.int .i64 b, .int .i64 r, .int .i64 d, .int .i64 f, .int .i64 t, .int .i64 n, u64 g] ∧ ∀ x ∈ [b, r, d, f, t, n], (Lit.int .i64 x).wf = true := by
  obtain ⟨cs, rfl, hl⟩ := leaves_val hs hk hv h
  obtain ⟨b, r, d, f, t, n, g, e, hw⟩ := tok_open hl
  exact ⟨b, r, d, f, t, n, g, by obtain ⟨l⟩ := cs; have e' : l = _ := e; subst e'; rfl, hw⟩
end
end Go.Proofs.Ytomilmaeiokaaaa
