/-
  WHAT A LAW's STEP WANTS BESIDES: a struct of two uint64 as an argument. No condition.
-/
import Derived.Test.YtdgjdbpbnipjcaaBase4
import Derived.Lib.SmallJoins
namespace Go.Proofs.Ytdgjdbpbnipjcaa
open Go.RowKit
set_option linter.unusedVariables false

theorem key_open {H : Type} {enc : TypeId × Value → H} {P : Program} {w : World} {base : Nat} {spare : Nat → Bool} {held : Bool} {r : Reach} {b0 : Nat} {t : TypeId} {f0 f1 : Field} {v : Value} {d : DataW H} {p : List MemPlace}
    (hs : P.underlying t = some (.struct #[f0, f1])) (hone : Deep.oneCellFields P #[f0, f1] = true) (hC : P.cellsOf t = 2) (k0 : P.underlying f0.type = some (.int .u64)) (k1 : P.underlying f1.type = some (.int .u64))
    (hv : Value.okWide P w r b0 t v) (h : DataW.Trod enc P w base spare held t v d p) : ∃ x y : BitVec 64, v = .agg #[u64 x, u64 y] := by
  obtain ⟨v0, v1, y0, y1, n, rfl, _, _, h0, h1⟩ := Joins.open_agg2 hs hone hC hv h
  obtain ⟨n0, e0, _, w0⟩ := DataW.trod_int k0 h0
  obtain ⟨n1, e1, _, w1⟩ := DataW.trod_int k1 h1
  cases e0
  cases e1
  obtain ⟨x, hx⟩ := wf_u64 w0
  obtain ⟨y, hy⟩ := wf_u64 w1
  exact ⟨x, y, by rw [hx, hy]⟩
end Go.Proofs.Ytdgjdbpbnipjcaa
