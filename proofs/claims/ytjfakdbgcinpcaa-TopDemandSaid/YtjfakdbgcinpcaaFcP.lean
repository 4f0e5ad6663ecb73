/-
  FORECAST, THE PLAIN LAW: rates, expected numbers, scenarios. No program in sight.
-/
import Derived.Test.YtjfakdbgcinpcaaBase7
import Derived.Test.YtjfakdbgcinpcaaDraw5
namespace Go.Proofs.Ytjfakdbgcinpcaa
open Go.RowKit
set_option linter.unusedVariables false

def rateBad (c w p : Int) : Prop := c < 0 ∨ 1000000 < c ∨ w < 0 ∨ 512 < w ∨ p < 0 ∨ 1000000 < p
instance (c w p : Int) : Decidable (rateBad c w p) := by unfold rateBad; infer_instance
def rq (c w p : Int) : Int := (1000 * c + p) / (w + 1)
def rate (c w p : Int) : Int × Int := if rateBad c w p then (0, 1) else (rq c w p, 0)
theorem rq_bounds {c w p : Int} (h : ¬ rateBad c w p) : 0 ≤ rq c w p ∧ rq c w p ≤ 1001000000 := by
  unfold rateBad at h
  have hc : 0 ≤ 1000 * c + p := by omega
  have hc2 : 1000 * c + p ≤ 1001000000 := by omega
  have hw : 0 < w + 1 := by omega
  unfold rq
  refine ⟨Int.ediv_nonneg hc (by omega), ?_⟩
  exact Int.le_trans (Int.ediv_le_self _ hc) hc2
theorem i64_quo (t : TypeId) (A B : Int) (hA : 0 ≤ A) (hA2 : A ≤ 1000000000000) (hB : 0 < B) : binOp .quo t (.int .i64 A) (.int .i64 B) = pure (.int .i64 (A / B)) := by
  have h0 : ¬ B = 0 := by omega
  have h1 : A.tdiv B = A / B := Int.tdiv_eq_ediv_of_nonneg hA
  have h2 : 0 ≤ A / B := Int.ediv_nonneg hA (by omega)
  have h3 : A / B ≤ A := Int.ediv_le_self _ hA
  have h4 : IntKind.i64.wrap (A / B) = A / B := by rw [IntKind.wrap_i64]; omega
  simp [go_sem, binOp, h0, h1, h4]
theorem i64_rem (t : TypeId) (A B : Int) (hA : 0 ≤ A) (hA2 : A ≤ 1000000000000) (hB : 0 < B) : binOp .rem t (.int .i64 A) (.int .i64 B) = pure (.int .i64 (A % B)) := by
  have h0 : ¬ B = 0 := by omega
  have h1 : A.tmod B = A % B := Int.tmod_eq_emod_of_nonneg hA
  simp [go_sem, binOp, h0, h1]
/-- The place of an hour's number. -/
def plc (s sl : Int) (j : Nat) : Nat := (s * 168 + (sl + j) % 168).toNat
def expS (l : List Int) (k p s sl : Int) : Nat → Int
  | 0 => 0
  | j + 1 => expS l k p s sl j + rq (l.getD (plc s sl j) 0) k p
theorem rate_ok {c k p : Int} (h : ¬ rateBad c k p) : rate c k p = (rq c k p, 0) := by unfold rate; rw [if_neg h]
def okR (k p : Int) : Prop := ¬ rateBad 0 k p
theorem rateBad_of {c k p : Int} (h : okR k p) (h0 : 0 ≤ c) (h1 : c ≤ 1000000) : ¬ rateBad c k p := by
  unfold okR rateBad at *; omega
instance (k p : Int) : Decidable (okR k p) := by unfold okR; infer_instance
def goodC (l : List Int) : Prop := ∀ j, 0 ≤ l.getD j 0 ∧ l.getD j 0 ≤ 1000000
theorem expS_bounds {l : List Int} {k p : Int} (s sl : Int) (hl : goodC l) (hr : okR k p) : ∀ j : Nat, 0 ≤ expS l k p s sl j ∧ expS l k p s sl j ≤ j * 1001000000
  | 0 => ⟨Int.le_refl _, by show (0 : Int) ≤ _; omega⟩
  | j + 1 => by
    have ih := expS_bounds s sl hl hr j
    have hb := rq_bounds (rateBad_of hr (hl (plc s sl j)).1 (hl (plc s sl j)).2)
    rw [expS]
    refine ⟨by omega, ?_⟩
    have e : ((j + 1 : Nat) : Int) * 1001000000 = (j : Int) * 1001000000 + 1001000000 := by omega
    omega
theorem plc_lt {s sl st : Int} (j : Nat) (h0 : 0 ≤ s) (h1 : s < st) (h2 : 0 ≤ sl) : (plc s sl j : Int) = s * 168 + (sl + j) % 168 ∧ (plc s sl j : Int) < st * 168 := by
  unfold plc
  omega
end Go.Proofs.Ytjfakdbgcinpcaa
