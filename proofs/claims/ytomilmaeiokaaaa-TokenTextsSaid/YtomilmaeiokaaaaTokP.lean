/-
  TOKENS, THE PLAIN LAW. No program in sight.
-/
import Derived.Test.YtomilmaeiokaaaaMacP
namespace Go.Proofs.Ytomilmaeiokaaaa
open Go.RowKit
set_option linter.unusedVariables false

/-- A token's numbers. -/
structure Tok where
  b : Int
  r : Int
  d : Int
  f : Int
  t : Int
  n : Int
def Tok.bad (x : Tok) : Prop := ¬ (0 ≤ x.b ∧ x.b ≤ 127) ∨ ¬ (0 ≤ x.r ∧ x.r ≤ 127) ∨ ¬ (1 ≤ x.d ∧ x.d ≤ 1000000) ∨ ¬ (1 ≤ x.n ∧ x.n ≤ 1048576) ∨ x.f < 0 ∨ x.t ≤ x.f ∨ 4294944000 < x.t
instance (x : Tok) : Decidable x.bad := by unfold Tok.bad; infer_instance
def Tok.chk (x : Tok) : Int := if x.bad then 1 else 0
theorem chk_bad {x : Tok} (h : x.bad) : x.chk = 1 := by unfold Tok.chk; rw [if_pos h]
theorem chk_ok {x : Tok} (h : ¬ x.bad) : x.chk = 0 := by unfold Tok.chk; rw [if_neg h]
end Go.Proofs.Ytomilmaeiokaaaa
