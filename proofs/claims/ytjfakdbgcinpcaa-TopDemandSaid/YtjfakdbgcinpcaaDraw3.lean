/-
  DRAW, THE WALKS: Power; the reference's Below.
-/
import Derived.Test.YtjfakdbgcinpcaaProg
import Derived.Test.YtjfakdbgcinpcaaBase7
import Derived.Test.YtjfakdbgcinpcaaHeld
import Derived.BigQuiet
import Derived.Laws.StructEq
import Derived.StillTailTactics
import Derived.RegionTactic
import Derived.Deep.DeepCutAuto
import Derived.Deep.QuietTactic
import Derived.WalkSpells
import Derived.WalkLawsBesides
import Derived.Test.YtjfakdbgcinpcaaLen64
namespace Go.Proofs.Ytjfakdbgcinpcaa
open Go.RowKit
set_option linter.unusedVariables false

theorem bitLenAux_lt : ∀ (f x : Nat), x < 2 ^ f → x < 2 ^ Lib.bitLenAux f x
  | 0, x, h => by simpa [Lib.bitLenAux] using h
  | f + 1, x, h => by
    rw [Lib.bitLenAux]
    split
    · omega
    · have := bitLenAux_lt f (x / 2) (by rw [Nat.pow_succ] at h; omega)
      rw [Nat.add_comm 1, Nat.pow_succ]
      omega
theorem bitLenAux_ge : ∀ (f x k : Nat), k < Lib.bitLenAux f x → 2 ^ k ≤ x
  | 0, x, k, h => by simp [Lib.bitLenAux] at h
  | f + 1, x, k, h => by
    rw [Lib.bitLenAux] at h
    split at h
    · omega
    · cases k with
      | zero => omega
      | succ k =>
        have := bitLenAux_ge f (x / 2) k (by omega)
        rw [Nat.pow_succ]
        omega
/-- How many bits the numbers below n take. -/
def kb (n : Int) : Nat := Lib.bitLen (n - 1).toNat
theorem kb_props (n : Int) (h1 : 1 ≤ n) (h2 : n ≤ 1125899906842624) : n ≤ (2 ^ kb n : Nat) ∧ (∀ k, k < kb n → ((2 ^ k : Nat) : Int) < n) ∧ kb n ≤ 50 := by
  have a := bitLenAux_lt 64 (n - 1).toNat (by omega)
  have b := bitLenAux_ge 64 (n - 1).toNat
  refine ⟨?_, fun k hk => ?_, ?_⟩
  · have : (n - 1).toNat < 2 ^ kb n := a
    omega
  · have : 2 ^ k ≤ (n - 1).toNat := b k hk
    omega
  · rcases Nat.lt_or_ge 50 (kb n) with h | h
    · have : 2 ^ 50 ≤ (n - 1).toNat := b 50 h
      omega
    · exact h

end Go.Proofs.Ytjfakdbgcinpcaa
