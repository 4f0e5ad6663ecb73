/-
  DRAW, THE WALKS: Power; the reference's Below.
-/
import Derived.Test.YtfhmhkpplcbiiaaProg
import Derived.Test.YtfhmhkpplcbiiaaBase3
import Derived.Test.YtfhmhkpplcbiiaaBase5
import Derived.Test.YtfhmhkpplcbiiaaBase6
import Derived.Test.YtfhmhkpplcbiiaaBase7
import Derived.Test.YtfhmhkpplcbiiaaDrawP
import Derived.Test.YtfhmhkpplcbiiaaDraw1
import Derived.Test.YtfhmhkpplcbiiaaLen64
import Derived.Test.YtfhmhkpplcbiiaaHeld
import Derived.BigQuiet
import Derived.Laws.StructEq
import Derived.StillTailTactics
import Derived.RegionTactic
import Derived.Deep.DeepCutAuto
import Derived.Deep.QuietTactic
import Derived.WalkSpells
import Derived.WalkLawsBesides
namespace Go.Proofs.Ytfhmhkpplcbiiaa
open Go.RowKit
set_option linter.unusedVariables false

theorem bitLenAux_lt : ∀ (f x : Nat), x < 2 ^ f → x < 2 ^ Lib.bitLenAux f x
  | 0, x, h => by simpa [Lib.bitLenAux] using h
  | f + 1, x, h => by
    rw [Lib.bitLenAux]
    split
    · omega
    · have := bitLenAux_lt f (x / 2) (by rw [Nat.pow_succ] at h; omega)
      rw [Nat.add_comm 1, Nat.pow_succ]
      omega
theorem bitLenAux_ge : ∀ (f x k : Nat), k < Lib.bitLenAux f x → 2 ^ k ≤ x
  | 0, x, k, h => by simp [Lib.bitLenAux] at h
  | f + 1, x, k, h => by
    rw [Lib.bitLenAux] at h
    split at h
    · omega
    · cases k with
      | zero => omega
      | succ k =>
        have := bitLenAux_ge f (x / 2) k (by omega)
        rw [Nat.pow_succ]
        omega
theorem bitLenAux_le : ∀ (f x : Nat), Lib.bitLenAux f x ≤ f
  | 0, x => by simp [Lib.bitLenAux]
  | f + 1, x => by
    rw [Lib.bitLenAux]
    split
    · omega
    · have := bitLenAux_le f (x / 2); omega
/-- How many bits the numbers below n take. -/
def kb (n : Int) : Nat := Lib.bitLen (n - 1).toNat
theorem kb_props (n : Int) (h1 : 1 ≤ n) (h2 : n ≤ 1125899906842624) : n ≤ (2 ^ kb n : Nat) ∧ (∀ k, k < kb n → ((2 ^ k : Nat) : Int) < n) ∧ kb n ≤ 50 := by
  have a := bitLenAux_lt 64 (n - 1).toNat (by omega)
  have b := bitLenAux_ge 64 (n - 1).toNat
  refine ⟨?_, fun k hk => ?_, ?_⟩
  · have : (n - 1).toNat < 2 ^ kb n := a
    omega
  · have : 2 ^ k ≤ (n - 1).toNat := b k hk
    omega
  · rcases Nat.lt_or_ge 50 (kb n) with h | h
    · have : 2 ^ 50 ≤ (n - 1).toNat := b 50 h
      omega
    · exact h

set_option maxRecDepth 100000 in
set_option maxHeartbeats 2000000 in
theorem power_any (n : Int) (w : World) (h1 : 1 ≤ n) (h2 : n ≤ 1125899906842624) :
    Calls Try.prog 40 #[.int .i64 n] w (fun e w' => e = .returned (.int .i64 ((2 ^ kb n : Nat) : Int)) ∧ w = w') := by
  obtain ⟨p1, p2, p3⟩ := kb_props n h1 h2
  have P1 := Lib.hid p1
  have P2 := Lib.hid p2
  generalize hK : kb n = K at *
  have HK := Lib.hid hK
  clear hK p1 p2
  go_enter Try.func40, Try.ntmps40
  go_wp2
  go_loop [3] (fun p => ∃ (k P : Nat), k ≤ K ∧ p = .int .i64 (P : Int) ∧ Hid (P = 2 ^ k)) (fun p => 1125899906842625 - (intOf p).toNat)
  case atStart => exact ⟨0, 1, by omega, rfl, rfl⟩
  case round =>
    obtain ⟨k, P, hk, rfl, hP⟩ := hrel
    have hpos : 0 < P := by rw [hP.out]; exact Nat.pow_pos (by decide)
    by_cases hkK : k < K
    · have hlt := P2.out k hkK
      rw [← hP.out] at hlt
      go_wp2
      go_round
      case rel => exact ⟨k + 1, 2 * P, by omega, by go_num, by show _ = _; rw [Nat.pow_succ, ← hP.out, Nat.mul_comm]⟩
      case measure => simp [intOf]; omega
    · have hkk : k = K := by omega
      subst hkk
      have hge := P1.out
      rw [← hP.out] at hge
      have hge' : ¬ (P : Int) < n := by omega
      go_wp2
      go_ret
      exact ⟨congrArg (fun q : Nat => Ending.returned (.int .i64 (q : Int))) hP.out, rfl⟩
end Go.Proofs.Ytfhmhkpplcbiiaa
