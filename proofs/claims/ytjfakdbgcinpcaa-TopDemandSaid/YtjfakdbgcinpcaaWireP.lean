/-
  WIRE, THE PLAIN LAW: the bytes of a number ('enc', 'zz', 'putInt'). No program in sight.
-/
import Derived.Test.YtjfakdbgcinpcaaBase0
namespace Go.Proofs.Ytjfakdbgcinpcaa
open Go.RowKit
set_option linter.unusedVariables false

/-- The bytes of a zigzag number, the lowest seven bits first. -/
def enc (z : BitVec 64) : List UInt8 :=
  if z.toNat < 128 then [UInt8.ofNat z.toNat] else (UInt8.ofNat z.toNat ||| 128) :: enc (z >>> 7)
termination_by z.toNat
decreasing_by
  rw [BitVec.toNat_ushiftRight, Nat.shiftRight_eq_div_pow]
  omega

theorem enc_lo (z : BitVec 64) (h : z.toNat < 128) : enc z = [UInt8.ofNat z.toNat] := by rw [enc, if_pos h]
theorem enc_hi (z : BitVec 64) (h : ¬ z.toNat < 128) : enc z = (UInt8.ofNat z.toNat ||| 128) :: enc (z >>> 7) := by rw [enc, if_neg h]

/-- The zigzag number of a number. -/
def zz (n : Int) : BitVec 64 := (BitVec.ofInt 64 n <<< 1) ^^^ BitVec.ofInt 64 (n / 9223372036854775808)
def putInt (n : Int) : List UInt8 := enc (zz n)

theorem toNat_shr7 (z : BitVec 64) : (z >>> 7).toNat = z.toNat / 128 := by
  rw [BitVec.toNat_ushiftRight, Nat.shiftRight_eq_div_pow]

theorem enc_len : ∀ (k : Nat) (z : BitVec 64), z.toNat < 128 ^ (k + 1) → (enc z).length ≤ k + 1 ∧ 0 < (enc z).length := by
  intro k
  induction k with
  | zero => intro z h; rw [enc_lo z (by omega)]; simp
  | succ k ih =>
    intro z h
    by_cases hz : z.toNat < 128
    · rw [enc_lo z hz]; simp
    · rw [enc_hi z hz]
      have := ih (z >>> 7) (by rw [toNat_shr7]; rw [Nat.pow_succ] at h; omega)
      simp; omega

theorem enc_length (z : BitVec 64) : (enc z).length ≤ 10 ∧ 0 < (enc z).length := by
  have h := z.isLt
  exact enc_len 9 z (by omega)
theorem putInt_length (n : Int) : (putInt n).length ≤ 10 ∧ 0 < (putInt n).length := enc_length _

end Go.Proofs.Ytjfakdbgcinpcaa
