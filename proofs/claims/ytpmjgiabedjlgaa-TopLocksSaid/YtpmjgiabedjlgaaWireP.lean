/-
  WIRE, THE PLAIN LAW: the bytes of a number ('enc', 'zz', 'putInt'). No program in sight.
-/
import Derived.Test.YtpmjgiabedjlgaaBase7
namespace Go.Proofs.Ytpmjgiabedjlgaa
open Go.RowKit
set_option linter.unusedVariables false

/-- The bytes of a zigzag number, the lowest seven bits first. -/
def enc (z : BitVec 64) : List UInt8 :=
  if z.toNat < 128 then [UInt8.ofNat z.toNat] else (UInt8.ofNat z.toNat ||| 128) :: enc (z >>> 7)
termination_by z.toNat
decreasing_by
  rw [BitVec.toNat_ushiftRight, Nat.shiftRight_eq_div_pow]
  omega

theorem enc_lo (z : BitVec 64) (h : z.toNat < 128) : enc z = [UInt8.ofNat z.toNat] := by rw [enc, if_pos h]
theorem enc_hi (z : BitVec 64) (h : ¬ z.toNat < 128) : enc z = (UInt8.ofNat z.toNat ||| 128) :: enc (z >>> 7) := by rw [enc, if_neg h]

/-- The zigzag number of a number. -/
def zz (n : Int) : BitVec 64 := (BitVec.ofInt 64 n <<< 1) ^^^ BitVec.ofInt 64 (n / 9223372036854775808)
def putInt (n : Int) : List UInt8 := enc (zz n)

theorem toNat_shr7 (z : BitVec 64) : (z >>> 7).toNat = z.toNat / 128 := by
  rw [BitVec.toNat_ushiftRight, Nat.shiftRight_eq_div_pow]

theorem enc_len : ∀ (k : Nat) (z : BitVec 64), z.toNat < 128 ^ (k + 1) → (enc z).length ≤ k + 1 ∧ 0 < (enc z).length := by
  intro k
  induction k with
  | zero => intro z h; rw [enc_lo z (by omega)]; simp
  | succ k ih =>
    intro z h
    by_cases hz : z.toNat < 128
    · rw [enc_lo z hz]; simp
    · rw [enc_hi z hz]
      have := ih (z >>> 7) (by rw [toNat_shr7]; rw [Nat.pow_succ] at h; omega)
      simp; omega

theorem enc_length (z : BitVec 64) : (enc z).length ≤ 10 ∧ 0 < (enc z).length := by
  have h := z.isLt
  exact enc_len 9 z (by omega)
theorem putInt_length (n : Int) : (putInt n).length ≤ 10 ∧ 0 < (putInt n).length := enc_length _

/-- What is read at a place: the error (0: none), the zigzag number, how many bytes. The bytes from the i-th on; z: what the ones before say. -/
def scanI (i : Nat) (z : BitVec 64) : List UInt8 → Int × BitVec 64 × Nat
  | [] => if 10 ≤ i then (3, 0, 0) else (4, 0, 0)
  | x :: xs =>
    if i = 10 then (3, 0, 0)
    else if x.toNat < 128 then
      if (0 < i ∧ x.toNat = 0) ∨ (i = 9 ∧ 1 < x.toNat) then (3, 0, 0) else (0, z ||| ((BitVec.setWidth 64 x.toBitVec &&& 127#64) <<< (7 * i)), i + 1)
    else scanI (i + 1) (z ||| ((BitVec.setWidth 64 x.toBitVec &&& 127#64) <<< (7 * i))) xs

/-- The number of a zigzag number. -/
def num (z : BitVec 64) : Int := bits BinOp.xor IntKind.i64 (i64of (z >>> 1)) (wrap64 (-i64of (z &&& 1#64)))
/-- What Int answers: the number, the index behind it, the error. -/
def intRes (bs : List UInt8) (at_ : Int) : Int × Int × Int :=
  if at_ < 0 ∨ (bs.length : Int) < at_ then (0, 0, 1)
  else if (scanI 0 0 (bs.drop at_.toNat)).1 = 0 then (num (scanI 0 0 (bs.drop at_.toNat)).2.1, at_ + (scanI 0 0 (bs.drop at_.toNat)).2.2, 0) else (0, 0, (scanI 0 0 (bs.drop at_.toNat)).1)

theorem and128 (x : UInt8) : x.toNat &&& 128 = 0 ↔ x.toNat < 128 := by
  have h : ∀ n : Fin 256, n.val &&& 128 = 0 ↔ n.val < 128 := by decide +kernel
  exact h ⟨x.toNat, x.toNat_lt⟩
end Go.Proofs.Ytpmjgiabedjlgaa
