/-
  CRC, THE PLAIN LAW, MORE: the same machine on 64 bits; the four bytes of a sum; frames. No program in sight.
-/
import Derived.Test.YtmanoeimnipjjaaCrcP
namespace Go.Proofs.Ytmanoeimnipjjaa
open Go.RowKit
set_option linter.unusedVariables false

def wid (x : BitVec 32) : BitVec 64 := BitVec.setWidth 64 x
theorem wid_toNat (x : BitVec 32) : (wid x).toNat = x.toNat := by
  have := x.isLt
  unfold wid
  rw [BitVec.toNat_setWidth]
  omega
theorem wid_xor (x y : BitVec 32) : wid (x ^^^ y) = wid x ^^^ wid y := by
  apply BitVec.eq_of_toNat_eq
  rw [wid_toNat, BitVec.toNat_xor, BitVec.toNat_xor, wid_toNat, wid_toNat]
theorem wid_half (x : BitVec 32) : wid x / 2#64 = wid (x >>> 1) := by
  apply BitVec.eq_of_toNat_eq
  rw [BitVec.toNat_udiv, wid_toNat, wid_toNat, BitVec.toNat_ushiftRight, Nat.shiftRight_eq_div_pow]
  rfl
theorem wid_poly : wid poly = 3988292384#64 := by decide
theorem wid_byte (c : UInt8) : c.toBitVec.setWidth 64 = wid (zx c) := by
  have := c.toNat_lt
  apply BitVec.eq_of_toNat_eq
  rw [wid_toNat]
  unfold zx
  rw [BitVec.toNat_setWidth, BitVec.toNat_setWidth]
  show c.toNat % _ = c.toNat % _
  omega
theorem odd_lsb (x : BitVec 32) : x.toNat % 2 = 1 ↔ x.getLsbD 0 = true := by
  rw [BitVec.getLsbD, Nat.testBit_zero, decide_eq_true_eq]
theorem wid_rem (x : BitVec 32) : (wid x % 2#64).toNat = x.toNat % 2 := by
  rw [BitVec.toNat_umod, wid_toNat]
  rfl
theorem wid_odd {x : BitVec 32} (h : x.toNat % 2 = 1) : wid x / 2#64 ^^^ 3988292384#64 = wid (step1 x) := by
  unfold step1
  rw [if_pos ((odd_lsb x).1 h), wid_xor, wid_half, wid_poly]
theorem wid_even {x : BitVec 32} (h : ¬ x.toNat % 2 = 1) : wid x / 2#64 = wid (step1 x) := by
  unfold step1
  rw [if_neg (fun e => h ((odd_lsb x).2 e)), wid_half]
theorem wid_not (x : BitVec 32) : i64of (4294967295#64 - wid x) = ((~~~ x).toNat : Int) := by
  have h := x.isLt
  have e : (4294967295#64 - wid x).toNat = 4294967295 - x.toNat := by
    rw [BitVec.toNat_sub, wid_toNat, show (4294967295#64).toNat = 4294967295 from by decide]
    omega
  unfold i64of
  rw [BitVec.toInt_eq_toNat_bmod, e, BitVec.toNat_not, Int.bmod_def]
  split <;> omega

/-- The four bytes of a sum. -/
def tail4 (x : BitVec 32) : List UInt8 := [UInt8.ofNat (x.toNat % 256), UInt8.ofNat (x.toNat / 256 % 256), UInt8.ofNat (x.toNat / 65536 % 256), UInt8.ofNat (x.toNat / 16777216 % 256)]
theorem tail4_len (x : BitVec 32) : (tail4 x).length = 4 := rfl
theorem tail4_inj {x y : BitVec 32} (h : tail4 x = tail4 y) : x = y := by
  have hx := x.isLt
  have hy := y.isLt
  unfold tail4 at h
  injection h with h0 h
  injection h with h1 h
  injection h with h2 h
  injection h with h3 _
  have g : ∀ a b : Nat, a < 256 → b < 256 → UInt8.ofNat a = UInt8.ofNat b → a = b := by
    intro a b ha hb e
    have := congrArg UInt8.toNat e
    rw [UInt8.toNat_ofNat', UInt8.toNat_ofNat'] at this
    omega
  have h0 := g _ _ (by omega) (by omega) h0
  have h1 := g _ _ (by omega) (by omega) h1
  have h2 := g _ _ (by omega) (by omega) h2
  have h3 := g _ _ (by omega) (by omega) h3
  apply BitVec.eq_of_toNat_eq
  omega
def frame (putInt : Int → List UInt8) (bs : List UInt8) : List UInt8 := putInt bs.length ++ bs ++ tail4 (crc bs)
end Go.Proofs.Ytmanoeimnipjjaa
