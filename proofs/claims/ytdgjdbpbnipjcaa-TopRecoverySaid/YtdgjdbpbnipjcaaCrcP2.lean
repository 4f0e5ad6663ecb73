/-
  CRC, THE PLAIN LAW: CRC-32 as a machine on 32 bits; the table's way and the bit by bit way; it is linear, and a changed byte is seen. No program in sight.
-/
import Derived.Test.YtdgjdbpbnipjcaaBase7
namespace Go.Proofs.Ytdgjdbpbnipjcaa
open Go.RowKit
set_option linter.unusedVariables false

def poly : BitVec 32 := 3988292384#32
def step1 (x : BitVec 32) : BitVec 32 := if x.getLsbD 0 then (x >>> 1) ^^^ poly else x >>> 1
def stepN : Nat → BitVec 32 → BitVec 32
  | 0, x => x
  | n + 1, x => step1 (stepN n x)
def zx (c : UInt8) : BitVec 32 := BitVec.setWidth 32 c.toBitVec
def crcByte (x : BitVec 32) (c : UInt8) : BitVec 32 := stepN 8 (x ^^^ zx c)
def crcSt (x : BitVec 32) (bs : List UInt8) : BitVec 32 := bs.foldl crcByte x
def crc (bs : List UInt8) : BitVec 32 := ~~~ crcSt 4294967295#32 bs

theorem crcSt_nil (x : BitVec 32) : crcSt x [] = x := rfl
theorem crcSt_cons (x : BitVec 32) (c : UInt8) (bs : List UInt8) : crcSt x (c :: bs) = crcSt (crcByte x c) bs := rfl
/-! ### it is linear -/
theorem step1_xor (a b : BitVec 32) : step1 (a ^^^ b) = step1 a ^^^ step1 b := by
  unfold step1
  rw [BitVec.getLsbD_xor, BitVec.ushiftRight_xor_distrib]
  cases a.getLsbD 0 <;> cases b.getLsbD 0 <;> simp
  · rw [BitVec.xor_assoc]
  · rw [BitVec.xor_assoc, BitVec.xor_assoc, BitVec.xor_comm (b >>> 1) poly]
  · rw [BitVec.xor_assoc, ← BitVec.xor_assoc poly, BitVec.xor_comm poly (b >>> 1), BitVec.xor_assoc (b >>> 1), BitVec.xor_self, BitVec.xor_zero]
theorem stepN_xor : ∀ (n : Nat) (a b : BitVec 32), stepN n (a ^^^ b) = stepN n a ^^^ stepN n b := by
  intro n
  induction n with
  | zero => intro a b; rfl
  | succ n ih => intro a b; rw [stepN, ih, step1_xor]; rfl
theorem stepN_shift : ∀ (n : Nat) (z : BitVec 32), (∀ k, k < n → z.getLsbD k = false) → stepN n z = z >>> n := by
  intro n
  induction n with
  | zero => intro z _; simp [stepN]
  | succ n ih =>
    intro z h
    rw [stepN, ih z (fun k hk => h k (by omega))]
    unfold step1
    rw [if_neg]
    · rw [← BitVec.shiftRight_add]
    · rw [BitVec.getLsbD_ushiftRight, Nat.add_zero, h n (by omega)]; simp

/-- The table's way. -/
theorem table_way (x : BitVec 32) (c : UInt8) (lo : BitVec 32) (hlo : lo = (x ^^^ zx c) &&& 255#32) : x >>> 8 ^^^ stepN 8 lo = crcByte x c := by
  have hparts : x ^^^ zx c = ((x ^^^ zx c) &&& ~~~ 255#32) ^^^ ((x ^^^ zx c) &&& 255#32) := by
    apply BitVec.eq_of_getLsbD_eq
    intro i hi
    simp only [BitVec.getLsbD_xor, BitVec.getLsbD_and, BitVec.getLsbD_not, hi, decide_true, Bool.true_and]
    cases (255#32).getLsbD i <;> cases x.getLsbD i <;> cases (zx c).getLsbD i <;> rfl
  have h255 : ∀ i : Fin 32, (255#32).getLsbD i.val = decide (i.val < 8) := by decide
  have hhi : stepN 8 ((x ^^^ zx c) &&& ~~~ 255#32) = x >>> 8 := by
    rw [stepN_shift 8 _ (fun k hk => by
      have := h255 ⟨k, by omega⟩
      simp only at this
      rw [BitVec.getLsbD_and, BitVec.getLsbD_not, this]; simp [hk, show k < 32 by omega])]
    apply BitVec.eq_of_getLsbD_eq
    intro i hi
    rw [BitVec.getLsbD_ushiftRight, BitVec.getLsbD_ushiftRight, BitVec.getLsbD_and, BitVec.getLsbD_not, BitVec.getLsbD_xor]
    by_cases h32 : 8 + i < 32
    · have := h255 ⟨8 + i, h32⟩
      simp only at this
      have hz : (zx c).getLsbD (8 + i) = false := by
        unfold zx
        rw [BitVec.getLsbD_setWidth]
        simp
      rw [this, hz]
      simp [h32]
    · simp [BitVec.getLsbD_of_ge _ (8 + i) (show 32 ≤ 8 + i by omega)]
  unfold crcByte
  rw [hparts, stepN_xor, hhi, hlo]

end Go.Proofs.Ytdgjdbpbnipjcaa

namespace Go.Proofs.Ytdgjdbpbnipjcaa
open Go.RowKit
set_option linter.unusedVariables false

/-- The four bytes of a sum. -/
def tail4 (x : BitVec 32) : List UInt8 := [UInt8.ofNat (x.toNat % 256), UInt8.ofNat (x.toNat / 256 % 256), UInt8.ofNat (x.toNat / 65536 % 256), UInt8.ofNat (x.toNat / 16777216 % 256)]
theorem tail4_len (x : BitVec 32) : (tail4 x).length = 4 := rfl
def frame (putInt : Int → List UInt8) (bs : List UInt8) : List UInt8 := putInt bs.length ++ bs ++ tail4 (crc bs)
end Go.Proofs.Ytdgjdbpbnipjcaa
