/-
  WIRE, THE PLAIN LAW: the reference's way to read a number (count the bytes that say 'more', then reckon from the last one) comes to the same. No program in sight.
-/
import Derived.Test.YtomilmaeiokaaaaWireP
namespace Go.Proofs.Ytomilmaeiokaaaa
open Go.RowKit
set_option linter.unusedVariables false

def low7 (x : UInt8) : BitVec 64 := BitVec.setWidth 64 x.toBitVec &&& 127#64
def hor : List UInt8 → BitVec 64
  | [] => 0
  | x :: xs => 128#64 * hor xs + low7 x
def accL (k : Nat) (z : BitVec 64) : List UInt8 → BitVec 64
  | [] => z
  | x :: xs => accL (k + 1) (z ||| low7 x <<< (7 * k)) xs

theorem low7_lt (x : UInt8) : (low7 x).toNat < 128 := by
  unfold low7
  rw [BitVec.toNat_and]
  exact Nat.lt_of_le_of_lt Nat.and_le_right (by decide)

theorem and_shl_zero (z y : BitVec 64) (n : Nat) (h : z.toNat < 2 ^ n) : z &&& (y <<< n) = 0#64 := by
  apply BitVec.eq_of_getLsbD_eq
  intro i hi
  rw [BitVec.getLsbD_and, BitVec.getLsbD_shiftLeft]
  by_cases hn : i < n
  · simp [hn]
  · have : z.getLsbD i = false := by
      rw [BitVec.getLsbD]
      exact Nat.testBit_lt_two_pow (Nat.lt_of_lt_of_le h (Nat.pow_le_pow_right (by decide) (by omega)))
    simp [this]

theorem acc_lt (z : BitVec 64) (x : UInt8) (k : Nat) (hk : k + 1 ≤ 9) (h : z.toNat < 2 ^ (7 * k)) : (z ||| low7 x <<< (7 * k)).toNat < 2 ^ (7 * (k + 1)) := by
  rw [BitVec.toNat_or, BitVec.toNat_shiftLeft, Nat.shiftLeft_eq]
  have h1 := low7_lt x
  have h2 : (low7 x).toNat * 2 ^ (7 * k) < 2 ^ (7 * (k + 1)) := by
    rw [show 7 * (k + 1) = 7 + 7 * k from by omega, Nat.pow_add]
    exact Nat.mul_lt_mul_of_pos_right h1 (Nat.pow_pos (by decide))
  exact Nat.or_lt_two_pow (Nat.lt_of_lt_of_le h (Nat.pow_le_pow_right (by decide) (by omega))) (Nat.lt_of_le_of_lt (Nat.mod_le _ _) h2)

theorem shl_mul (y : BitVec 64) (n : Nat) : y <<< n = y * (1#64 <<< n) := by
  rw [BitVec.shiftLeft_eq_mul_twoPow]; congr 1

theorem accL_eq : ∀ (xs : List UInt8) (k : Nat) (z : BitVec 64), k + xs.length ≤ 10 → (k ≤ 9 → z.toNat < 2 ^ (7 * k)) → accL k z xs = z + hor xs <<< (7 * k) := by
  intro xs
  induction xs with
  | nil => intro k z _ _; simp [accL, hor]
  | cons x xs ih =>
    intro k z hk hz
    simp only [List.length_cons] at hk
    have hz' := hz (by omega)
    rw [accL, ih (k + 1) _ (by omega) (fun h => acc_lt z x k h hz')]
    rw [← BitVec.add_eq_or_of_and_eq_zero _ _ (and_shl_zero z (low7 x) (7 * k) hz'), hor]
    rw [show 7 * (k + 1) = 7 + 7 * k from by omega, BitVec.shiftLeft_add]
    have e : hor xs <<< 7 = 128#64 * hor xs := by
      rw [BitVec.shiftLeft_eq_mul_twoPow, BitVec.mul_comm]; congr 1
    rw [e, BitVec.add_assoc]
    congr 1
    rw [BitVec.shiftLeft_eq_mul_twoPow, BitVec.shiftLeft_eq_mul_twoPow, BitVec.shiftLeft_eq_mul_twoPow, BitVec.add_mul, BitVec.add_comm]

/-- The bytes that say 'more'. -/
theorem scan_more : ∀ (m k : Nat) (z : BitVec 64) (l : List UInt8), k + m ≤ 10 → m ≤ l.length → (∀ j, j < m → 128 ≤ (l.getD j 0).toNat) → scanI k z l = scanI (k + m) (accL k z (l.take m)) (l.drop m) := by
  intro m
  induction m with
  | zero => intro k z l _ _ _; simp [accL]
  | succ m ih =>
    intro k z l hk hl hall
    cases l with
    | nil => simp at hl
    | cons x xs =>
      have h0 := hall 0 (by omega)
      simp only [List.getD_cons_zero] at h0
      rw [scanI, if_neg (by omega), if_neg (by omega), ih (k + 1) _ xs (by omega) (by simpa using hl) (fun j hj => by have := hall (j + 1) (by omega); simpa using this)]
      rw [List.take_succ_cons, List.drop_succ_cons, accL, show k + 1 + m = k + (m + 1) from by omega]
      rfl

theorem scan_ten (l : List UInt8) (hl : 10 ≤ l.length) (hall : ∀ j, j < 10 → 128 ≤ (l.getD j 0).toNat) : ∃ a b, scanI 0 0 l = (3, a, b) := by
  rw [scan_more 10 0 0 l (by omega) hl hall]
  cases h : l.drop 10 with
  | nil => exact ⟨_, _, rfl⟩
  | cons x xs => exact ⟨0, 0, by rw [scanI, if_pos rfl]⟩

theorem scan_end (m : Nat) (l : List UInt8) (hm : m < 10) (hl : m = l.length) (hall : ∀ j, j < m → 128 ≤ (l.getD j 0).toNat) : ∃ a b, scanI 0 0 l = (4, a, b) := by
  rw [scan_more m 0 0 l (by omega) (by omega) hall, List.drop_of_length_le (by omega), scanI, if_neg (by omega)]
  exact ⟨_, _, rfl⟩

theorem scan_last (m : Nat) (l : List UInt8) (hm : m < 10) (hl : m < l.length) (hall : ∀ j, j < m → 128 ≤ (l.getD j 0).toNat) (hx : (l.getD m 0).toNat < 128) :
    scanI 0 0 l = if (0 < m ∧ (l.getD m 0).toNat = 0) ∨ (m = 9 ∧ 1 < (l.getD m 0).toNat) then (3, 0, 0) else (0, hor (l.take (m + 1)), m + 1) := by
  have hd : l.drop m = l.getD m 0 :: l.drop (m + 1) := by
    rw [List.drop_eq_getElem_cons hl]; simp [List.getD, hl]
  rw [scan_more m 0 0 l (by omega) (by omega) hall, Nat.zero_add, hd, scanI, if_neg (by omega), if_pos hx]
  split
  · rfl
  · have e := accL_eq (l.take m) 0 0 (by simp; omega) (by simp)
    have e1 := accL_eq (l.take (m + 1)) 0 0 (by simp; omega) (by simp)
    have e2 : accL 0 0 (l.take (m + 1)) = accL 0 0 (l.take m) ||| low7 (l.getD m 0) <<< (7 * m) := by
      have g : ∀ (xs : List UInt8) (k : Nat) (z : BitVec 64) (x : UInt8), accL k z (xs ++ [x]) = accL k z xs ||| low7 x <<< (7 * (k + xs.length)) := by
        intro xs
        induction xs with
        | nil => intro k z x; simp [accL]
        | cons y ys ih => intro k z x; rw [List.cons_append, accL, ih, accL, List.length_cons, show k + 1 + ys.length = k + (ys.length + 1) from by omega]
      rw [List.take_succ_eq_append_getElem hl, g, List.length_take, Nat.min_eq_left (by omega), Nat.zero_add]
      simp [List.getD, hl]
    have h0 : hor (l.take (m + 1)) = accL 0 0 (l.take (m + 1)) := by rw [e1]; simp
    rw [h0, e2]
    rfl

theorem toInt_small (a : BitVec 64) (h : a.toNat < 9223372036854775808) : a.toInt = (a.toNat : Int) := by
  rw [BitVec.toInt_eq_toNat_cond, if_pos (by omega)]

theorem wrap_i64_bv (x : BitVec 64) : IntKind.i64.wrap (x.toNat : Int) = x.toInt := by
  have hx := x.isLt
  rw [IntKind.wrap_i64, BitVec.toInt_eq_toNat_cond]
  split <;> omega
theorem bits_xor64 (a b : Int) : bits BinOp.xor IntKind.i64 a b = (BitVec.ofInt 64 a ^^^ BitVec.ofInt 64 b).toInt := wrap_i64_bv _

theorem num_eq (z : BitVec 64) : num z = if z.toNat % 2 = 1 then -((z.toNat / 2 : Nat) : Int) - 1 else ((z.toNat / 2 : Nat) : Int) := by
  have hz := z.isLt
  have e1 : (z >>> 1).toNat = z.toNat / 2 := by rw [BitVec.toNat_ushiftRight, Nat.shiftRight_eq_div_pow]
  have e2 : (z &&& 1#64).toNat = z.toNat % 2 := by rw [BitVec.toNat_and]; exact Nat.and_one_is_mod _
  have h1 : i64of (z >>> 1) = ((z.toNat / 2 : Nat) : Int) := by rw [i64of, toInt_small _ (by omega), e1]
  have h2 : i64of (z &&& 1#64) = ((z.toNat % 2 : Nat) : Int) := by rw [i64of, toInt_small _ (by omega), e2]
  have h3 : BitVec.ofInt 64 ((z.toNat / 2 : Nat) : Int) = z >>> 1 := by
    apply BitVec.eq_of_toNat_eq; rw [e1, BitVec.toNat_ofInt]; omega
  rw [num, h1, h2, bits_xor64, h3]
  split
  · rename_i h
    rw [h, IntWalk.wrap64_in _ ⟨by omega, by omega⟩, show BitVec.ofInt 64 (-((1 : Nat) : Int)) = BitVec.allOnes 64 from by decide, BitVec.xor_allOnes, BitVec.toInt_eq_toNat_cond, BitVec.toNat_not, e1]
    split <;> omega
  · rename_i h
    have h0 : z.toNat % 2 = 0 := by omega
    rw [h0, IntWalk.wrap64_in _ ⟨by omega, by omega⟩, show BitVec.ofInt 64 (-((0 : Nat) : Int)) = 0#64 from by decide, BitVec.xor_zero, toInt_small _ (by omega), e1]

theorem zz_toNat (n : Int) (h1 : -9223372036854775808 ≤ n) (h2 : n ≤ 9223372036854775807) : (zz n).toNat = if n < 0 then (2 * (-(n + 1)).toNat + 1) else 2 * n.toNat := by
  unfold zz
  split
  · rename_i h
    have e : n / 9223372036854775808 = -1 := by omega
    rw [e, show BitVec.ofInt 64 (-1) = BitVec.allOnes 64 from by decide, BitVec.xor_allOnes, BitVec.toNat_not, BitVec.toNat_shiftLeft, Nat.shiftLeft_eq, BitVec.toNat_ofInt]
    omega
  · rename_i h
    have e : n / 9223372036854775808 = 0 := by omega
    rw [e]
    rw [show BitVec.ofInt 64 0 = 0#64 from by decide, BitVec.xor_zero]
    rw [BitVec.toNat_shiftLeft, Nat.shiftLeft_eq, BitVec.toNat_ofInt]
    omega

theorem num_zz (n : Int) (h1 : -9223372036854775808 ≤ n) (h2 : n ≤ 9223372036854775807) : num (zz n) = n := by
  rw [num_eq, zz_toNat n h1 h2]
  by_cases h : n < 0
  · rw [if_pos h, if_pos (by omega)]; omega
  · rw [if_neg h, if_neg (by omega)]; omega
theorem num_range (z : BitVec 64) : -9223372036854775808 ≤ num z ∧ num z ≤ 9223372036854775807 := by
  have hz := z.isLt
  rw [num_eq]; split <;> omega
theorem zz_num (z : BitVec 64) : zz (num z) = z := by
  apply BitVec.eq_of_toNat_eq
  have hr := num_range z
  rw [zz_toNat _ hr.1 hr.2, num_eq]
  by_cases h : z.toNat % 2 = 1
  · rw [if_pos h, if_pos (by omega)]; omega
  · rw [if_neg h, if_neg (by omega)]; omega

theorem byte_more (n : Nat) : UInt8.ofNat ((128 + n % 128) % 18446744073709551616) = UInt8.ofNat n ||| 128 := by
  apply UInt8.toNat_inj.1
  rw [UInt8.toNat_or, UInt8.toNat_ofNat', UInt8.toNat_ofNat']
  have h : ∀ m : Fin 256, m.val ||| (128 : UInt8).toNat = 128 + m.val % 128 := by decide +kernel
  have := h ⟨n % 256, by omega⟩
  refine Eq.trans ?_ this.symm
  show _ = 128 + (n % 256) % 128
  omega
theorem div128 (z : BitVec 64) : z / 128#64 = z >>> 7 := by
  apply BitVec.eq_of_toNat_eq
  rw [BitVec.toNat_udiv, toNat_shr7]; rfl
end Go.Proofs.Ytomilmaeiokaaaa
