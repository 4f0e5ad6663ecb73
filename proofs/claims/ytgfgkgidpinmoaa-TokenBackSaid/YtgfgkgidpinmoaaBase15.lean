/-
  BITS OF SMALL int64 NUMBERS, AS THE WALK TAKES THEM: shifts by a letter, masks. No condition.
-/
import Derived.Test.YtgfgkgidpinmoaaBase3
namespace Go.Proofs.Ytgfgkgidpinmoaa
open Go.RowKit
set_option linter.unusedVariables false

def p2 (q : Nat) : Int := ((2 ^ q : Nat) : Int)
def dv (a q : Nat) : Nat := a / 2 ^ q
def md (a q : Nat) : Nat := a % 2 ^ q
def sl2 (a q : Nat) : Nat := a * 2 ^ q
theorem wrap_i64_nat (n : Nat) (h : n < 9223372036854775808) : IntKind.i64.wrap (n : Int) = (n : Int) := by rw [IntKind.wrap_i64]; omega
theorem ofInt_nat (n : Nat) : BitVec.ofInt 64 (n : Int) = BitVec.ofNat 64 n := by
  apply BitVec.eq_of_toNat_eq
  simp
theorem i64_shr_n (t : TypeId) (a q : Nat) (h : a < 9223372036854775808) : binOp .shr t (.int .i64 (a : Int)) (.int .i64 (q : Int)) = pure (.int .i64 ((dv a q : Nat) : Int)) := by
  simp only [binOp_shr, Op.shift, IntKind.bits]
  rw [if_neg (by omega)]
  simp only [Int.toNat_natCast]
  congr 2
  have e : ∀ k : Nat, (a : Int).fdiv (2 ^ k) = ((a / 2 ^ k : Nat) : Int) := by
    intro k; rw [Int.fdiv_eq_ediv_of_nonneg _ (by exact_mod_cast Nat.zero_le _)]; simp
  rw [e]
  unfold dv
  by_cases hm : q ≤ 64
  · rw [Nat.min_eq_left hm]
  · rw [Nat.min_eq_right (by omega)]
    have h1 : a / 2 ^ 64 = 0 := Nat.div_eq_of_lt (Nat.lt_of_lt_of_le h (by decide))
    have h2 : a / 2 ^ q = 0 := Nat.div_eq_of_lt (Nat.lt_of_lt_of_le (Nat.lt_of_lt_of_le h (show 9223372036854775808 ≤ 2 ^ 64 by decide)) (Nat.pow_le_pow_right (by decide) (by omega)))
    rw [h1, h2]
theorem shl_core (t : TypeId) (a q : Nat) (yk : IntKind) (hq : q ≤ 64) (h : a * 2 ^ q < 9223372036854775808) : binOp .shl t (.int .i64 (a : Int)) (.int yk (q : Int)) = pure (.int .i64 ((a * 2 ^ q : Nat) : Int)) := by
  simp only [binOp_shl, Op.shift, IntKind.bits]
  rw [if_neg (by omega)]
  simp only [Int.toNat_natCast]
  rw [Nat.min_eq_left hq, show (a : Int) * 2 ^ q = ((a * 2 ^ q : Nat) : Int) from by push_cast; rfl, wrap_i64_nat _ h]
theorem i64_shl_8 (t : TypeId) (a : Nat) (h : (a : Int) < 1000000) : binOp .shl t (.int .i64 (a : Int)) (.int .u64 8) = pure (.int .i64 ((a : Int) * 256)) := by
  have := shl_core t a 8 .u64 (by omega) (by omega)
  rw [show (8 : Int) = ((8 : Nat) : Int) from rfl, this]
  rw [show ((a * 2 ^ 8 : Nat) : Int) = (a : Int) * 256 from by omega]
theorem i64_shl_5 (t : TypeId) (a : Nat) (h : (a : Int) < 1000000) : binOp .shl t (.int .i64 (a : Int)) (.int .u64 5) = pure (.int .i64 ((a : Int) * 32)) := by
  have := shl_core t a 5 .u64 (by omega) (by omega)
  rw [show (5 : Int) = ((5 : Nat) : Int) from rfl, this]
  rw [show ((a * 2 ^ 5 : Nat) : Int) = (a : Int) * 32 from by omega]
theorem i64_one_shl (t : TypeId) (q : Nat) (h : (q : Int) ≤ 40) : binOp .shl t (.int .i64 1) (.int .i64 (q : Int)) = pure (.int .i64 (p2 q)) := by
  have hp : 2 ^ q ≤ 2 ^ 40 := Nat.pow_le_pow_right (by decide) (by omega)
  have := shl_core t 1 q .i64 (by omega) (by omega)
  rw [Nat.one_mul] at this
  exact this
theorem i64_shl_n (t : TypeId) (a q : Nat) (hq : q ≤ 64) (h : sl2 a q < 9223372036854775808) : binOp .shl t (.int .i64 (a : Int)) (.int .i64 (q : Int)) = pure (.int .i64 ((sl2 a q : Nat) : Int)) := shl_core t a q .i64 hq h
theorem or_core (t : TypeId) (a b i : Nat) (hb : b < 2 ^ i) (h : a * 2 ^ i + b < 9223372036854775808) : binOp .or t (.int .i64 ((a * 2 ^ i : Nat) : Int)) (.int .i64 (b : Int)) = pure (.int .i64 ((a * 2 ^ i + b : Nat) : Int)) := by
  simp only [binOp_or, Op.intBits, IntKind.bits]
  rw [ofInt_nat, ofInt_nat]
  have e : (BitVec.ofNat 64 (a * 2 ^ i) ||| BitVec.ofNat 64 b).toNat = a * 2 ^ i ||| b := by rw [BitVec.toNat_or, BitVec.toNat_ofNat, BitVec.toNat_ofNat, Nat.mod_eq_of_lt (by omega), Nat.mod_eq_of_lt (by omega)]
  change pure (Value.int IntKind.i64 (IntKind.i64.wrap ((BitVec.ofNat 64 (a * 2 ^ i) ||| BitVec.ofNat 64 b).toNat : Int))) = _
  rw [e]
  rw [show a * 2 ^ i ||| b = a * 2 ^ i + b from by rw [← Nat.shiftLeft_eq, Nat.shiftLeft_add_eq_or_of_lt hb], wrap_i64_nat _ h]
theorem i64_or_8 (t : TypeId) (a b : Nat) (h : (a : Int) < 1000000) (hb : (b : Int) < 256) : binOp .or t (.int .i64 ((a : Int) * 256)) (.int .i64 (b : Int)) = pure (.int .i64 ((a : Int) * 256 + (b : Int))) := by
  have := or_core t a b 8 (by omega) (by omega)
  rw [show ((a * 2 ^ 8 : Nat) : Int) = (a : Int) * 256 from by omega, show ((a * 2 ^ 8 + b : Nat) : Int) = (a : Int) * 256 + (b : Int) from by omega] at this
  exact this
theorem i64_or_5 (t : TypeId) (a b : Nat) (h : (a : Int) < 1000000) (hb : (b : Int) < 32) : binOp .or t (.int .i64 ((a : Int) * 32)) (.int .i64 (b : Int)) = pure (.int .i64 ((a : Int) * 32 + (b : Int))) := by
  have := or_core t a b 5 (by omega) (by omega)
  rw [show ((a * 2 ^ 5 : Nat) : Int) = (a : Int) * 32 from by omega, show ((a * 2 ^ 5 + b : Nat) : Int) = (a : Int) * 32 + (b : Int) from by omega] at this
  exact this
theorem i64_and_mask (t : TypeId) (a q : Nat) (ha : (a : Int) < 1000000000000) (hq : (q : Int) ≤ 40) : binOp .and t (.int .i64 (a : Int)) (.int .i64 (p2 q - 1)) = pure (.int .i64 ((md a q : Nat) : Int)) := by
  have hp : 2 ^ q ≤ 2 ^ 40 := Nat.pow_le_pow_right (by decide) (by omega)
  have hp0 : 0 < 2 ^ q := Nat.pos_of_ne_zero (by simp)
  have e : p2 q - 1 = ((2 ^ q - 1 : Nat) : Int) := by unfold p2; omega
  simp only [binOp_and, Op.intBits, IntKind.bits]
  rw [e, ofInt_nat, ofInt_nat]
  have e2 : (BitVec.ofNat 64 a &&& BitVec.ofNat 64 (2 ^ q - 1)).toNat = a % 2 ^ q := by rw [BitVec.toNat_and, BitVec.toNat_ofNat, BitVec.toNat_ofNat, Nat.mod_eq_of_lt (by omega), Nat.mod_eq_of_lt (by omega), Nat.and_two_pow_sub_one_eq_mod]
  change pure (Value.int IntKind.i64 (IntKind.i64.wrap ((BitVec.ofNat 64 a &&& BitVec.ofNat 64 (2 ^ q - 1)).toNat : Int))) = _
  rw [e2]
  have hm : a % 2 ^ q < 2 ^ q := Nat.mod_lt _ hp0
  rw [wrap_i64_nat _ (by omega)]
  rfl
theorem p2_bounds (q : Nat) (h : q ≤ 12) : 1 ≤ p2 q ∧ p2 q ≤ 4096 := by
  have hp : 2 ^ q ≤ 2 ^ 12 := Nat.pow_le_pow_right (by decide) h
  have hp0 : 0 < 2 ^ q := Nat.pos_of_ne_zero (by simp)
  unfold p2
  omega
theorem md_lt (a q : Nat) : md a q < 2 ^ q := Nat.mod_lt _ (Nat.pos_of_ne_zero (by simp))
theorem dv_lt {a q r : Nat} (h : a < 2 ^ (q + r)) : dv a q < 2 ^ r := by
  unfold dv
  rw [Nat.pow_add, Nat.mul_comm] at h
  exact Nat.div_lt_of_lt_mul (by rw [Nat.mul_comm]; exact h)
end Go.Proofs.Ytgfgkgidpinmoaa
