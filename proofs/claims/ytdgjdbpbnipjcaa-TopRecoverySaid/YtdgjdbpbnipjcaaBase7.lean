/-
  MACHINE WORDS FOR THE WALK: a uint64 is told as 'u64 a' (a : BitVec 64), a uint32 as 'u32 a', a byte as 'b8 c' (c : UInt8): opaque to the walk; one law an operation. No condition.
-/
import Derived.WalkKit
import Derived.Handy
import Derived.Deep.AppendSrc
import Derived.Lib.Hide
import Derived.Deep.Quiet
namespace Go.Proofs.Ytdgjdbpbnipjcaa
open Go.RowKit
set_option linter.unusedVariables false

def u64 (a : BitVec 64) : Value := .int .u64 (a.toNat : Int)
def u32 (a : BitVec 32) : Value := .int .u32 (a.toNat : Int)
/-- A word as an int64. -/
def i64of (a : BitVec 64) : Int := a.toInt
def b8 (a : UInt8) : Value := .int .u8 (a.toNat : Int)

theorem wrap_u64_nat (n : Nat) (h : n < 18446744073709551616) : IntKind.u64.wrap (n : Int) = (n : Int) := by rw [IntKind.wrap_u64]; omega
theorem wrap_u32_nat (n : Nat) (h : n < 4294967296) : IntKind.u32.wrap (n : Int) = (n : Int) := by rw [IntKind.wrap_u32]; omega
theorem wrap_u8_nat (n : Nat) (h : n < 256) : IntKind.u8.wrap (n : Int) = (n : Int) := by rw [IntKind.wrap_u8]; omega
theorem ofInt_toNat {w : Nat} (a : BitVec w) : BitVec.ofInt w (a.toNat : Int) = a := by
  apply BitVec.eq_of_toNat_eq; simp
theorem ofInt_u8 (c : UInt8) : BitVec.ofInt 8 (c.toNat : Int) = c.toBitVec := by
  exact ofInt_toNat c.toBitVec


section
variable (t : TypeId) (a b : BitVec 64) (n : Int)
@[go_sem ↓] theorem u64_or : binOp .or t (u64 a) (u64 b) = pure (u64 (a ||| b)) := by
  simp only [u64, binOp_or, Op.intBits, IntKind.bits, ofInt_toNat]
  rw [show ∀ x : BitVec 64, IntKind.u64.wrap (x.toNat : Int) = x.toNat from fun x => wrap_u64_nat _ x.isLt]
  rfl
@[go_sem ↓] theorem u64_and : binOp .and t (u64 a) (u64 b) = pure (u64 (a &&& b)) := by
  simp only [u64, binOp_and, Op.intBits, IntKind.bits, ofInt_toNat]
  rw [show ∀ x : BitVec 64, IntKind.u64.wrap (x.toNat : Int) = x.toNat from fun x => wrap_u64_nat _ x.isLt]
  rfl
@[go_sem ↓] theorem u64_xor : binOp .xor t (u64 a) (u64 b) = pure (u64 (a ^^^ b)) := by
  simp only [u64, binOp_xor, Op.intBits, IntKind.bits, ofInt_toNat]
  rw [show ∀ x : BitVec 64, IntKind.u64.wrap (x.toNat : Int) = x.toNat from fun x => wrap_u64_nat _ x.isLt]
  rfl
@[go_sem ↓] theorem u64_add : binOp .add t (u64 a) (u64 b) = pure (u64 (a + b)) := by
  simp only [u64, binOp_add, Op.intArith, IntKind.wrap_u64, BitVec.toNat_add]
  all_goals congr 2
  all_goals omega
@[go_sem ↓] theorem u64_sub : binOp .sub t (u64 a) (u64 b) = pure (u64 (a - b)) := by
  have h1 := a.isLt; have h2 := b.isLt
  simp only [u64, binOp_sub, Op.intArith, IntKind.wrap_u64, BitVec.toNat_sub]
  all_goals congr 2
  all_goals omega
@[go_sem ↓] theorem u64_mul : binOp .mul t (u64 a) (u64 b) = pure (u64 (a * b)) := by
  simp only [u64, binOp_mul, Op.intArith, IntKind.wrap_u64, BitVec.toNat_mul]
  all_goals congr 2
  all_goals simp
@[go_sem ↓] theorem u64_eql : binOp .eql t (u64 a) (u64 b) = pure (.bool (decide (a = b))) := by
  simp only [u64, binOp_eql]
  all_goals congr 2
  all_goals (rw [Bool.eq_iff_iff]; simp [BitVec.toNat_eq]; omega)
@[go_sem ↓] theorem u64_neq : binOp .neq t (u64 a) (u64 b) = pure (.bool (!decide (a = b))) := by
  simp only [u64, binOp_neq]
  all_goals congr 2
  all_goals (rw [Bool.eq_iff_iff]; simp [BitVec.toNat_eq]; omega)

@[go_sem ↓] theorem u64_lss : binOp .lss t (u64 a) (u64 b) = pure (.bool (decide (a.toNat < b.toNat))) := by
  simp only [u64, binOp_lss]
  all_goals congr 2
  all_goals (rw [Bool.eq_iff_iff]; simp)

@[go_sem ↓] theorem u64_leq : binOp .leq t (u64 a) (u64 b) = pure (.bool (decide (a.toNat ≤ b.toNat))) := by
  simp only [u64, binOp_leq]
  all_goals congr 2
  all_goals (rw [Bool.eq_iff_iff]; simp)

@[go_sem ↓] theorem u64_gtr : binOp .gtr t (u64 a) (u64 b) = pure (.bool (decide (b.toNat < a.toNat))) := by
  simp only [u64, binOp_gtr]
  all_goals congr 2
  all_goals (rw [Bool.eq_iff_iff]; simp)

@[go_sem ↓] theorem u64_geq : binOp .geq t (u64 a) (u64 b) = pure (.bool (decide (b.toNat ≤ a.toNat))) := by
  simp only [u64, binOp_geq]
  all_goals congr 2
  all_goals (rw [Bool.eq_iff_iff]; simp)

@[go_sem ↓] theorem u64_or_c (h : 0 ≤ n ∧ n < 18446744073709551616) : binOp .or t (u64 a) (.int .u64 n) = pure (u64 (a ||| BitVec.ofInt 64 n)) := by
  have e : Value.int .u64 n = u64 (BitVec.ofInt 64 n) := by simp only [u64, BitVec.toNat_ofInt]; congr 1; omega
  rw [e, u64_or]
@[go_sem ↓] theorem u64_c_or (h : 0 ≤ n ∧ n < 18446744073709551616) : binOp .or t (.int .u64 n) (u64 a) = pure (u64 (BitVec.ofInt 64 n ||| a)) := by
  have e : Value.int .u64 n = u64 (BitVec.ofInt 64 n) := by simp only [u64, BitVec.toNat_ofInt]; congr 1; omega
  rw [e, u64_or]

@[go_sem ↓] theorem u64_and_c (h : 0 ≤ n ∧ n < 18446744073709551616) : binOp .and t (u64 a) (.int .u64 n) = pure (u64 (a &&& BitVec.ofInt 64 n)) := by
  have e : Value.int .u64 n = u64 (BitVec.ofInt 64 n) := by simp only [u64, BitVec.toNat_ofInt]; congr 1; omega
  rw [e, u64_and]
@[go_sem ↓] theorem u64_c_and (h : 0 ≤ n ∧ n < 18446744073709551616) : binOp .and t (.int .u64 n) (u64 a) = pure (u64 (BitVec.ofInt 64 n &&& a)) := by
  have e : Value.int .u64 n = u64 (BitVec.ofInt 64 n) := by simp only [u64, BitVec.toNat_ofInt]; congr 1; omega
  rw [e, u64_and]

@[go_sem ↓] theorem u64_xor_c (h : 0 ≤ n ∧ n < 18446744073709551616) : binOp .xor t (u64 a) (.int .u64 n) = pure (u64 (a ^^^ BitVec.ofInt 64 n)) := by
  have e : Value.int .u64 n = u64 (BitVec.ofInt 64 n) := by simp only [u64, BitVec.toNat_ofInt]; congr 1; omega
  rw [e, u64_xor]
@[go_sem ↓] theorem u64_c_xor (h : 0 ≤ n ∧ n < 18446744073709551616) : binOp .xor t (.int .u64 n) (u64 a) = pure (u64 (BitVec.ofInt 64 n ^^^ a)) := by
  have e : Value.int .u64 n = u64 (BitVec.ofInt 64 n) := by simp only [u64, BitVec.toNat_ofInt]; congr 1; omega
  rw [e, u64_xor]

@[go_sem ↓] theorem u64_add_c (h : 0 ≤ n ∧ n < 18446744073709551616) : binOp .add t (u64 a) (.int .u64 n) = pure (u64 (a + BitVec.ofInt 64 n)) := by
  have e : Value.int .u64 n = u64 (BitVec.ofInt 64 n) := by simp only [u64, BitVec.toNat_ofInt]; congr 1; omega
  rw [e, u64_add]
@[go_sem ↓] theorem u64_c_add (h : 0 ≤ n ∧ n < 18446744073709551616) : binOp .add t (.int .u64 n) (u64 a) = pure (u64 (BitVec.ofInt 64 n + a)) := by
  have e : Value.int .u64 n = u64 (BitVec.ofInt 64 n) := by simp only [u64, BitVec.toNat_ofInt]; congr 1; omega
  rw [e, u64_add]

@[go_sem ↓] theorem u64_sub_c (h : 0 ≤ n ∧ n < 18446744073709551616) : binOp .sub t (u64 a) (.int .u64 n) = pure (u64 (a - BitVec.ofInt 64 n)) := by
  have e : Value.int .u64 n = u64 (BitVec.ofInt 64 n) := by simp only [u64, BitVec.toNat_ofInt]; congr 1; omega
  rw [e, u64_sub]
@[go_sem ↓] theorem u64_c_sub (h : 0 ≤ n ∧ n < 18446744073709551616) : binOp .sub t (.int .u64 n) (u64 a) = pure (u64 (BitVec.ofInt 64 n - a)) := by
  have e : Value.int .u64 n = u64 (BitVec.ofInt 64 n) := by simp only [u64, BitVec.toNat_ofInt]; congr 1; omega
  rw [e, u64_sub]

@[go_sem ↓] theorem u64_mul_c (h : 0 ≤ n ∧ n < 18446744073709551616) : binOp .mul t (u64 a) (.int .u64 n) = pure (u64 (a * BitVec.ofInt 64 n)) := by
  have e : Value.int .u64 n = u64 (BitVec.ofInt 64 n) := by simp only [u64, BitVec.toNat_ofInt]; congr 1; omega
  rw [e, u64_mul]
@[go_sem ↓] theorem u64_c_mul (h : 0 ≤ n ∧ n < 18446744073709551616) : binOp .mul t (.int .u64 n) (u64 a) = pure (u64 (BitVec.ofInt 64 n * a)) := by
  have e : Value.int .u64 n = u64 (BitVec.ofInt 64 n) := by simp only [u64, BitVec.toNat_ofInt]; congr 1; omega
  rw [e, u64_mul]

@[go_sem ↓] theorem u64_lss_c : binOp .lss t (u64 a) (.int .u64 n) = pure (.bool (decide ((a.toNat : Int) < n))) := by
  simp only [u64, binOp_lss]
  all_goals congr 2
  all_goals (rw [Bool.eq_iff_iff]; simp)

@[go_sem ↓] theorem u64_leq_c : binOp .leq t (u64 a) (.int .u64 n) = pure (.bool (decide ((a.toNat : Int) ≤ n))) := by
  simp only [u64, binOp_leq]
  all_goals congr 2
  all_goals (rw [Bool.eq_iff_iff]; simp)

@[go_sem ↓] theorem u64_gtr_c : binOp .gtr t (u64 a) (.int .u64 n) = pure (.bool (decide (n < (a.toNat : Int)))) := by
  simp only [u64, binOp_gtr]
  all_goals congr 2
  all_goals (rw [Bool.eq_iff_iff]; simp)

@[go_sem ↓] theorem u64_geq_c : binOp .geq t (u64 a) (.int .u64 n) = pure (.bool (decide (n ≤ (a.toNat : Int)))) := by
  simp only [u64, binOp_geq]
  all_goals congr 2
  all_goals (rw [Bool.eq_iff_iff]; simp)

@[go_sem ↓] theorem u64_eql_c : binOp .eql t (u64 a) (.int .u64 n) = pure (.bool (decide ((a.toNat : Int) = n))) := by
  simp only [u64, binOp_eql]
  all_goals congr 2
  all_goals (rw [Bool.eq_iff_iff]; simp)

@[go_sem ↓] theorem u64_neq_c : binOp .neq t (u64 a) (.int .u64 n) = pure (.bool (!decide ((a.toNat : Int) = n))) := by
  simp only [u64, binOp_neq]
  all_goals congr 2
  all_goals (rw [Bool.eq_iff_iff]; simp)
@[go_sem ↓] theorem u64_quo_c (h : 0 < n ∧ n < 18446744073709551616) : binOp .quo t (u64 a) (.int .u64 n) = pure (u64 (a / BitVec.ofInt 64 n)) := by
  obtain ⟨m, rfl⟩ := Int.eq_ofNat_of_zero_le (show 0 ≤ n by omega)
  have ha := a.isLt
  have hq : a.toNat / m ≤ a.toNat := Nat.div_le_self _ _
  simp only [u64]
  rw [show binOp .quo t (.int .u64 (a.toNat : Int)) (.int .u64 (m : Int)) = Op.intDiv .quo .u64 a.toNat m from by simp [binOp]]
  simp only [Op.intDiv]
  rw [if_neg (by omega)]
  simp only [BitVec.toNat_udiv, BitVec.toNat_ofInt]
  have e : ((m : Int) % ((2 ^ 64 : Nat) : Int)).toNat = m := by
    have : (2 ^ 64 : Nat) = 18446744073709551616 := by decide
    omega
  rw [e]
  have e2 : (a.toNat : Int).tdiv (m : Int) = ((a.toNat / m : Nat) : Int) := by simp
  rw [e2, wrap_u64_nat _ (by omega)]
@[go_sem ↓] theorem u64_rem_c (h : 0 < n ∧ n < 18446744073709551616) : binOp .rem t (u64 a) (.int .u64 n) = pure (u64 (a % BitVec.ofInt 64 n)) := by
  obtain ⟨m, rfl⟩ := Int.eq_ofNat_of_zero_le (show 0 ≤ n by omega)
  have ha := a.isLt
  have hq : a.toNat % m ≤ a.toNat := Nat.mod_le _ _
  simp only [u64]
  rw [show binOp .rem t (.int .u64 (a.toNat : Int)) (.int .u64 (m : Int)) = Op.intDiv .rem .u64 a.toNat m from by simp [binOp]]
  simp only [Op.intDiv]
  rw [if_neg (by omega)]
  simp only [BitVec.toNat_umod, BitVec.toNat_ofInt]
  have e : ((m : Int) % ((2 ^ 64 : Nat) : Int)).toNat = m := by
    have : (2 ^ 64 : Nat) = 18446744073709551616 := by decide
    omega
  rw [e]
  congr 2
@[go_sem ↓] theorem u64_shl (yk : IntKind) (h : 0 ≤ n) : binOp .shl t (u64 a) (.int yk n) = pure (u64 (a <<< n.toNat)) := by
  obtain ⟨m, rfl⟩ := Int.eq_ofNat_of_zero_le h
  simp only [u64, binOp_shl, Op.shift, IntKind.bits]
  rw [if_neg (by omega)]
  simp only [Int.toNat_natCast, IntKind.wrap_u64]
  congr 2
  rw [BitVec.toNat_shiftLeft, Nat.shiftLeft_eq]
  by_cases hm : m ≤ 64
  · rw [Nat.min_eq_left hm]; simp
  · rw [Nat.min_eq_right (by omega)]
    obtain ⟨r, rfl⟩ : ∃ r, m = 64 + r := ⟨m - 64, by omega⟩
    rw [Nat.pow_add]
    have : a.toNat * (2 ^ 64 * 2 ^ r) % 2 ^ 64 = 0 := by rw [Nat.mul_left_comm]; exact Nat.mul_mod_right _ _
    rw [this]
    simp
@[go_sem ↓] theorem u64_shr (yk : IntKind) (h : 0 ≤ n) : binOp .shr t (u64 a) (.int yk n) = pure (u64 (a >>> n.toNat)) := by
  obtain ⟨m, rfl⟩ := Int.eq_ofNat_of_zero_le h
  simp only [u64, binOp_shr, Op.shift, IntKind.bits]
  rw [if_neg (by omega)]
  simp only [Int.toNat_natCast]
  congr 2
  rw [BitVec.toNat_ushiftRight, Nat.shiftRight_eq_div_pow]
  have ha := a.isLt
  have e : ∀ k : Nat, (a.toNat : Int).fdiv (2 ^ k) = ((a.toNat / 2 ^ k : Nat) : Int) := by
    intro k; rw [Int.fdiv_eq_ediv_of_nonneg _ (by exact_mod_cast Nat.zero_le _)]; simp
  rw [e]
  by_cases hm : m ≤ 64
  · rw [Nat.min_eq_left hm]
  · rw [Nat.min_eq_right (by omega)]
    have h1 : a.toNat / 2 ^ 64 = 0 := Nat.div_eq_of_lt ha
    have h2 : a.toNat / 2 ^ m = 0 := Nat.div_eq_of_lt (Nat.lt_of_lt_of_le ha (Nat.pow_le_pow_right (by decide) (by omega)))
    rw [h1, h2]
end


section
variable (t : TypeId) (a b : BitVec 32) (n : Int)
@[go_sem ↓] theorem u32_or : binOp .or t (u32 a) (u32 b) = pure (u32 (a ||| b)) := by
  simp only [u32, binOp_or, Op.intBits, IntKind.bits, ofInt_toNat]
  rw [show ∀ x : BitVec 32, IntKind.u32.wrap (x.toNat : Int) = x.toNat from fun x => wrap_u32_nat _ x.isLt]
  rfl
@[go_sem ↓] theorem u32_and : binOp .and t (u32 a) (u32 b) = pure (u32 (a &&& b)) := by
  simp only [u32, binOp_and, Op.intBits, IntKind.bits, ofInt_toNat]
  rw [show ∀ x : BitVec 32, IntKind.u32.wrap (x.toNat : Int) = x.toNat from fun x => wrap_u32_nat _ x.isLt]
  rfl
@[go_sem ↓] theorem u32_xor : binOp .xor t (u32 a) (u32 b) = pure (u32 (a ^^^ b)) := by
  simp only [u32, binOp_xor, Op.intBits, IntKind.bits, ofInt_toNat]
  rw [show ∀ x : BitVec 32, IntKind.u32.wrap (x.toNat : Int) = x.toNat from fun x => wrap_u32_nat _ x.isLt]
  rfl
@[go_sem ↓] theorem u32_add : binOp .add t (u32 a) (u32 b) = pure (u32 (a + b)) := by
  simp only [u32, binOp_add, Op.intArith, IntKind.wrap_u32, BitVec.toNat_add]
  all_goals congr 2
  all_goals omega
@[go_sem ↓] theorem u32_sub : binOp .sub t (u32 a) (u32 b) = pure (u32 (a - b)) := by
  have h1 := a.isLt; have h2 := b.isLt
  simp only [u32, binOp_sub, Op.intArith, IntKind.wrap_u32, BitVec.toNat_sub]
  all_goals congr 2
  all_goals omega
@[go_sem ↓] theorem u32_mul : binOp .mul t (u32 a) (u32 b) = pure (u32 (a * b)) := by
  simp only [u32, binOp_mul, Op.intArith, IntKind.wrap_u32, BitVec.toNat_mul]
  all_goals congr 2
  all_goals simp
@[go_sem ↓] theorem u32_eql : binOp .eql t (u32 a) (u32 b) = pure (.bool (decide (a = b))) := by
  simp only [u32, binOp_eql]
  all_goals congr 2
  all_goals (rw [Bool.eq_iff_iff]; simp [BitVec.toNat_eq]; omega)
@[go_sem ↓] theorem u32_neq : binOp .neq t (u32 a) (u32 b) = pure (.bool (!decide (a = b))) := by
  simp only [u32, binOp_neq]
  all_goals congr 2
  all_goals (rw [Bool.eq_iff_iff]; simp [BitVec.toNat_eq]; omega)

@[go_sem ↓] theorem u32_lss : binOp .lss t (u32 a) (u32 b) = pure (.bool (decide (a.toNat < b.toNat))) := by
  simp only [u32, binOp_lss]
  all_goals congr 2
  all_goals (rw [Bool.eq_iff_iff]; simp)

@[go_sem ↓] theorem u32_leq : binOp .leq t (u32 a) (u32 b) = pure (.bool (decide (a.toNat ≤ b.toNat))) := by
  simp only [u32, binOp_leq]
  all_goals congr 2
  all_goals (rw [Bool.eq_iff_iff]; simp)

@[go_sem ↓] theorem u32_gtr : binOp .gtr t (u32 a) (u32 b) = pure (.bool (decide (b.toNat < a.toNat))) := by
  simp only [u32, binOp_gtr]
  all_goals congr 2
  all_goals (rw [Bool.eq_iff_iff]; simp)

@[go_sem ↓] theorem u32_geq : binOp .geq t (u32 a) (u32 b) = pure (.bool (decide (b.toNat ≤ a.toNat))) := by
  simp only [u32, binOp_geq]
  all_goals congr 2
  all_goals (rw [Bool.eq_iff_iff]; simp)

@[go_sem ↓] theorem u32_or_c (h : 0 ≤ n ∧ n < 4294967296) : binOp .or t (u32 a) (.int .u32 n) = pure (u32 (a ||| BitVec.ofInt 32 n)) := by
  have e : Value.int .u32 n = u32 (BitVec.ofInt 32 n) := by simp only [u32, BitVec.toNat_ofInt]; congr 1; omega
  rw [e, u32_or]
@[go_sem ↓] theorem u32_c_or (h : 0 ≤ n ∧ n < 4294967296) : binOp .or t (.int .u32 n) (u32 a) = pure (u32 (BitVec.ofInt 32 n ||| a)) := by
  have e : Value.int .u32 n = u32 (BitVec.ofInt 32 n) := by simp only [u32, BitVec.toNat_ofInt]; congr 1; omega
  rw [e, u32_or]

@[go_sem ↓] theorem u32_and_c (h : 0 ≤ n ∧ n < 4294967296) : binOp .and t (u32 a) (.int .u32 n) = pure (u32 (a &&& BitVec.ofInt 32 n)) := by
  have e : Value.int .u32 n = u32 (BitVec.ofInt 32 n) := by simp only [u32, BitVec.toNat_ofInt]; congr 1; omega
  rw [e, u32_and]
@[go_sem ↓] theorem u32_c_and (h : 0 ≤ n ∧ n < 4294967296) : binOp .and t (.int .u32 n) (u32 a) = pure (u32 (BitVec.ofInt 32 n &&& a)) := by
  have e : Value.int .u32 n = u32 (BitVec.ofInt 32 n) := by simp only [u32, BitVec.toNat_ofInt]; congr 1; omega
  rw [e, u32_and]

@[go_sem ↓] theorem u32_xor_c (h : 0 ≤ n ∧ n < 4294967296) : binOp .xor t (u32 a) (.int .u32 n) = pure (u32 (a ^^^ BitVec.ofInt 32 n)) := by
  have e : Value.int .u32 n = u32 (BitVec.ofInt 32 n) := by simp only [u32, BitVec.toNat_ofInt]; congr 1; omega
  rw [e, u32_xor]
@[go_sem ↓] theorem u32_c_xor (h : 0 ≤ n ∧ n < 4294967296) : binOp .xor t (.int .u32 n) (u32 a) = pure (u32 (BitVec.ofInt 32 n ^^^ a)) := by
  have e : Value.int .u32 n = u32 (BitVec.ofInt 32 n) := by simp only [u32, BitVec.toNat_ofInt]; congr 1; omega
  rw [e, u32_xor]

@[go_sem ↓] theorem u32_add_c (h : 0 ≤ n ∧ n < 4294967296) : binOp .add t (u32 a) (.int .u32 n) = pure (u32 (a + BitVec.ofInt 32 n)) := by
  have e : Value.int .u32 n = u32 (BitVec.ofInt 32 n) := by simp only [u32, BitVec.toNat_ofInt]; congr 1; omega
  rw [e, u32_add]
@[go_sem ↓] theorem u32_c_add (h : 0 ≤ n ∧ n < 4294967296) : binOp .add t (.int .u32 n) (u32 a) = pure (u32 (BitVec.ofInt 32 n + a)) := by
  have e : Value.int .u32 n = u32 (BitVec.ofInt 32 n) := by simp only [u32, BitVec.toNat_ofInt]; congr 1; omega
  rw [e, u32_add]

@[go_sem ↓] theorem u32_sub_c (h : 0 ≤ n ∧ n < 4294967296) : binOp .sub t (u32 a) (.int .u32 n) = pure (u32 (a - BitVec.ofInt 32 n)) := by
  have e : Value.int .u32 n = u32 (BitVec.ofInt 32 n) := by simp only [u32, BitVec.toNat_ofInt]; congr 1; omega
  rw [e, u32_sub]
@[go_sem ↓] theorem u32_c_sub (h : 0 ≤ n ∧ n < 4294967296) : binOp .sub t (.int .u32 n) (u32 a) = pure (u32 (BitVec.ofInt 32 n - a)) := by
  have e : Value.int .u32 n = u32 (BitVec.ofInt 32 n) := by simp only [u32, BitVec.toNat_ofInt]; congr 1; omega
  rw [e, u32_sub]

@[go_sem ↓] theorem u32_mul_c (h : 0 ≤ n ∧ n < 4294967296) : binOp .mul t (u32 a) (.int .u32 n) = pure (u32 (a * BitVec.ofInt 32 n)) := by
  have e : Value.int .u32 n = u32 (BitVec.ofInt 32 n) := by simp only [u32, BitVec.toNat_ofInt]; congr 1; omega
  rw [e, u32_mul]
@[go_sem ↓] theorem u32_c_mul (h : 0 ≤ n ∧ n < 4294967296) : binOp .mul t (.int .u32 n) (u32 a) = pure (u32 (BitVec.ofInt 32 n * a)) := by
  have e : Value.int .u32 n = u32 (BitVec.ofInt 32 n) := by simp only [u32, BitVec.toNat_ofInt]; congr 1; omega
  rw [e, u32_mul]

@[go_sem ↓] theorem u32_lss_c : binOp .lss t (u32 a) (.int .u32 n) = pure (.bool (decide ((a.toNat : Int) < n))) := by
  simp only [u32, binOp_lss]
  all_goals congr 2
  all_goals (rw [Bool.eq_iff_iff]; simp)

@[go_sem ↓] theorem u32_leq_c : binOp .leq t (u32 a) (.int .u32 n) = pure (.bool (decide ((a.toNat : Int) ≤ n))) := by
  simp only [u32, binOp_leq]
  all_goals congr 2
  all_goals (rw [Bool.eq_iff_iff]; simp)

@[go_sem ↓] theorem u32_gtr_c : binOp .gtr t (u32 a) (.int .u32 n) = pure (.bool (decide (n < (a.toNat : Int)))) := by
  simp only [u32, binOp_gtr]
  all_goals congr 2
  all_goals (rw [Bool.eq_iff_iff]; simp)

@[go_sem ↓] theorem u32_geq_c : binOp .geq t (u32 a) (.int .u32 n) = pure (.bool (decide (n ≤ (a.toNat : Int)))) := by
  simp only [u32, binOp_geq]
  all_goals congr 2
  all_goals (rw [Bool.eq_iff_iff]; simp)

@[go_sem ↓] theorem u32_eql_c : binOp .eql t (u32 a) (.int .u32 n) = pure (.bool (decide ((a.toNat : Int) = n))) := by
  simp only [u32, binOp_eql]
  all_goals congr 2
  all_goals (rw [Bool.eq_iff_iff]; simp)

@[go_sem ↓] theorem u32_neq_c : binOp .neq t (u32 a) (.int .u32 n) = pure (.bool (!decide ((a.toNat : Int) = n))) := by
  simp only [u32, binOp_neq]
  all_goals congr 2
  all_goals (rw [Bool.eq_iff_iff]; simp)
@[go_sem ↓] theorem u32_quo_c (h : 0 < n ∧ n < 4294967296) : binOp .quo t (u32 a) (.int .u32 n) = pure (u32 (a / BitVec.ofInt 32 n)) := by
  obtain ⟨m, rfl⟩ := Int.eq_ofNat_of_zero_le (show 0 ≤ n by omega)
  have ha := a.isLt
  have hq : a.toNat / m ≤ a.toNat := Nat.div_le_self _ _
  simp only [u32]
  rw [show binOp .quo t (.int .u32 (a.toNat : Int)) (.int .u32 (m : Int)) = Op.intDiv .quo .u32 a.toNat m from by simp [binOp]]
  simp only [Op.intDiv]
  rw [if_neg (by omega)]
  simp only [BitVec.toNat_udiv, BitVec.toNat_ofInt]
  have e : ((m : Int) % ((2 ^ 32 : Nat) : Int)).toNat = m := by
    have : (2 ^ 32 : Nat) = 4294967296 := by decide
    omega
  rw [e]
  have e2 : (a.toNat : Int).tdiv (m : Int) = ((a.toNat / m : Nat) : Int) := by simp
  rw [e2, wrap_u32_nat _ (by omega)]
@[go_sem ↓] theorem u32_rem_c (h : 0 < n ∧ n < 4294967296) : binOp .rem t (u32 a) (.int .u32 n) = pure (u32 (a % BitVec.ofInt 32 n)) := by
  obtain ⟨m, rfl⟩ := Int.eq_ofNat_of_zero_le (show 0 ≤ n by omega)
  have ha := a.isLt
  have hq : a.toNat % m ≤ a.toNat := Nat.mod_le _ _
  simp only [u32]
  rw [show binOp .rem t (.int .u32 (a.toNat : Int)) (.int .u32 (m : Int)) = Op.intDiv .rem .u32 a.toNat m from by simp [binOp]]
  simp only [Op.intDiv]
  rw [if_neg (by omega)]
  simp only [BitVec.toNat_umod, BitVec.toNat_ofInt]
  have e : ((m : Int) % ((2 ^ 32 : Nat) : Int)).toNat = m := by
    have : (2 ^ 32 : Nat) = 4294967296 := by decide
    omega
  rw [e]
  congr 2
@[go_sem ↓] theorem u32_shl (yk : IntKind) (h : 0 ≤ n) : binOp .shl t (u32 a) (.int yk n) = pure (u32 (a <<< n.toNat)) := by
  obtain ⟨m, rfl⟩ := Int.eq_ofNat_of_zero_le h
  simp only [u32, binOp_shl, Op.shift, IntKind.bits]
  rw [if_neg (by omega)]
  simp only [Int.toNat_natCast, IntKind.wrap_u32]
  congr 2
  rw [BitVec.toNat_shiftLeft, Nat.shiftLeft_eq]
  by_cases hm : m ≤ 32
  · rw [Nat.min_eq_left hm]; simp
  · rw [Nat.min_eq_right (by omega)]
    obtain ⟨r, rfl⟩ : ∃ r, m = 32 + r := ⟨m - 32, by omega⟩
    rw [Nat.pow_add]
    have : a.toNat * (2 ^ 32 * 2 ^ r) % 2 ^ 32 = 0 := by rw [Nat.mul_left_comm]; exact Nat.mul_mod_right _ _
    rw [this]
    simp
@[go_sem ↓] theorem u32_shr (yk : IntKind) (h : 0 ≤ n) : binOp .shr t (u32 a) (.int yk n) = pure (u32 (a >>> n.toNat)) := by
  obtain ⟨m, rfl⟩ := Int.eq_ofNat_of_zero_le h
  simp only [u32, binOp_shr, Op.shift, IntKind.bits]
  rw [if_neg (by omega)]
  simp only [Int.toNat_natCast]
  congr 2
  rw [BitVec.toNat_ushiftRight, Nat.shiftRight_eq_div_pow]
  have ha := a.isLt
  have e : ∀ k : Nat, (a.toNat : Int).fdiv (2 ^ k) = ((a.toNat / 2 ^ k : Nat) : Int) := by
    intro k; rw [Int.fdiv_eq_ediv_of_nonneg _ (by exact_mod_cast Nat.zero_le _)]; simp
  rw [e]
  by_cases hm : m ≤ 32
  · rw [Nat.min_eq_left hm]
  · rw [Nat.min_eq_right (by omega)]
    have h1 : a.toNat / 2 ^ 32 = 0 := Nat.div_eq_of_lt ha
    have h2 : a.toNat / 2 ^ m = 0 := Nat.div_eq_of_lt (Nat.lt_of_lt_of_le ha (Nat.pow_le_pow_right (by decide) (by omega)))
    rw [h1, h2]
end


section
variable (t : TypeId) (a b : UInt8) (n : Int)
theorem b8_eq (x : BitVec 8) : Value.int .u8 (IntKind.u8.wrap (x.toNat : Int)) = b8 ⟨x⟩ := by
  rw [wrap_u8_nat _ x.isLt]; rfl

@[go_sem ↓] theorem b8_or : binOp .or t (b8 a) (b8 b) = pure (b8 (a ||| b)) := by
  simp only [b8, binOp_or, Op.intBits, IntKind.bits, ofInt_u8]
  rw [b8_eq]; rfl
@[go_sem ↓] theorem b8_or_c (h : 0 ≤ n ∧ n < 256) : binOp .or t (b8 a) (.int .u8 n) = pure (b8 (a ||| UInt8.ofNat n.toNat)) := by
  have e : Value.int .u8 n = b8 (UInt8.ofNat n.toNat) := by simp only [b8, UInt8.toNat_ofNat']; congr 1; omega
  rw [e, b8_or]

@[go_sem ↓] theorem b8_and : binOp .and t (b8 a) (b8 b) = pure (b8 (a &&& b)) := by
  simp only [b8, binOp_and, Op.intBits, IntKind.bits, ofInt_u8]
  rw [b8_eq]; rfl
@[go_sem ↓] theorem b8_and_c (h : 0 ≤ n ∧ n < 256) : binOp .and t (b8 a) (.int .u8 n) = pure (b8 (a &&& UInt8.ofNat n.toNat)) := by
  have e : Value.int .u8 n = b8 (UInt8.ofNat n.toNat) := by simp only [b8, UInt8.toNat_ofNat']; congr 1; omega
  rw [e, b8_and]

@[go_sem ↓] theorem b8_xor : binOp .xor t (b8 a) (b8 b) = pure (b8 (a ^^^ b)) := by
  simp only [b8, binOp_xor, Op.intBits, IntKind.bits, ofInt_u8]
  rw [b8_eq]; rfl
@[go_sem ↓] theorem b8_xor_c (h : 0 ≤ n ∧ n < 256) : binOp .xor t (b8 a) (.int .u8 n) = pure (b8 (a ^^^ UInt8.ofNat n.toNat)) := by
  have e : Value.int .u8 n = b8 (UInt8.ofNat n.toNat) := by simp only [b8, UInt8.toNat_ofNat']; congr 1; omega
  rw [e, b8_xor]

@[go_sem ↓] theorem b8_andNot_c (h : 0 ≤ n ∧ n < 256) : binOp .andNot t (b8 a) (.int .u8 n) = pure (b8 (a &&& ~~~ UInt8.ofNat n.toNat)) := by
  have e : Value.int .u8 n = b8 (UInt8.ofNat n.toNat) := by simp only [b8, UInt8.toNat_ofNat']; congr 1; omega
  rw [e]
  simp only [b8, binOp_andNot, Op.intBits, IntKind.bits, ofInt_u8]
  rw [b8_eq]; rfl
@[go_sem ↓] theorem b8_add : binOp .add t (b8 a) (b8 b) = pure (b8 (a + b)) := by
  simp only [b8, binOp_add, Op.intArith, IntKind.wrap_u8, UInt8.toNat_add]
  all_goals congr 2
  all_goals omega
@[go_sem ↓] theorem b8_add_c (h : 0 ≤ n ∧ n < 256) : binOp .add t (b8 a) (.int .u8 n) = pure (b8 (a + UInt8.ofNat n.toNat)) := by
  have e : Value.int .u8 n = b8 (UInt8.ofNat n.toNat) := by simp only [b8, UInt8.toNat_ofNat']; congr 1; omega
  rw [e, b8_add]
@[go_sem ↓] theorem b8_eql : binOp .eql t (b8 a) (b8 b) = pure (.bool (decide (a = b))) := by
  simp only [b8, binOp_eql]
  all_goals congr 2
  all_goals (rw [Bool.eq_iff_iff]; simp [← UInt8.toNat_inj]; omega)
@[go_sem ↓] theorem b8_neq : binOp .neq t (b8 a) (b8 b) = pure (.bool (!decide (a = b))) := by
  simp only [b8, binOp_neq]
  all_goals congr 2
  all_goals (rw [Bool.eq_iff_iff]; simp [← UInt8.toNat_inj]; omega)

@[go_sem ↓] theorem b8_lss_c : binOp .lss t (b8 a) (.int .u8 n) = pure (.bool (decide ((a.toNat : Int) < n))) := by
  simp only [b8, binOp_lss]
  all_goals congr 2
  all_goals (rw [Bool.eq_iff_iff]; simp)

@[go_sem ↓] theorem b8_leq_c : binOp .leq t (b8 a) (.int .u8 n) = pure (.bool (decide ((a.toNat : Int) ≤ n))) := by
  simp only [b8, binOp_leq]
  all_goals congr 2
  all_goals (rw [Bool.eq_iff_iff]; simp)

@[go_sem ↓] theorem b8_gtr_c : binOp .gtr t (b8 a) (.int .u8 n) = pure (.bool (decide (n < (a.toNat : Int)))) := by
  simp only [b8, binOp_gtr]
  all_goals congr 2
  all_goals (rw [Bool.eq_iff_iff]; simp)

@[go_sem ↓] theorem b8_geq_c : binOp .geq t (b8 a) (.int .u8 n) = pure (.bool (decide (n ≤ (a.toNat : Int)))) := by
  simp only [b8, binOp_geq]
  all_goals congr 2
  all_goals (rw [Bool.eq_iff_iff]; simp)

@[go_sem ↓] theorem b8_eql_c : binOp .eql t (b8 a) (.int .u8 n) = pure (.bool (decide ((a.toNat : Int) = n))) := by
  simp only [b8, binOp_eql]
  all_goals congr 2
  all_goals (rw [Bool.eq_iff_iff]; simp)

@[go_sem ↓] theorem b8_neq_c : binOp .neq t (b8 a) (.int .u8 n) = pure (.bool (!decide ((a.toNat : Int) = n))) := by
  simp only [b8, binOp_neq]
  all_goals congr 2
  all_goals (rw [Bool.eq_iff_iff]; simp)
@[go_sem ↓] theorem b8_rem_c (h : 0 < n ∧ n < 256) : binOp .rem t (b8 a) (.int .u8 n) = pure (b8 (a % UInt8.ofNat n.toNat)) := by
  obtain ⟨m, rfl⟩ := Int.eq_ofNat_of_zero_le (show 0 ≤ n by omega)
  simp only [b8]
  rw [show binOp .rem t (.int .u8 (a.toNat : Int)) (.int .u8 (m : Int)) = Op.intDiv .rem .u8 a.toNat m from by simp [binOp]]
  simp only [Op.intDiv]
  rw [if_neg (by omega)]
  simp only [UInt8.toNat_mod, UInt8.toNat_ofNat', Int.toNat_natCast]
  have e : m % 2 ^ 8 = m := by omega
  rw [e]
  congr 2
@[go_sem ↓] theorem b8_shr (yk : IntKind) (h : 0 ≤ n) : binOp .shr t (b8 a) (.int yk n) = pure (b8 ⟨a.toBitVec >>> n.toNat⟩) := by
  obtain ⟨m, rfl⟩ := Int.eq_ofNat_of_zero_le h
  simp only [b8, binOp_shr, Op.shift, IntKind.bits]
  rw [if_neg (by omega)]
  simp only [Int.toNat_natCast]
  congr 2
  have e0 : (⟨a.toBitVec >>> m⟩ : UInt8).toNat = a.toNat / 2 ^ m := by
    show (a.toBitVec >>> m).toNat = _
    rw [BitVec.toNat_ushiftRight, Nat.shiftRight_eq_div_pow]; rfl
  rw [e0]
  have ha := a.toNat_lt
  have e : ∀ k : Nat, (a.toNat : Int).fdiv (2 ^ k) = ((a.toNat / 2 ^ k : Nat) : Int) := by
    intro k; rw [Int.fdiv_eq_ediv_of_nonneg _ (by exact_mod_cast Nat.zero_le _)]; simp
  rw [e]
  by_cases hm : m ≤ 8
  · rw [Nat.min_eq_left hm]
  · rw [Nat.min_eq_right (by omega)]
    have h1 : a.toNat / 2 ^ 8 = 0 := Nat.div_eq_of_lt (by omega)
    have h2 : a.toNat / 2 ^ m = 0 := Nat.div_eq_of_lt (Nat.lt_of_lt_of_le (by omega : a.toNat < 2 ^ 8) (Nat.pow_le_pow_right (by decide) (by omega)))
    rw [h1, h2]
end

section
variable (a : BitVec 64) (b : BitVec 32) (c : UInt8)
@[simp ↓, go_sem ↓] theorem cells_u64 : (u64 a).cells = #[u64 a] := rfl
@[simp ↓, go_sem ↓] theorem cells_u32 : (u32 b).cells = #[u32 b] := rfl
@[simp ↓, go_sem ↓] theorem cells_b8 : (b8 c).cells = #[b8 c] := rfl
@[simp] theorem oneCell_u64 : (u64 a).oneCell' = true := rfl
@[simp] theorem oneCell_u32 : (u32 b).oneCell' = true := rfl
@[simp] theorem oneCell_b8 : (b8 c).oneCell' = true := rfl
end

section
variable {P : Program} (w : World) (p : Addr) (m : Mode) (a : BitVec 64) (b : BitVec 32) (c : UInt8)
@[go_sem] theorem run_store_u64 : (store p (u64 a) m).run P w = stored P w p (u64 a) m := run_store P w p _ m rfl
@[go_sem] theorem run_store_u32 : (store p (u32 b) m).run P w = stored P w p (u32 b) m := run_store P w p _ m rfl
@[go_sem] theorem run_store_b8 : (store p (b8 c) m).run P w = stored P w p (b8 c) m := run_store P w p _ m rfl
@[go_sem ↓] theorem run_storeCells_u64 : (storeCells p [u64 a]).run P w = stored P w p (u64 a) .plain := by
  have h := run_store_u64 (P := P) w p .plain a
  simp only [storeCells, Sem.run_bind, Addr.add, if_true, h]
  cases stored P w p (u64 a) .plain <;> simp [Result.andThen]
@[go_sem ↓] theorem run_storeCells_u32 : (storeCells p [u32 b]).run P w = stored P w p (u32 b) .plain := by
  have h := run_store_u32 (P := P) w p .plain b
  simp only [storeCells, Sem.run_bind, Addr.add, if_true, h]
  cases stored P w p (u32 b) .plain <;> simp [Result.andThen]
@[go_sem ↓] theorem run_storeCells_b8 : (storeCells p [b8 c]).run P w = stored P w p (b8 c) .plain := by
  have h := run_store_b8 (P := P) w p .plain c
  simp only [storeCells, Sem.run_bind, Addr.add, if_true, h]
  cases stored P w p (b8 c) .plain <;> simp [Result.andThen]
end

section
variable (op : BinOp) (t : TypeId) (x y : Operand) (v : Value)
@[go_sem] theorem eqGuard_u64 (a : BitVec 64) : eqGuard op t x y (u64 a) v = pure () := by cases op <;> rfl
@[go_sem] theorem eqGuard_u32 (a : BitVec 32) : eqGuard op t x y (u32 a) v = pure () := by cases op <;> rfl
@[go_sem] theorem eqGuard_b8 (a : UInt8) : eqGuard op t x y (b8 a) v = pure () := by cases op <;> rfl
end

section
variable {P : Program} (w : World) (src dst : TypeId)
theorem run_conv_k (k : IntKind) (n : Int) (kd : IntKind) (hs : (P.underlying src).isSome = true) (hd : P.underlying dst = some (.int kd)) :
    (convert src dst (.int k n)).run P w = .ok (.int kd (kd.wrap n)) w := by
  have hk : P.intKind dst = kd := by simp [Program.intKind, hd]
  have h := run_convert_int w src dst k n hs (by rw [hk]; exact hd)
  rw [hk] at h
  exact h
@[go_sem ↓] theorem conv_b8_u64 (c : UInt8) (hs : (P.underlying src).isSome = true) (hd : P.underlying dst = some (.int .u64)) :
    (convert src dst (b8 c)).run P w = .ok (u64 (c.toBitVec.setWidth 64)) w := by
  have h := c.toNat_lt
  have e : (c.toBitVec.setWidth 64).toNat = c.toNat := by rw [BitVec.toNat_setWidth]; show c.toNat % _ = _; omega
  rw [b8, run_conv_k w src dst _ _ .u64 hs hd, u64, e, wrap_u64_nat _ (by omega : c.toNat < 18446744073709551616)]
@[go_sem ↓] theorem conv_b8_u32 (c : UInt8) (hs : (P.underlying src).isSome = true) (hd : P.underlying dst = some (.int .u32)) :
    (convert src dst (b8 c)).run P w = .ok (u32 (c.toBitVec.setWidth 32)) w := by
  have h := c.toNat_lt
  have e : (c.toBitVec.setWidth 32).toNat = c.toNat := by rw [BitVec.toNat_setWidth]; show c.toNat % _ = _; omega
  rw [b8, run_conv_k w src dst _ _ .u32 hs hd, u32, e, wrap_u32_nat _ (by omega : c.toNat < 4294967296)]
@[go_sem ↓] theorem conv_b8_i64 (c : UInt8) (hs : (P.underlying src).isSome = true) (hd : P.underlying dst = some (.int .i64)) :
    (convert src dst (b8 c)).run P w = .ok (.int .i64 (c.toNat : Int)) w := by
  have h := c.toNat_lt
  rw [b8, run_conv_k w src dst _ _ .i64 hs hd, IntKind.wrap_i64]
  exact congrArg (fun x => Result.ok (Value.int .i64 x) w) (by omega)
@[go_sem ↓] theorem conv_i64_u64 (n : Int) (hs : (P.underlying src).isSome = true) (hd : P.underlying dst = some (.int .u64)) :
    (convert src dst (.int .i64 n)).run P w = .ok (u64 (BitVec.ofInt 64 n)) w := by
  rw [run_conv_k w src dst _ _ .u64 hs hd, u64, IntKind.wrap_u64, BitVec.toNat_ofInt]; congr 2 <;> omega
@[go_sem ↓] theorem conv_u64_i64 (a : BitVec 64) (hs : (P.underlying src).isSome = true) (hd : P.underlying dst = some (.int .i64)) :
    (convert src dst (u64 a)).run P w = .ok (.int .i64 (i64of a)) w := by
  have h := a.isLt
  rw [u64, run_conv_k w src dst _ _ .i64 hs hd, IntKind.wrap_i64, i64of, BitVec.toInt_eq_toNat_bmod]
  exact congrArg (fun x => Result.ok (Value.int .i64 x) w) (by rw [Int.bmod_def]; split <;> omega)
@[go_sem ↓] theorem conv_u64_b8 (a : BitVec 64) (hs : (P.underlying src).isSome = true) (hd : P.underlying dst = some (.int .u8)) :
    (convert src dst (u64 a)).run P w = .ok (b8 (UInt8.ofNat a.toNat)) w := by
  rw [u64, run_conv_k w src dst _ _ .u8 hs hd, b8, IntKind.wrap_u8, UInt8.toNat_ofNat']; congr 2
@[go_sem ↓] theorem conv_u64_u64 (a : BitVec 64) (hs : (P.underlying src).isSome = true) (hd : P.underlying dst = some (.int .u64)) :
    (convert src dst (u64 a)).run P w = .ok (u64 a) w := by
  rw [u64, run_conv_k w src dst _ _ .u64 hs hd, wrap_u64_nat _ a.isLt]
@[go_sem ↓] theorem conv_i64_b8 (n : Int) (hs : (P.underlying src).isSome = true) (hd : P.underlying dst = some (.int .u8)) :
    (convert src dst (.int .i64 n)).run P w = .ok (b8 (UInt8.ofNat (n % 256).toNat)) w := by
  rw [run_conv_k w src dst _ _ .u8 hs hd, b8, IntKind.wrap_u8, UInt8.toNat_ofNat']; congr 2 <;> omega
end
end Go.Proofs.Ytdgjdbpbnipjcaa

namespace Go.Proofs.Ytdgjdbpbnipjcaa
open Go.RowKit
set_option linter.unusedVariables false

structure Sl (w : World) (size : Nat) (ao : Option Addr) (len cap : Nat) (xs : List Value) : Prop where
  hlen : xs.length = len * size
  hle : len ≤ cap
  hmax : cap ≤ maxLen
  hbare : ao = none → cap = 0
  hcell : ∀ j u, xs[j]? = some u → ∃ b off, ao = some ⟨b, off, none⟩ ∧ w.cell? ⟨b, off + j, none⟩ = some u

section
variable {w w' : World} {size len cap : Nat} {ao : Option Addr} {xs : List Value}

theorem Sl.nil (w : World) (size : Nat) : Sl w size none 0 0 [] := ⟨by simp, Nat.le_refl _, by unfold maxLen; omega, fun _ => rfl, fun j u h => by simp at h⟩

theorem Sl.ext (h : Sl w size ao len cap xs) (hb : Below w.heap.size w w') : Sl w' size ao len cap xs :=
  ⟨h.hlen, h.hle, h.hmax, h.hbare, fun j u hj => by
    obtain ⟨b, off, e, hc⟩ := h.hcell j u hj
    exact ⟨b, off, e, (hb.cell (p := ⟨b, off + j, none⟩) (World.block_lt_of_cell? w _ hc)).trans hc⟩⟩

/-- The address of a slice that holds something, and all its cells. -/
theorem Sl.addr (h : Sl w size ao len cap xs) (hpos : 0 < xs.length) : ∃ b off, ao = some ⟨b, off, none⟩ ∧ b < w.heap.size ∧ ∀ j u, xs[j]? = some u → w.cell? ⟨b, off + j, none⟩ = some u := by
  obtain ⟨b, off, e, hc⟩ := h.hcell 0 xs[0] (List.getElem?_eq_getElem hpos)
  refine ⟨b, off, e, World.block_lt_of_cell? w _ hc, fun j u hj => ?_⟩
  obtain ⟨b', off', e', hc'⟩ := h.hcell j u hj
  rw [e] at e'
  cases e'
  exact hc'

theorem Sl.holds (h : Sl w size ao len cap xs) : ∀ a, ao = some a → ∀ j u, xs[j]? = some u → w.cell? (a.add j) = some u := by
  intro a ha j u hj
  obtain ⟨b, off, e, hc⟩ := h.hcell j u hj
  rw [e] at ha
  cases ha
  rw [Addr.add_lit]
  exact hc

/-- A part of a slice: 's[l:h:m]'. -/
theorem Sl.part (h : Sl w size ao len cap xs) (l r m : Nat) (h1 : l ≤ r) (h2 : r ≤ len) (h3 : r ≤ m) (h4 : m ≤ cap) :
    Sl w size (if m = l then ao else ao.map (·.add (l * size))) (r - l) (m - l) ((xs.drop (l * size)).take ((r - l) * size)) := by
  have hl := h.hlen
  have hmx := h.hmax
  have hrl : r * size ≤ len * size := Nat.mul_le_mul_right _ h2
  have e : (r - l) * size = r * size - l * size := Nat.sub_mul ..
  refine ⟨by simp only [List.length_take, List.length_drop]; omega, by omega, by omega, fun hn => ?_, fun j u hj => ?_⟩
  · split at hn
    · omega
    · have := h.hbare (by simpa using hn); omega
  · rw [List.getElem?_take] at hj
    split at hj
    · rw [List.getElem?_drop] at hj
      obtain ⟨b, off, eo, hc⟩ := h.hcell _ u hj
      have hml : ¬ m = l := by
        intro hm
        have : r = l := by omega
        subst this
        simp at *
      rw [if_neg hml, eo]
      refine ⟨b, off + l * size, by simp [Addr.add_lit], by rw [Nat.add_assoc]; exact hc⟩
    · cases hj

theorem sl_of_own {B : Nat} {e : TypeId} {v : Value} {n : Nat} (h : w.ownsRow B e size v n xs) : ∃ ao cap, v = .slice ao n cap ∧ Sl w size ao n cap xs := by
  rcases h.2 with ⟨rfl, rfl⟩ | ⟨g, cap, cur, rfl, hb, hg, hn, hm, hcs, ht⟩
  · have hx : xs = [] := List.eq_nil_of_length_eq_zero (by simpa using h.1)
    subst hx
    exact ⟨none, 0, rfl, Sl.nil w size⟩
  · refine ⟨_, cap, rfl, h.1, hn, hm, (fun e => by cases e), fun j u hj => ⟨g, 0, rfl, ?_⟩⟩
    have := h.cells (g := g) rfl j u hj
    rw [Addr.add_lit] at this
    exact this
end

theorem ownsRow_ext {w w' : World} {B : Nat} {e : TypeId} {size : Nat} {v : Value} {n : Nat} {xs : List Value} (h : w.ownsRow B e size v n xs) (hb : Below w.heap.size w w') : w'.ownsRow B e size v n xs := by
  refine ⟨h.1, ?_⟩
  rcases h.2 with hn | ⟨g, cap, cur, rfl, hB, hg, rest⟩
  · exact .inl hn
  · exact .inr ⟨g, cap, cur, rfl, hB, by rw [hb.block g (Array.getElem?_eq_some_iff.1 hg).1]; exact hg, rest⟩

theorem ownsRow_mono {w : World} {B B' : Nat} {e : TypeId} {size : Nat} {v : Value} {n : Nat} {xs : List Value} (h : w.ownsRow B e size v n xs) (hb : B' ≤ B) : w.ownsRow B' e size v n xs :=
  ⟨h.1, h.2.imp id fun ⟨g, cap, cur, h1, h2, h3⟩ => ⟨g, cap, cur, h1, Nat.le_trans hb h2, h3⟩⟩

/-- A SLICE THAT CAN BE APPENDED TO: the call's own row, or one without room. -/
def Acc (w : World) (B : Nat) (e : TypeId) (size : Nat) (v : Value) (n : Nat) (xs : List Value) : Prop :=
  w.ownsRow B e size v n xs ∨ ∃ ao, v = .slice ao n n ∧ Sl w size ao n n xs

theorem Acc.own {w : World} {B : Nat} {e : TypeId} {size : Nat} {v : Value} {n : Nat} {xs : List Value} (h : w.ownsRow B e size v n xs) : Acc w B e size v n xs := .inl h
theorem Acc.full {w : World} {B : Nat} {e : TypeId} {size : Nat} {ao : Option Addr} {n : Nat} {xs : List Value} (h : Sl w size ao n n xs) : Acc w B e size (.slice ao n n) n xs := .inr ⟨ao, rfl, h⟩
theorem Acc.nil (w : World) (B : Nat) (e : TypeId) (size : Nat) : Acc w B e size (.slice none 0 0) 0 [] := .inl (World.ownsRow_nil w B e size)
theorem Acc.ext {w w' : World} {B : Nat} {e : TypeId} {size : Nat} {v : Value} {n : Nat} {xs : List Value} (h : Acc w B e size v n xs) (hb : Below w.heap.size w w') : Acc w' B e size v n xs :=
  h.imp (fun h => ownsRow_ext h hb) fun ⟨ao, hv, hs⟩ => ⟨ao, hv, hs.ext hb⟩
theorem Acc.mono {w : World} {B B' : Nat} {e : TypeId} {size : Nat} {v : Value} {n : Nat} {xs : List Value} (h : Acc w B e size v n xs) (hb : B' ≤ B) : Acc w B' e size v n xs :=
  h.imp (fun h => ownsRow_mono h hb) id
theorem Acc.len {w : World} {B : Nat} {e : TypeId} {size : Nat} {v : Value} {n : Nat} {xs : List Value} (h : Acc w B e size v n xs) : xs.length = n * size := by
  rcases h with h | ⟨_, _, h⟩
  · exact h.1
  · exact h.hlen
theorem Acc.sl {w : World} {B : Nat} {e : TypeId} {size : Nat} {v : Value} {n : Nat} {xs : List Value} (h : Acc w B e size v n xs) : ∃ ao cap, v = .slice ao n cap ∧ Sl w size ao n cap xs := by
  rcases h with h | ⟨ao, hv, hs⟩
  · exact sl_of_own h
  · exact ⟨ao, n, hv, hs⟩

section
variable {P : Program}

/-- THE APPEND: whatever is appended ('Src'), to a slice that can be appended to. -/
theorem run_append_acc (w : World) (B : Nat) (t tx ty e : TypeId) (z : Value) (size bytes : Nat) (ht : P.underlying t = some (.slice e))
    (hinfo : (P.info? e).map (fun i => (i.zero, i.size, i.bytes)) = some (some z, size, bytes)) (hzs : z.cells.size = size) (hsz : 0 < size)
    (v : Value) (n : Nat) (xs : List Value) (hacc : Acc w B e size v n xs)
    (x : Value) (m : Nat) (news : List Value) (hs : Src P size tx x m news w)
    (h63 : n + m ≤ maxLen) (hbytes : (n + m) * bytes ≤ 140737488355328) (hB : B ≤ w.heap.size) :
    ∃ v' w', (Builtin.append_ #[t, tx] ty #[v, x]).run P w = .ok v' w' ∧ Acc w' B e size v' (n + m) (xs ++ news) ∧ (0 < m → w'.ownsRow B e size v' (n + m) (xs ++ news)) ∧ (m = 0 → v' = v ∧ w' = w) ∧
      w.grownBy w' (if 0 < m then v.ownBlock else none) ∧ Below B w w' := by
  obtain ⟨i, hi, hz, rfl, rfl⟩ := info_parts hinfo
  have hsmall : n + m ≤ 9223372036854775807 := by simp only [maxLen] at h63; omega
  have hnl := hs.newsLen
  have hlen : (xs ++ news).length = (n + m) * i.size := by rw [List.length_append, hacc.len, hnl, Nat.add_mul]
  obtain ⟨ao, cap, hv, hsl⟩ := hacc.sl
  by_cases hm0 : m = 0
  · -- nothing is appended: the slice itself
    subst hm0
    have hn0 : news = [] := List.eq_nil_of_length_eq_zero (by simpa using hnl)
    subst hn0
    have hrun : (Builtin.append_ #[t, tx] ty #[v, x]).run P w = .ok v w := by
      subst hv
      have hle := hsl.hle
      have hc := hs.cells
      rcases hs.kind with ⟨e', hk⟩ | hk <;> cases ao <;> simp [Builtin.append_, run_underlying ht, run_underlying hk, sizeOf, typeInfo, hi, hs.len, hle, hc, storeCells]
    exact ⟨v, w, hrun, by simpa using hacc, fun h => absurd h (Nat.lt_irrefl _), fun _ => ⟨rfl, rfl⟩, ⟨rfl, rfl, rfl, Nat.le_refl _, fun _ _ _ => rfl⟩, Below.refl _ _⟩
  · have hm : 0 < m := Nat.pos_of_ne_zero hm0
    simp only [hm, if_true, forall_const, hm0, false_imp_iff, true_and]
    have fin : ∀ v' w', (Builtin.append_ #[t, tx] ty #[v, x]).run P w = .ok v' w' → w'.ownsRow B e i.size v' (n + m) (xs ++ news) → w.grownBy w' v.ownBlock → (∀ k, v.ownBlock = some k → B ≤ k ∨ w'.heap[k]? = w.heap[k]?) →
        ∃ v' w', (Builtin.append_ #[t, tx] ty #[v, x]).run P w = .ok v' w' ∧ Acc w' B e i.size v' (n + m) (xs ++ news) ∧ w'.ownsRow B e i.size v' (n + m) (xs ++ news) ∧ w.grownBy w' v.ownBlock ∧ Below B w w' := by
      intro v' w' h1 h2 h3 h4
      refine ⟨v', w', h1, .inl h2, h2, h3, h3.os, h3.tape, h3.output, h3.size, fun k hk => ?_⟩
      by_cases hkr : some k = v.ownBlock
      · rcases h4 k hkr.symm with h5 | h5
        · omega
        · exact h5
      · exact h3.block k (by omega) hkr
    have grow : cap < n + m → ∃ v' w', (Builtin.append_ #[t, tx] ty #[v, x]).run P w = .ok v' w' ∧ Acc w' B e i.size v' (n + m) (xs ++ news) ∧ w'.ownsRow B e i.size v' (n + m) (xs ++ news) ∧ w.grownBy w' v.ownBlock ∧ Below B w w' := by
      intro hgt
      subst hv
      have hold : (Builtin.firstCells i.size n (.slice ao n cap)).run P w.drew = .ok xs.toArray w.drew := by
        cases ao with
        | none =>
          have h0 := hsl.hbare rfl
          have hle := hsl.hle
          obtain rfl : n = 0 := by omega
          have hx : xs = [] := List.eq_nil_of_length_eq_zero (by simpa using hsl.hlen)
          subst hx
          subst h0
          exact run_firstCells_none w.drew i.size 0 0 0
        | some a => exact run_firstCells_some w.drew i.size n a n cap xs hsl.hlen (fun j u hj => by have h' := hsl.holds a rfl j u hj; exact h')
      have hr := run_append_grow_src (P := P) w t tx ty e i z ht hi hz ao n cap xs hold x m news hs hgt (by omega) (growslice_fits (by omega) hbytes)
      refine fin _ _ hr ⟨hlen, .inr ⟨w.heap.size, _, _, rfl, hB, heap_alloc_new w.drew _, grownCap_ge w _ _ e, grownCap_le_maxLen w _ _ e h63, ?_, ?_⟩⟩ ⟨rfl, rfl, rfl, by simp, fun k hk _ => Below.heap_alloc w.drew _ k hk⟩ ?_
      · have hge := grownCap_ge w (n + m) cap e
        have hs3 : (n + m) * i.size + (grownCap w (n + m) cap e - (n + m)) * i.size = grownCap w (n + m) cap e * i.size := by rw [← Nat.add_mul, Nat.add_sub_cancel' hge]
        simp only [Array.size_append, List.size_toArray, size_zeroCells, hzs, hlen]
        exact hs3
      · simp only [Array.toList_append]
        rw [← hlen]
        exact List.take_left
      · intro k hk
        by_cases hkl : k < w.heap.size
        · exact .inr (Below.heap_alloc w.drew _ _ hkl)
        · exact .inl (by omega)
    by_cases hroom : n + m ≤ cap
    · rcases hacc with hown | ⟨ao', hv', hs'⟩
      · rcases hown.2 with ⟨hvn, _⟩ | ⟨g, cap', cur, hvg, hbg, hg, hnc, hcm, hcs, htake⟩
        · rw [hv] at hvn; cases hvn; omega
        · rw [hv] at hvg
          cases hvg
          subst hv
          have hfit : n * i.size + news.length ≤ cur.size := by rw [hnl, hcs, ← Nat.add_mul]; exact Nat.mul_le_mul_right _ hroom
          have hst := run_storeCells_at P g (n * i.size) e news 0 cur w hg (by simpa using hfit) hs.one
          simp only [Nat.add_zero] at hst
          have hr : (Builtin.append_ #[t, tx] ty #[.slice (some ⟨g, 0, none⟩) n cap, x]).run P w = .ok (.slice (some ⟨g, 0, none⟩) (n + m) cap) (w.setRow g (cur.toList.take (n * i.size) ++ news ++ cur.toList.drop (n * i.size + news.length)).toArray) := by
            rcases hs.kind with ⟨e', hk⟩ | hk <;> simp [Builtin.append_, run_underlying ht, run_underlying hk, sizeOf, typeInfo, hi, hs.len, hroom, hs.cells, Addr.add_lit, hst]
          refine fin _ _ hr ⟨hlen, .inr ⟨g, cap, _, rfl, hbg, setRow_heap w g cur _ e _ hg, hroom, hcm, ?_, ?_⟩⟩ ⟨rfl, rfl, rfl, by simp, fun k _ hk => setRow_other w g k _ (fun e => hk (by simp [Value.ownBlock, e]))⟩ ?_
          · simp only [List.size_toArray, List.length_append, List.length_take, List.length_drop, Array.length_toList]
            omega
          · rw [htake, ← hlen]
            exact List.take_left
          · intro k hk
            simp [Value.ownBlock] at hk
            subst hk
            exact .inl hbg
      · rw [hv] at hv'
        cases hv'
        omega
    · exact grow (by omega)

/-- To a row of the call's own: it stays one. -/
theorem wpList_append_src (w : World) {ops : Array Oper} {rest : List Oper} {o : Oper} {a : Act} {Q : Exit → Act → World → Prop} (hgd : o.guard = none) (s x : Operand) (t tx : TypeId)
    (ho : o.op = .call { callee := .builtin .append, args := #[s, x], argTypes := #[t, tx] })
    (B : Nat) (e : TypeId) (z : Value) (size bytes : Nat) (ht : P.underlying t = some (.slice e))
    (hinfo : (P.info? e).map (fun i => (i.zero, i.size, i.bytes)) = some (some z, size, bytes)) (hzs : z.cells.size = size) (hsz : 0 < size)
    {v : Value} {n : Nat} {xs : List Value} (hown : w.ownsRow B e size v n xs) (hs : a.eval s = v)
    {xv : Value} {m : Nat} {news : List Value} (hsrc : Src P size tx xv m news w) (hx : a.eval x = xv)
    (h63 : n + m ≤ maxLen) (hbytes : (n + m) * bytes ≤ 140737488355328) (hB : B ≤ w.heap.size)
    (hK : ∀ v' w', w'.ownsRow B e size v' (n + m) (xs ++ news) → w.grownBy w' (if 0 < m then v.ownBlock else none) → Below B w w' →
      wpList P ops Q rest (a.put o.dst v') w') : wpList P ops Q (o :: rest) a w := by
  refine wpList_plain hgd fun K hK' => ?_
  obtain ⟨v', w', hrun, r1, r2, r0, r3, r4⟩ := run_append_acc (P := P) w B t tx o.type e z size bytes ht hinfo hzs hsz v n xs (.inl hown) xv m news hsrc h63 hbytes hB
  have hfin : w'.ownsRow B e size v' (n + m) (xs ++ news) := by
    by_cases hm : 0 < m
    · exact r2 hm
    · obtain rfl : m = 0 := by omega
      obtain ⟨rfl, rfl⟩ := r0 rfl
      have hn0 : news = [] := List.eq_nil_of_length_eq_zero (by simpa using hsrc.newsLen)
      subst hn0
      simpa using hown
  unfold Oper.wp
  simp [execOp, ho, resolve, invoke, builtin, hs, hx, hrun, Result.andThen]
  exact hK' _ _ (hK v' w' hfin r3 r4)

/-- What is appended is one value that lies in a new block ('append(out, x)'). -/
theorem src_one (w : World) (t e E : TypeId) (u : Value) (hu : u.oneCell' = true) (hk : P.underlying t = some (.slice e)) :
    Src P 1 t (.slice (some ⟨w.heap.size, 0, none⟩) 1 1) 1 [u] (w.alloc (.cells #[u] E)) := by
  refine Src.ofSlice _ hk ⟨w.heap.size, 0, none⟩ 1 1 [u] rfl (fun j x hj => ?_) (fun x hx => ?_)
  · match j, hj with
    | 0, hj => simp at hj; subst hj; simp [Addr.add, World.cell?_alloc_at]
  · simp at hx; subst hx; exact hu

theorem src_sl (w : World) {t e : TypeId} {size m c : Nat} {ao : Option Addr} {news : List Value} (hk : P.underlying t = some (.slice e)) (h : Sl w size ao m c news) (h1 : ∀ u ∈ news, u.oneCell' = true) :
    Src P size t (.slice ao m c) m news w := by
  cases ao with
  | none =>
    have h0 := h.hbare rfl
    have hle := h.hle
    obtain rfl : m = 0 := by omega
    have hx : news = [] := List.eq_nil_of_length_eq_zero (by simpa using h.hlen)
    subst hx
    exact Src.ofNil w hk c
  | some a => exact Src.ofSlice w hk a m c news h.hlen (h.holds a rfl) h1

/-- .. FOR THE WALK: 'go_wp2_with (at_builtin; refine wpList_append_acc _ rfl S X T TX rfl B E z size bytes A.underlyingT A.infoE rfl (by decide) HACC rfl HSRC h63 hbytes hB ?_)'. -/
theorem wpList_append_acc (w : World) {ops : Array Oper} {rest : List Oper} {o : Oper} {a : Act} {Q : Exit → Act → World → Prop} (hgd : o.guard = none) (s x : Operand) (t tx : TypeId)
    (ho : o.op = .call { callee := .builtin .append, args := #[s, x], argTypes := #[t, tx] })
    (B : Nat) (e : TypeId) (z : Value) (size bytes : Nat) (ht : P.underlying t = some (.slice e))
    (hinfo : (P.info? e).map (fun i => (i.zero, i.size, i.bytes)) = some (some z, size, bytes)) (hzs : z.cells.size = size) (hsz : 0 < size)
    {v : Value} {n : Nat} {xs : List Value} (hacc : Acc w B e size v n xs) (hs : a.eval s = v)
    {xv : Value} {m : Nat} {news : List Value} (hsrc : Src P size tx xv m news w) (hx : a.eval x = xv)
    (h63 : n + m ≤ maxLen) (hbytes : (n + m) * bytes ≤ 140737488355328) (hB : B ≤ w.heap.size)
    (hK : ∀ v' w', Acc w' B e size v' (n + m) (xs ++ news) → (0 < m → w'.ownsRow B e size v' (n + m) (xs ++ news)) → w.grownBy w' (if 0 < m then v.ownBlock else none) → Below B w w' →
      wpList P ops Q rest (a.put o.dst v') w') : wpList P ops Q (o :: rest) a w := by
  refine wpList_plain hgd fun K hK' => ?_
  obtain ⟨v', w', hrun, r1, r2, _, r3, r4⟩ := run_append_acc (P := P) w B t tx o.type e z size bytes ht hinfo hzs hsz v n xs hacc xv m news hsrc h63 hbytes hB
  unfold Oper.wp
  simp [execOp, ho, resolve, invoke, builtin, hs, hx, hrun, Result.andThen]
  exact hK' _ _ (hK v' w' r1 r2 r3 r4)

end

end Go.Proofs.Ytdgjdbpbnipjcaa

namespace Go.Proofs.Ytdgjdbpbnipjcaa
open Go.RowKit
set_option linter.unusedVariables false

/-! ### Typed cells: 'cs f xs': the cells of the elements xs, one each. Opaque to the walk. -/
def cs {α : Type} (f : α → Value) (xs : List α) : List Value := xs.map f
def i64v (n : Int) : Value := .int .i64 n
section
variable {α : Type} (f : α → Value) (xs ys : List α)
theorem cs_length : (cs f xs).length = xs.length := by simp [cs]
theorem cs_append : cs f (xs ++ ys) = cs f xs ++ cs f ys := by simp [cs]
theorem cs_one (x : α) : cs f [x] = [f x] := rfl
theorem cs_get (j : Nat) : (cs f xs)[j]? = xs[j]?.map f := by simp [cs]
theorem cs_drop (k : Nat) : (cs f xs).drop k = cs f (xs.drop k) := by simp [cs]
theorem cs_take (k : Nat) : (cs f xs).take k = cs f (xs.take k) := by simp [cs]
end

section
variable {α : Type} {f : α → Value} {w : World} {ao : Option Addr} {len cap : Nat} {xs : List α}
theorem Sl.count (h : Sl w 1 ao len cap (cs f xs)) : xs.length = len := by have := h.hlen; rw [cs_length] at this; omega
/-- Element i lies there. -/
theorem Sl.at_ (h : Sl w 1 ao len cap (cs f xs)) (i : Nat) (hi : i < len) (d : α) : ∃ b off, ao = some ⟨b, off, none⟩ ∧ w.cell? ⟨b, off + i, none⟩ = some (f (xs.getD i d)) := by
  have hc := h.count
  obtain ⟨b, off, e, h'⟩ := h.hcell i (f (xs.getD i d)) (by rw [cs_get]; simp [List.getD, hc, hi])
  exact ⟨b, off, e, h'⟩
/-- All elements lie there. -/
theorem Sl.all (h : Sl w 1 ao len cap (cs f xs)) (hpos : 0 < len) (d : α) : ∃ b off, ao = some ⟨b, off, none⟩ ∧ b < w.heap.size ∧ ∀ i, i < len → w.cell? ⟨b, off + i, none⟩ = some (f (xs.getD i d)) := by
  have hc := h.count
  obtain ⟨b, off, e, hb, h'⟩ := h.addr (by rw [cs_length]; omega)
  exact ⟨b, off, e, hb, fun i hi => h' i _ (by rw [cs_get]; simp [List.getD, hc, hi])⟩
theorem Sl.partT (h : Sl w 1 ao len cap (cs f xs)) (l r m : Nat) (h1 : l ≤ r) (h2 : r ≤ len) (h3 : r ≤ m) (h4 : m ≤ cap) :
    Sl w 1 (if m = l then ao else ao.map (·.add (l * 1))) (r - l) (m - l) (cs f ((xs.drop l).take (r - l))) := by
  have := h.part l r m h1 h2 h3 h4
  rw [Nat.mul_one, Nat.mul_one, cs_drop, cs_take] at this
  rw [Nat.mul_one]
  exact this
end

/-- 's[at:]', whatever s: the value, and what it holds. The run equation is laid ahead of the walk. -/
theorem slice_from {P : Program} {α : Type} {f : α → Value} {w : World} {ao : Option Addr} {len cap : Nat} {xs : List α} (t e : TypeId) (ht : P.underlying t = some (.slice e)) (hz : ∀ w : World, (sizeOf e).run P w = .ok 1 w)
    (hs : Sl w 1 ao len cap (cs f xs)) (at_ : Nat) (h : at_ ≤ len) :
    ∃ ao', (∀ w', (Instr.slice t (.slice ao len cap) (some (.int .i64 (at_ : Int))) none none).run P w' = .ok (.slice ao' (len - at_) (cap - at_)) w') ∧ Sl w 1 ao' (len - at_) (cap - at_) (cs f (xs.drop at_)) := by
  have hle := hs.hle
  refine ⟨if cap = at_ then ao else ao.map (·.add (at_ * 1)), fun w' => ?_, ?_⟩
  · have he : P.elem t = e := by simp [Program.elem, ht]
    rw [run_slice_l w' t ao len cap (by rw [he]; exact ht) .i64 (at_ : Int) (by omega) (by omega), he, hz]
    simp [Result.andThen, sliced]
  · have := hs.partT at_ len cap h (Nat.le_refl _) hle (Nat.le_refl _)
    rw [List.take_of_length_le (by rw [List.length_drop, hs.count]; omega)] at this
    exact this

section
variable {P : Program} {α : Type}
/-- 'append(out, x)' of one element of one cell: x was laid in a new block just before. -/
theorem wpList_append_one (f : α → Value) (hf : ∀ x, (f x).oneCell' = true) (w : World) {ops : Array Oper} {rest : List Oper} {o : Oper} {a : Act} {Q : Exit → Act → World → Prop} (hgd : o.guard = none) (s x : Operand) (t : TypeId)
    (ho : o.op = .call { callee := .builtin .append, args := #[s, x], argTypes := #[t, t] })
    (B : Nat) (e E : TypeId) (z : Value) (bytes : Nat) (ht : P.underlying t = some (.slice e))
    (hinfo : (P.info? e).map (fun i => (i.zero, i.size, i.bytes)) = some (some z, 1, bytes)) (hzs : z.cells.size = 1)
    {v : Value} {n : Nat} {xs : List α} (hacc : Acc w B e 1 v n (cs f xs)) (hs : a.eval s = v) (c : α)
    (hx : a.eval x = .slice (some ⟨w.heap.size, 0, none⟩) 1 1)
    (h63 : n + 1 ≤ maxLen) (hbytes : (n + 1) * bytes ≤ 140737488355328) (hB : B ≤ w.heap.size)
    (hK : ∀ v' w', w'.ownsRow B e 1 v' (n + 1) (cs f (xs ++ [c])) → (w.alloc (.cells #[f c] E)).grownBy w' v.ownBlock → Below B w w' → wpList P ops Q rest (a.put o.dst v') w') :
    wpList P ops Q (o :: rest) a (w.alloc (.cells #[f c] E)) := by
  have hext : Below w.heap.size w (w.alloc (.cells #[f c] E)) := Below.alloc (Below.refl _ _) (Nat.le_refl _) _
  refine wpList_append_acc _ hgd s x t t ho B e z 1 bytes ht hinfo hzs (by decide) (hacc.ext hext) hs (src_one w t e E (f c) (hf c) ht) hx h63 hbytes (by simp; omega) fun v' w' _ r2 r3 r4 => ?_
  refine hK v' w' ?_ (by simpa using r3) ((hext.mono hB).trans r4)
  rw [cs_append, cs_one]
  exact r2 (by decide)
/-- 'append(out, xs...)', out the call's own. -/
theorem wpList_append_many (f : α → Value) (hf : ∀ x, (f x).oneCell' = true) (w : World) {ops : Array Oper} {rest : List Oper} {o : Oper} {a : Act} {Q : Exit → Act → World → Prop} (hgd : o.guard = none) (s x : Operand) (t : TypeId)
    (ho : o.op = .call { callee := .builtin .append, args := #[s, x], argTypes := #[t, t] })
    (B : Nat) (e : TypeId) (z : Value) (bytes : Nat) (ht : P.underlying t = some (.slice e))
    (hinfo : (P.info? e).map (fun i => (i.zero, i.size, i.bytes)) = some (some z, 1, bytes)) (hzs : z.cells.size = 1)
    {v : Value} {n : Nat} {xs : List α} (hown : w.ownsRow B e 1 v n (cs f xs)) (hs : a.eval s = v) {ao : Option Addr} {m c : Nat} {ys : List α} (hsl : Sl w 1 ao m c (cs f ys))
    (hx : a.eval x = .slice ao m c)
    (h63 : n + m ≤ maxLen) (hbytes : (n + m) * bytes ≤ 140737488355328) (hB : B ≤ w.heap.size)
    (hK : ∀ v' w', w'.ownsRow B e 1 v' (n + m) (cs f (xs ++ ys)) → Below B w w' → wpList P ops Q rest (a.put o.dst v') w') :
    wpList P ops Q (o :: rest) a w := by
  refine wpList_append_src w hgd s x t t ho B e z 1 bytes ht hinfo hzs (by decide) hown hs (src_sl w ht hsl (fun u hu => ?_)) hx h63 hbytes hB fun v' w' r2 r3 r4 => ?_
  · unfold cs at hu; obtain ⟨y, _, rfl⟩ := List.mem_map.1 hu; exact hf y
  · refine hK v' w' ?_ r4
    rw [cs_append]; exact r2

/-- 'string(b)'. -/
theorem run_b2s (w : World) (src dst e : TypeId) {ao : Option Addr} {len cap : Nat} {xs : List UInt8} (hs : P.underlying src = some (.slice e)) (hd : P.underlying dst = some .string) (he : P.underlying e = some (.int .u8))
    (h : Sl w 1 ao len cap (cs b8 xs)) : (convert src dst (.slice ao len cap)).run P w = .ok (.string ⟨xs.toArray⟩) w := by
  have hc := h.count
  cases ao with
  | none =>
    have h0 := h.hbare rfl
    have hle := h.hle
    have hx : xs = [] := List.eq_nil_of_length_eq_zero (by omega)
    subst hx
    exact run_convert_bytes_nil (P := P) (w := w) src e hs he len cap dst hd
  | some a =>
    have := run_convert_bytes_back (P := P) w src dst e a cap xs hs he hd (fun j hj => h.holds a rfl j _ (by rw [cs_get, List.getElem?_eq_getElem hj]; rfl))
    rw [hc] at this
    exact this

theorem wpList_b2s (w : World) {ops : Array Oper} {rest : List Oper} {o : Oper} {a : Act} {Q : Exit → Act → World → Prop} (hgd : o.guard = none) (src dst e : TypeId) (x : Operand)
    (ho : o.op = .convert src dst x) (hs : P.underlying src = some (.slice e)) (hd : P.underlying dst = some .string) (he : P.underlying e = some (.int .u8))
    {ao : Option Addr} {len cap : Nat} {xs : List UInt8} (h : Sl w 1 ao len cap (cs b8 xs)) (hx : a.eval x = .slice ao len cap)
    (hK : wpList P ops Q rest (a.put o.dst (.string ⟨xs.toArray⟩)) w) : wpList P ops Q (o :: rest) a w := by
  refine wpList_plain hgd fun K hK' => ?_
  have hrun := run_b2s (P := P) w src dst e hs hd he h
  unfold Oper.wp
  simp [execOp, ho, hx, hrun, Result.andThen]
  exact hK' _ _ hK

end
end Go.Proofs.Ytdgjdbpbnipjcaa

namespace Go.Proofs.Ytdgjdbpbnipjcaa
open Go.RowKit
set_option linter.unusedVariables false
/-- 's[lo:hi]', whatever s: the value, and what it holds. The run equation is laid ahead of the walk. -/
theorem slice_mid {P : Program} {α : Type} {f : α → Value} {w : World} {ao : Option Addr} {len cap : Nat} {xs : List α} (t e : TypeId) (ht : P.underlying t = some (.slice e)) (hz : ∀ w : World, (sizeOf e).run P w = .ok 1 w)
    (hs : Sl w 1 ao len cap (cs f xs)) (lo hi : Nat) (hv : Int) (hh : hv = (hi : Int)) (h1 : lo ≤ hi) (h2 : hi ≤ len) :
    ∃ ao', (∀ w', (Instr.slice t (.slice ao len cap) (some (.int .i64 (lo : Int))) (some (.int .i64 hv)) none).run P w' = .ok (.slice ao' (hi - lo) (cap - lo)) w') ∧ Sl w 1 ao' (hi - lo) (cap - lo) (cs f ((xs.drop lo).take (hi - lo))) := by
  have hle := hs.hle
  subst hh
  refine ⟨if cap = lo then ao else ao.map (·.add (lo * 1)), fun w' => ?_, ?_⟩
  · have he : P.elem t = e := by simp [Program.elem, ht]
    rw [run_slice_lh w' t ao len cap (by rw [he]; exact ht) .i64 .i64 (lo : Int) (hi : Int) (by omega) (by omega) (by omega), he, hz]
    simp [Result.andThen, sliced]
  · exact hs.partT lo hi cap h1 h2 (by omega) (Nat.le_refl _)
/-- 's[:hi]'. -/
theorem slice_to {P : Program} {α : Type} {f : α → Value} {w : World} {ao : Option Addr} {len cap : Nat} {xs : List α} (t e : TypeId) (ht : P.underlying t = some (.slice e)) (hz : ∀ w : World, (sizeOf e).run P w = .ok 1 w)
    (hs : Sl w 1 ao len cap (cs f xs)) (hi : Nat) (h2 : hi ≤ len) :
    ∃ ao', (∀ w', (Instr.slice t (.slice ao len cap) none (some (.int .i64 (hi : Int))) none).run P w' = .ok (.slice ao' hi cap) w') ∧ Sl w 1 ao' hi cap (cs f (xs.take hi)) := by
  have hle := hs.hle
  refine ⟨if cap = 0 then ao else ao.map (·.add (0 * 1)), fun w' => ?_, ?_⟩
  · have he : P.elem t = e := by simp [Program.elem, ht]
    rw [run_slice_h w' t ao len cap (by rw [he]; exact ht) .i64 (hi : Int) (by omega) (by omega), he, hz]
    simp [Result.andThen, sliced]
  · have := hs.partT 0 hi cap (Nat.zero_le _) h2 (by omega) (Nat.le_refl _)
    simpa using this
theorem below_drewN {B : Nat} {a w : World} (h : Below B a w) (n : Nat) : Below B a (w.drewN n) := ⟨h.os, h.tape, h.output, h.size, h.block⟩
theorem below_alloc (w : World) (o : Obj) : Below w.heap.size w (w.alloc o) := Below.alloc (Below.refl _ _) (Nat.le_refl _) _
theorem below_step {w w1 w2 : World} (h : Below w.heap.size w w1) (h' : Below w1.heap.size w1 w2) : Below w.heap.size w w2 := h.trans (h'.mono h.size)
/-- The answer, and nothing that was there has turned. -/
def RetB (v : Value) (w : World) (e : Ending) (w' : World) : Prop := e = .returned v ∧ Below w.heap.size w w'
theorem RetB.of {v : Value} {w w' : World} {e : Ending} (h : e = .returned v ∧ w = w') : RetB v w e w' := ⟨h.1, by rw [← h.2]; exact Below.refl _ _⟩
end Go.Proofs.Ytdgjdbpbnipjcaa

namespace Go.Proofs.Ytdgjdbpbnipjcaa
open Go.RowKit
set_option linter.unusedVariables false
@[go_sem] theorem cells_match_b8 (c : UInt8) : Value.cells.match_1 (motive := fun _ => Array Value) (b8 c) (fun cs => cs) (fun v => #[v]) = #[b8 c] := rfl
@[go_sem] theorem cells_match_u64 (c : BitVec 64) : Value.cells.match_1 (motive := fun _ => Array Value) (u64 c) (fun cs => cs) (fun v => #[v]) = #[u64 c] := rfl
@[go_sem] theorem cells_match_u32 (c : BitVec 32) : Value.cells.match_1 (motive := fun _ => Array Value) (u32 c) (fun cs => cs) (fun v => #[v]) = #[u32 c] := rfl
end Go.Proofs.Ytdgjdbpbnipjcaa

namespace Go.Proofs.Ytdgjdbpbnipjcaa
open Go.RowKit
set_option linter.unusedVariables false

@[go_sem ↓] theorem u64_shl_w (t : TypeId) (a s : BitVec 64) : binOp .shl t (u64 a) (u64 s) = pure (u64 (a <<< s.toNat)) := by
  conv => lhs; arg 4; unfold u64
  rw [u64_shl t a _ .u64 (Int.natCast_nonneg _), Int.toNat_natCast]
@[go_sem ↓] theorem u64_shr_w (t : TypeId) (a s : BitVec 64) : binOp .shr t (u64 a) (u64 s) = pure (u64 (a >>> s.toNat)) := by
  conv => lhs; arg 4; unfold u64
  rw [u64_shr t a _ .u64 (Int.natCast_nonneg _), Int.toNat_natCast]
end Go.Proofs.Ytdgjdbpbnipjcaa
