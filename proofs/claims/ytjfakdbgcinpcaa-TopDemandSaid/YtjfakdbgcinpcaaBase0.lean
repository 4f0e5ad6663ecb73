/-
  MACHINE WORDS FOR THE WALK: a uint64 is told as 'u64 a' (a : BitVec 64), a uint32 as 'u32 a', a byte as 'b8 c' (c : UInt8): opaque to the walk; one law an operation. No condition.
-/
import Derived.WalkKit
namespace Go.Proofs.Ytjfakdbgcinpcaa
open Go.RowKit
set_option linter.unusedVariables false

def u64 (a : BitVec 64) : Value := .int .u64 (a.toNat : Int)
def u32 (a : BitVec 32) : Value := .int .u32 (a.toNat : Int)
/-- A word as an int64. -/
def i64of (a : BitVec 64) : Int := a.toInt
def b8 (a : UInt8) : Value := .int .u8 (a.toNat : Int)

theorem wrap_u64_nat (n : Nat) (h : n < 18446744073709551616) : IntKind.u64.wrap (n : Int) = (n : Int) := by rw [IntKind.wrap_u64]; omega
theorem wrap_u32_nat (n : Nat) (h : n < 4294967296) : IntKind.u32.wrap (n : Int) = (n : Int) := by rw [IntKind.wrap_u32]; omega
theorem wrap_u8_nat (n : Nat) (h : n < 256) : IntKind.u8.wrap (n : Int) = (n : Int) := by rw [IntKind.wrap_u8]; omega
theorem ofInt_toNat {w : Nat} (a : BitVec w) : BitVec.ofInt w (a.toNat : Int) = a := by
  apply BitVec.eq_of_toNat_eq; simp
theorem ofInt_u8 (c : UInt8) : BitVec.ofInt 8 (c.toNat : Int) = c.toBitVec := by
  exact ofInt_toNat c.toBitVec


section
variable (t : TypeId) (a b : BitVec 64) (n : Int)
@[go_sem ↓] theorem u64_or : binOp .or t (u64 a) (u64 b) = pure (u64 (a ||| b)) := by
  simp only [u64, binOp_or, Op.intBits, IntKind.bits, ofInt_toNat]
  rw [show ∀ x : BitVec 64, IntKind.u64.wrap (x.toNat : Int) = x.toNat from fun x => wrap_u64_nat _ x.isLt]
  rfl
@[go_sem ↓] theorem u64_and : binOp .and t (u64 a) (u64 b) = pure (u64 (a &&& b)) := by
  simp only [u64, binOp_and, Op.intBits, IntKind.bits, ofInt_toNat]
  rw [show ∀ x : BitVec 64, IntKind.u64.wrap (x.toNat : Int) = x.toNat from fun x => wrap_u64_nat _ x.isLt]
  rfl
@[go_sem ↓] theorem u64_xor : binOp .xor t (u64 a) (u64 b) = pure (u64 (a ^^^ b)) := by
  simp only [u64, binOp_xor, Op.intBits, IntKind.bits, ofInt_toNat]
  rw [show ∀ x : BitVec 64, IntKind.u64.wrap (x.toNat : Int) = x.toNat from fun x => wrap_u64_nat _ x.isLt]
  rfl
@[go_sem ↓] theorem u64_add : binOp .add t (u64 a) (u64 b) = pure (u64 (a + b)) := by
  simp only [u64, binOp_add, Op.intArith, IntKind.wrap_u64, BitVec.toNat_add]
  all_goals congr 2
  all_goals omega
@[go_sem ↓] theorem u64_sub : binOp .sub t (u64 a) (u64 b) = pure (u64 (a - b)) := by
  have h1 := a.isLt; have h2 := b.isLt
  simp only [u64, binOp_sub, Op.intArith, IntKind.wrap_u64, BitVec.toNat_sub]
  all_goals congr 2
  all_goals omega
@[go_sem ↓] theorem u64_mul : binOp .mul t (u64 a) (u64 b) = pure (u64 (a * b)) := by
  simp only [u64, binOp_mul, Op.intArith, IntKind.wrap_u64, BitVec.toNat_mul]
  all_goals congr 2
  all_goals simp
@[go_sem ↓] theorem u64_eql : binOp .eql t (u64 a) (u64 b) = pure (.bool (decide (a = b))) := by
  simp only [u64, binOp_eql]
  all_goals congr 2
  all_goals (rw [Bool.eq_iff_iff]; simp [BitVec.toNat_eq]; omega)
@[go_sem ↓] theorem u64_neq : binOp .neq t (u64 a) (u64 b) = pure (.bool (!decide (a = b))) := by
  simp only [u64, binOp_neq]
  all_goals congr 2
  all_goals (rw [Bool.eq_iff_iff]; simp [BitVec.toNat_eq]; omega)

@[go_sem ↓] theorem u64_lss : binOp .lss t (u64 a) (u64 b) = pure (.bool (decide (a.toNat < b.toNat))) := by
  simp only [u64, binOp_lss]
  all_goals congr 2
  all_goals (rw [Bool.eq_iff_iff]; simp)

@[go_sem ↓] theorem u64_leq : binOp .leq t (u64 a) (u64 b) = pure (.bool (decide (a.toNat ≤ b.toNat))) := by
  simp only [u64, binOp_leq]
  all_goals congr 2
  all_goals (rw [Bool.eq_iff_iff]; simp)

@[go_sem ↓] theorem u64_gtr : binOp .gtr t (u64 a) (u64 b) = pure (.bool (decide (b.toNat < a.toNat))) := by
  simp only [u64, binOp_gtr]
  all_goals congr 2
  all_goals (rw [Bool.eq_iff_iff]; simp)

@[go_sem ↓] theorem u64_geq : binOp .geq t (u64 a) (u64 b) = pure (.bool (decide (b.toNat ≤ a.toNat))) := by
  simp only [u64, binOp_geq]
  all_goals congr 2
  all_goals (rw [Bool.eq_iff_iff]; simp)

@[go_sem ↓] theorem u64_or_c (h : 0 ≤ n ∧ n < 18446744073709551616) : binOp .or t (u64 a) (.int .u64 n) = pure (u64 (a ||| BitVec.ofInt 64 n)) := by
  have e : Value.int .u64 n = u64 (BitVec.ofInt 64 n) := by simp only [u64, BitVec.toNat_ofInt]; congr 1; omega
  rw [e, u64_or]
@[go_sem ↓] theorem u64_c_or (h : 0 ≤ n ∧ n < 18446744073709551616) : binOp .or t (.int .u64 n) (u64 a) = pure (u64 (BitVec.ofInt 64 n ||| a)) := by
  have e : Value.int .u64 n = u64 (BitVec.ofInt 64 n) := by simp only [u64, BitVec.toNat_ofInt]; congr 1; omega
  rw [e, u64_or]

@[go_sem ↓] theorem u64_and_c (h : 0 ≤ n ∧ n < 18446744073709551616) : binOp .and t (u64 a) (.int .u64 n) = pure (u64 (a &&& BitVec.ofInt 64 n)) := by
  have e : Value.int .u64 n = u64 (BitVec.ofInt 64 n) := by simp only [u64, BitVec.toNat_ofInt]; congr 1; omega
  rw [e, u64_and]
@[go_sem ↓] theorem u64_c_and (h : 0 ≤ n ∧ n < 18446744073709551616) : binOp .and t (.int .u64 n) (u64 a) = pure (u64 (BitVec.ofInt 64 n &&& a)) := by
  have e : Value.int .u64 n = u64 (BitVec.ofInt 64 n) := by simp only [u64, BitVec.toNat_ofInt]; congr 1; omega
  rw [e, u64_and]

@[go_sem ↓] theorem u64_xor_c (h : 0 ≤ n ∧ n < 18446744073709551616) : binOp .xor t (u64 a) (.int .u64 n) = pure (u64 (a ^^^ BitVec.ofInt 64 n)) := by
  have e : Value.int .u64 n = u64 (BitVec.ofInt 64 n) := by simp only [u64, BitVec.toNat_ofInt]; congr 1; omega
  rw [e, u64_xor]
@[go_sem ↓] theorem u64_c_xor (h : 0 ≤ n ∧ n < 18446744073709551616) : binOp .xor t (.int .u64 n) (u64 a) = pure (u64 (BitVec.ofInt 64 n ^^^ a)) := by
  have e : Value.int .u64 n = u64 (BitVec.ofInt 64 n) := by simp only [u64, BitVec.toNat_ofInt]; congr 1; omega
  rw [e, u64_xor]

@[go_sem ↓] theorem u64_add_c (h : 0 ≤ n ∧ n < 18446744073709551616) : binOp .add t (u64 a) (.int .u64 n) = pure (u64 (a + BitVec.ofInt 64 n)) := by
  have e : Value.int .u64 n = u64 (BitVec.ofInt 64 n) := by simp only [u64, BitVec.toNat_ofInt]; congr 1; omega
  rw [e, u64_add]
@[go_sem ↓] theorem u64_c_add (h : 0 ≤ n ∧ n < 18446744073709551616) : binOp .add t (.int .u64 n) (u64 a) = pure (u64 (BitVec.ofInt 64 n + a)) := by
  have e : Value.int .u64 n = u64 (BitVec.ofInt 64 n) := by simp only [u64, BitVec.toNat_ofInt]; congr 1; omega
  rw [e, u64_add]

@[go_sem ↓] theorem u64_sub_c (h : 0 ≤ n ∧ n < 18446744073709551616) : binOp .sub t (u64 a) (.int .u64 n) = pure (u64 (a - BitVec.ofInt 64 n)) := by
  have e : Value.int .u64 n = u64 (BitVec.ofInt 64 n) := by simp only [u64, BitVec.toNat_ofInt]; congr 1; omega
  rw [e, u64_sub]
@[go_sem ↓] theorem u64_c_sub (h : 0 ≤ n ∧ n < 18446744073709551616) : binOp .sub t (.int .u64 n) (u64 a) = pure (u64 (BitVec.ofInt 64 n - a)) := by
  have e : Value.int .u64 n = u64 (BitVec.ofInt 64 n) := by simp only [u64, BitVec.toNat_ofInt]; congr 1; omega
  rw [e, u64_sub]

@[go_sem ↓] theorem u64_mul_c (h : 0 ≤ n ∧ n < 18446744073709551616) : binOp .mul t (u64 a) (.int .u64 n) = pure (u64 (a * BitVec.ofInt 64 n)) := by
  have e : Value.int .u64 n = u64 (BitVec.ofInt 64 n) := by simp only [u64, BitVec.toNat_ofInt]; congr 1; omega
  rw [e, u64_mul]
@[go_sem ↓] theorem u64_c_mul (h : 0 ≤ n ∧ n < 18446744073709551616) : binOp .mul t (.int .u64 n) (u64 a) = pure (u64 (BitVec.ofInt 64 n * a)) := by
  have e : Value.int .u64 n = u64 (BitVec.ofInt 64 n) := by simp only [u64, BitVec.toNat_ofInt]; congr 1; omega
  rw [e, u64_mul]

@[go_sem ↓] theorem u64_lss_c : binOp .lss t (u64 a) (.int .u64 n) = pure (.bool (decide ((a.toNat : Int) < n))) := by
  simp only [u64, binOp_lss]
  all_goals congr 2
  all_goals (rw [Bool.eq_iff_iff]; simp)

@[go_sem ↓] theorem u64_leq_c : binOp .leq t (u64 a) (.int .u64 n) = pure (.bool (decide ((a.toNat : Int) ≤ n))) := by
  simp only [u64, binOp_leq]
  all_goals congr 2
  all_goals (rw [Bool.eq_iff_iff]; simp)

@[go_sem ↓] theorem u64_gtr_c : binOp .gtr t (u64 a) (.int .u64 n) = pure (.bool (decide (n < (a.toNat : Int)))) := by
  simp only [u64, binOp_gtr]
  all_goals congr 2
  all_goals (rw [Bool.eq_iff_iff]; simp)

@[go_sem ↓] theorem u64_geq_c : binOp .geq t (u64 a) (.int .u64 n) = pure (.bool (decide (n ≤ (a.toNat : Int)))) := by
  simp only [u64, binOp_geq]
  all_goals congr 2
  all_goals (rw [Bool.eq_iff_iff]; simp)

@[go_sem ↓] theorem u64_eql_c : binOp .eql t (u64 a) (.int .u64 n) = pure (.bool (decide ((a.toNat : Int) = n))) := by
  simp only [u64, binOp_eql]
  all_goals congr 2
  all_goals (rw [Bool.eq_iff_iff]; simp)

@[go_sem ↓] theorem u64_neq_c : binOp .neq t (u64 a) (.int .u64 n) = pure (.bool (!decide ((a.toNat : Int) = n))) := by
  simp only [u64, binOp_neq]
  all_goals congr 2
  all_goals (rw [Bool.eq_iff_iff]; simp)
@[go_sem ↓] theorem u64_quo_c (h : 0 < n ∧ n < 18446744073709551616) : binOp .quo t (u64 a) (.int .u64 n) = pure (u64 (a / BitVec.ofInt 64 n)) := by
  obtain ⟨m, rfl⟩ := Int.eq_ofNat_of_zero_le (show 0 ≤ n by omega)
  have ha := a.isLt
  have hq : a.toNat / m ≤ a.toNat := Nat.div_le_self _ _
  simp only [u64]
  rw [show binOp .quo t (.int .u64 (a.toNat : Int)) (.int .u64 (m : Int)) = Op.intDiv .quo .u64 a.toNat m from by simp [binOp]]
  simp only [Op.intDiv]
  rw [if_neg (by omega)]
  simp only [BitVec.toNat_udiv, BitVec.toNat_ofInt]
  have e : ((m : Int) % ((2 ^ 64 : Nat) : Int)).toNat = m := by
    have : (2 ^ 64 : Nat) = 18446744073709551616 := by decide
    omega
  rw [e]
  have e2 : (a.toNat : Int).tdiv (m : Int) = ((a.toNat / m : Nat) : Int) := by simp
  rw [e2, wrap_u64_nat _ (by omega)]
@[go_sem ↓] theorem u64_rem_c (h : 0 < n ∧ n < 18446744073709551616) : binOp .rem t (u64 a) (.int .u64 n) = pure (u64 (a % BitVec.ofInt 64 n)) := by
  obtain ⟨m, rfl⟩ := Int.eq_ofNat_of_zero_le (show 0 ≤ n by omega)
  have ha := a.isLt
  have hq : a.toNat % m ≤ a.toNat := Nat.mod_le _ _
  simp only [u64]
  rw [show binOp .rem t (.int .u64 (a.toNat : Int)) (.int .u64 (m : Int)) = Op.intDiv .rem .u64 a.toNat m from by simp [binOp]]
  simp only [Op.intDiv]
  rw [if_neg (by omega)]
  simp only [BitVec.toNat_umod, BitVec.toNat_ofInt]
  have e : ((m : Int) % ((2 ^ 64 : Nat) : Int)).toNat = m := by
    have : (2 ^ 64 : Nat) = 18446744073709551616 := by decide
    omega
  rw [e]
  congr 2
@[go_sem ↓] theorem u64_shl (yk : IntKind) (h : 0 ≤ n) : binOp .shl t (u64 a) (.int yk n) = pure (u64 (a <<< n.toNat)) := by
  obtain ⟨m, rfl⟩ := Int.eq_ofNat_of_zero_le h
  simp only [u64, binOp_shl, Op.shift, IntKind.bits]
  rw [if_neg (by omega)]
  simp only [Int.toNat_natCast, IntKind.wrap_u64]
  congr 2
  rw [BitVec.toNat_shiftLeft, Nat.shiftLeft_eq]
  by_cases hm : m ≤ 64
  · rw [Nat.min_eq_left hm]; simp
  · rw [Nat.min_eq_right (by omega)]
    obtain ⟨r, rfl⟩ : ∃ r, m = 64 + r := ⟨m - 64, by omega⟩
    rw [Nat.pow_add]
    have : a.toNat * (2 ^ 64 * 2 ^ r) % 2 ^ 64 = 0 := by rw [Nat.mul_left_comm]; exact Nat.mul_mod_right _ _
    rw [this]
    simp
@[go_sem ↓] theorem u64_shr (yk : IntKind) (h : 0 ≤ n) : binOp .shr t (u64 a) (.int yk n) = pure (u64 (a >>> n.toNat)) := by
  obtain ⟨m, rfl⟩ := Int.eq_ofNat_of_zero_le h
  simp only [u64, binOp_shr, Op.shift, IntKind.bits]
  rw [if_neg (by omega)]
  simp only [Int.toNat_natCast]
  congr 2
  rw [BitVec.toNat_ushiftRight, Nat.shiftRight_eq_div_pow]
  have ha := a.isLt
  have e : ∀ k : Nat, (a.toNat : Int).fdiv (2 ^ k) = ((a.toNat / 2 ^ k : Nat) : Int) := by
    intro k; rw [Int.fdiv_eq_ediv_of_nonneg _ (by exact_mod_cast Nat.zero_le _)]; simp
  rw [e]
  by_cases hm : m ≤ 64
  · rw [Nat.min_eq_left hm]
  · rw [Nat.min_eq_right (by omega)]
    have h1 : a.toNat / 2 ^ 64 = 0 := Nat.div_eq_of_lt ha
    have h2 : a.toNat / 2 ^ m = 0 := Nat.div_eq_of_lt (Nat.lt_of_lt_of_le ha (Nat.pow_le_pow_right (by decide) (by omega)))
    rw [h1, h2]
end


section
variable (t : TypeId) (a b : BitVec 32) (n : Int)
@[go_sem ↓] theorem u32_or : binOp .or t (u32 a) (u32 b) = pure (u32 (a ||| b)) := by
  simp only [u32, binOp_or, Op.intBits, IntKind.bits, ofInt_toNat]
  rw [show ∀ x : BitVec 32, IntKind.u32.wrap (x.toNat : Int) = x.toNat from fun x => wrap_u32_nat _ x.isLt]
  rfl
@[go_sem ↓] theorem u32_and : binOp .and t (u32 a) (u32 b) = pure (u32 (a &&& b)) := by
  simp only [u32, binOp_and, Op.intBits, IntKind.bits, ofInt_toNat]
  rw [show ∀ x : BitVec 32, IntKind.u32.wrap (x.toNat : Int) = x.toNat from fun x => wrap_u32_nat _ x.isLt]
  rfl
@[go_sem ↓] theorem u32_xor : binOp .xor t (u32 a) (u32 b) = pure (u32 (a ^^^ b)) := by
  simp only [u32, binOp_xor, Op.intBits, IntKind.bits, ofInt_toNat]
  rw [show ∀ x : BitVec 32, IntKind.u32.wrap (x.toNat : Int) = x.toNat from fun x => wrap_u32_nat _ x.isLt]
  rfl
@[go_sem ↓] theorem u32_add : binOp .add t (u32 a) (u32 b) = pure (u32 (a + b)) := by
  simp only [u32, binOp_add, Op.intArith, IntKind.wrap_u32, BitVec.toNat_add]
  all_goals congr 2
  all_goals omega
@[go_sem ↓] theorem u32_sub : binOp .sub t (u32 a) (u32 b) = pure (u32 (a - b)) := by
  have h1 := a.isLt; have h2 := b.isLt
  simp only [u32, binOp_sub, Op.intArith, IntKind.wrap_u32, BitVec.toNat_sub]
  all_goals congr 2
  all_goals omega
@[go_sem ↓] theorem u32_mul : binOp .mul t (u32 a) (u32 b) = pure (u32 (a * b)) := by
  simp only [u32, binOp_mul, Op.intArith, IntKind.wrap_u32, BitVec.toNat_mul]
  all_goals congr 2
  all_goals simp
@[go_sem ↓] theorem u32_eql : binOp .eql t (u32 a) (u32 b) = pure (.bool (decide (a = b))) := by
  simp only [u32, binOp_eql]
  all_goals congr 2
  all_goals (rw [Bool.eq_iff_iff]; simp [BitVec.toNat_eq]; omega)
@[go_sem ↓] theorem u32_neq : binOp .neq t (u32 a) (u32 b) = pure (.bool (!decide (a = b))) := by
  simp only [u32, binOp_neq]
  all_goals congr 2
  all_goals (rw [Bool.eq_iff_iff]; simp [BitVec.toNat_eq]; omega)

@[go_sem ↓] theorem u32_lss : binOp .lss t (u32 a) (u32 b) = pure (.bool (decide (a.toNat < b.toNat))) := by
  simp only [u32, binOp_lss]
  all_goals congr 2
  all_goals (rw [Bool.eq_iff_iff]; simp)

@[go_sem ↓] theorem u32_leq : binOp .leq t (u32 a) (u32 b) = pure (.bool (decide (a.toNat ≤ b.toNat))) := by
  simp only [u32, binOp_leq]
  all_goals congr 2
  all_goals (rw [Bool.eq_iff_iff]; simp)

@[go_sem ↓] theorem u32_gtr : binOp .gtr t (u32 a) (u32 b) = pure (.bool (decide (b.toNat < a.toNat))) := by
  simp only [u32, binOp_gtr]
  all_goals congr 2
  all_goals (rw [Bool.eq_iff_iff]; simp)

@[go_sem ↓] theorem u32_geq : binOp .geq t (u32 a) (u32 b) = pure (.bool (decide (b.toNat ≤ a.toNat))) := by
  simp only [u32, binOp_geq]
  all_goals congr 2
  all_goals (rw [Bool.eq_iff_iff]; simp)

@[go_sem ↓] theorem u32_or_c (h : 0 ≤ n ∧ n < 4294967296) : binOp .or t (u32 a) (.int .u32 n) = pure (u32 (a ||| BitVec.ofInt 32 n)) := by
  have e : Value.int .u32 n = u32 (BitVec.ofInt 32 n) := by simp only [u32, BitVec.toNat_ofInt]; congr 1; omega
  rw [e, u32_or]
@[go_sem ↓] theorem u32_c_or (h : 0 ≤ n ∧ n < 4294967296) : binOp .or t (.int .u32 n) (u32 a) = pure (u32 (BitVec.ofInt 32 n ||| a)) := by
  have e : Value.int .u32 n = u32 (BitVec.ofInt 32 n) := by simp only [u32, BitVec.toNat_ofInt]; congr 1; omega
  rw [e, u32_or]

@[go_sem ↓] theorem u32_and_c (h : 0 ≤ n ∧ n < 4294967296) : binOp .and t (u32 a) (.int .u32 n) = pure (u32 (a &&& BitVec.ofInt 32 n)) := by
  have e : Value.int .u32 n = u32 (BitVec.ofInt 32 n) := by simp only [u32, BitVec.toNat_ofInt]; congr 1; omega
  rw [e, u32_and]
@[go_sem ↓] theorem u32_c_and (h : 0 ≤ n ∧ n < 4294967296) : binOp .and t (.int .u32 n) (u32 a) = pure (u32 (BitVec.ofInt 32 n &&& a)) := by
  have e : Value.int .u32 n = u32 (BitVec.ofInt 32 n) := by simp only [u32, BitVec.toNat_ofInt]; congr 1; omega
  rw [e, u32_and]

@[go_sem ↓] theorem u32_xor_c (h : 0 ≤ n ∧ n < 4294967296) : binOp .xor t (u32 a) (.int .u32 n) = pure (u32 (a ^^^ BitVec.ofInt 32 n)) := by
  have e : Value.int .u32 n = u32 (BitVec.ofInt 32 n) := by simp only [u32, BitVec.toNat_ofInt]; congr 1; omega
  rw [e, u32_xor]
@[go_sem ↓] theorem u32_c_xor (h : 0 ≤ n ∧ n < 4294967296) : binOp .xor t (.int .u32 n) (u32 a) = pure (u32 (BitVec.ofInt 32 n ^^^ a)) := by
  have e : Value.int .u32 n = u32 (BitVec.ofInt 32 n) := by simp only [u32, BitVec.toNat_ofInt]; congr 1; omega
  rw [e, u32_xor]

@[go_sem ↓] theorem u32_add_c (h : 0 ≤ n ∧ n < 4294967296) : binOp .add t (u32 a) (.int .u32 n) = pure (u32 (a + BitVec.ofInt 32 n)) := by
  have e : Value.int .u32 n = u32 (BitVec.ofInt 32 n) := by simp only [u32, BitVec.toNat_ofInt]; congr 1; omega
  rw [e, u32_add]
@[go_sem ↓] theorem u32_c_add (h : 0 ≤ n ∧ n < 4294967296) : binOp .add t (.int .u32 n) (u32 a) = pure (u32 (BitVec.ofInt 32 n + a)) := by
  have e : Value.int .u32 n = u32 (BitVec.ofInt 32 n) := by simp only [u32, BitVec.toNat_ofInt]; congr 1; omega
  rw [e, u32_add]

@[go_sem ↓] theorem u32_sub_c (h : 0 ≤ n ∧ n < 4294967296) : binOp .sub t (u32 a) (.int .u32 n) = pure (u32 (a - BitVec.ofInt 32 n)) := by
  have e : Value.int .u32 n = u32 (BitVec.ofInt 32 n) := by simp only [u32, BitVec.toNat_ofInt]; congr 1; omega
  rw [e, u32_sub]
@[go_sem ↓] theorem u32_c_sub (h : 0 ≤ n ∧ n < 4294967296) : binOp .sub t (.int .u32 n) (u32 a) = pure (u32 (BitVec.ofInt 32 n - a)) := by
  have e : Value.int .u32 n = u32 (BitVec.ofInt 32 n) := by simp only [u32, BitVec.toNat_ofInt]; congr 1; omega
  rw [e, u32_sub]

@[go_sem ↓] theorem u32_mul_c (h : 0 ≤ n ∧ n < 4294967296) : binOp .mul t (u32 a) (.int .u32 n) = pure (u32 (a * BitVec.ofInt 32 n)) := by
  have e : Value.int .u32 n = u32 (BitVec.ofInt 32 n) := by simp only [u32, BitVec.toNat_ofInt]; congr 1; omega
  rw [e, u32_mul]
@[go_sem ↓] theorem u32_c_mul (h : 0 ≤ n ∧ n < 4294967296) : binOp .mul t (.int .u32 n) (u32 a) = pure (u32 (BitVec.ofInt 32 n * a)) := by
  have e : Value.int .u32 n = u32 (BitVec.ofInt 32 n) := by simp only [u32, BitVec.toNat_ofInt]; congr 1; omega
  rw [e, u32_mul]

@[go_sem ↓] theorem u32_lss_c : binOp .lss t (u32 a) (.int .u32 n) = pure (.bool (decide ((a.toNat : Int) < n))) := by
  simp only [u32, binOp_lss]
  all_goals congr 2
  all_goals (rw [Bool.eq_iff_iff]; simp)

@[go_sem ↓] theorem u32_leq_c : binOp .leq t (u32 a) (.int .u32 n) = pure (.bool (decide ((a.toNat : Int) ≤ n))) := by
  simp only [u32, binOp_leq]
  all_goals congr 2
  all_goals (rw [Bool.eq_iff_iff]; simp)

@[go_sem ↓] theorem u32_gtr_c : binOp .gtr t (u32 a) (.int .u32 n) = pure (.bool (decide (n < (a.toNat : Int)))) := by
  simp only [u32, binOp_gtr]
  all_goals congr 2
  all_goals (rw [Bool.eq_iff_iff]; simp)

@[go_sem ↓] theorem u32_geq_c : binOp .geq t (u32 a) (.int .u32 n) = pure (.bool (decide (n ≤ (a.toNat : Int)))) := by
  simp only [u32, binOp_geq]
  all_goals congr 2
  all_goals (rw [Bool.eq_iff_iff]; simp)

@[go_sem ↓] theorem u32_eql_c : binOp .eql t (u32 a) (.int .u32 n) = pure (.bool (decide ((a.toNat : Int) = n))) := by
  simp only [u32, binOp_eql]
  all_goals congr 2
  all_goals (rw [Bool.eq_iff_iff]; simp)

@[go_sem ↓] theorem u32_neq_c : binOp .neq t (u32 a) (.int .u32 n) = pure (.bool (!decide ((a.toNat : Int) = n))) := by
  simp only [u32, binOp_neq]
  all_goals congr 2
  all_goals (rw [Bool.eq_iff_iff]; simp)
@[go_sem ↓] theorem u32_quo_c (h : 0 < n ∧ n < 4294967296) : binOp .quo t (u32 a) (.int .u32 n) = pure (u32 (a / BitVec.ofInt 32 n)) := by
  obtain ⟨m, rfl⟩ := Int.eq_ofNat_of_zero_le (show 0 ≤ n by omega)
  have ha := a.isLt
  have hq : a.toNat / m ≤ a.toNat := Nat.div_le_self _ _
  simp only [u32]
  rw [show binOp .quo t (.int .u32 (a.toNat : Int)) (.int .u32 (m : Int)) = Op.intDiv .quo .u32 a.toNat m from by simp [binOp]]
  simp only [Op.intDiv]
  rw [if_neg (by omega)]
  simp only [BitVec.toNat_udiv, BitVec.toNat_ofInt]
  have e : ((m : Int) % ((2 ^ 32 : Nat) : Int)).toNat = m := by
    have : (2 ^ 32 : Nat) = 4294967296 := by decide
    omega
  rw [e]
  have e2 : (a.toNat : Int).tdiv (m : Int) = ((a.toNat / m : Nat) : Int) := by simp
  rw [e2, wrap_u32_nat _ (by omega)]
@[go_sem ↓] theorem u32_rem_c (h : 0 < n ∧ n < 4294967296) : binOp .rem t (u32 a) (.int .u32 n) = pure (u32 (a % BitVec.ofInt 32 n)) := by
  obtain ⟨m, rfl⟩ := Int.eq_ofNat_of_zero_le (show 0 ≤ n by omega)
  have ha := a.isLt
  have hq : a.toNat % m ≤ a.toNat := Nat.mod_le _ _
  simp only [u32]
  rw [show binOp .rem t (.int .u32 (a.toNat : Int)) (.int .u32 (m : Int)) = Op.intDiv .rem .u32 a.toNat m from by simp [binOp]]
  simp only [Op.intDiv]
  rw [if_neg (by omega)]
  simp only [BitVec.toNat_umod, BitVec.toNat_ofInt]
  have e : ((m : Int) % ((2 ^ 32 : Nat) : Int)).toNat = m := by
    have : (2 ^ 32 : Nat) = 4294967296 := by decide
    omega
  rw [e]
  congr 2
@[go_sem ↓] theorem u32_shl (yk : IntKind) (h : 0 ≤ n) : binOp .shl t (u32 a) (.int yk n) = pure (u32 (a <<< n.toNat)) := by
  obtain ⟨m, rfl⟩ := Int.eq_ofNat_of_zero_le h
  simp only [u32, binOp_shl, Op.shift, IntKind.bits]
  rw [if_neg (by omega)]
  simp only [Int.toNat_natCast, IntKind.wrap_u32]
  congr 2
  rw [BitVec.toNat_shiftLeft, Nat.shiftLeft_eq]
  by_cases hm : m ≤ 32
  · rw [Nat.min_eq_left hm]; simp
  · rw [Nat.min_eq_right (by omega)]
    obtain ⟨r, rfl⟩ : ∃ r, m = 32 + r := ⟨m - 32, by omega⟩
    rw [Nat.pow_add]
    have : a.toNat * (2 ^ 32 * 2 ^ r) % 2 ^ 32 = 0 := by rw [Nat.mul_left_comm]; exact Nat.mul_mod_right _ _
    rw [this]
    simp
@[go_sem ↓] theorem u32_shr (yk : IntKind) (h : 0 ≤ n) : binOp .shr t (u32 a) (.int yk n) = pure (u32 (a >>> n.toNat)) := by
  obtain ⟨m, rfl⟩ := Int.eq_ofNat_of_zero_le h
  simp only [u32, binOp_shr, Op.shift, IntKind.bits]
  rw [if_neg (by omega)]
  simp only [Int.toNat_natCast]
  congr 2
  rw [BitVec.toNat_ushiftRight, Nat.shiftRight_eq_div_pow]
  have ha := a.isLt
  have e : ∀ k : Nat, (a.toNat : Int).fdiv (2 ^ k) = ((a.toNat / 2 ^ k : Nat) : Int) := by
    intro k; rw [Int.fdiv_eq_ediv_of_nonneg _ (by exact_mod_cast Nat.zero_le _)]; simp
  rw [e]
  by_cases hm : m ≤ 32
  · rw [Nat.min_eq_left hm]
  · rw [Nat.min_eq_right (by omega)]
    have h1 : a.toNat / 2 ^ 32 = 0 := Nat.div_eq_of_lt ha
    have h2 : a.toNat / 2 ^ m = 0 := Nat.div_eq_of_lt (Nat.lt_of_lt_of_le ha (Nat.pow_le_pow_right (by decide) (by omega)))
    rw [h1, h2]
end


section
variable (t : TypeId) (a b : UInt8) (n : Int)
theorem b8_eq (x : BitVec 8) : Value.int .u8 (IntKind.u8.wrap (x.toNat : Int)) = b8 ⟨x⟩ := by
  rw [wrap_u8_nat _ x.isLt]; rfl

@[go_sem ↓] theorem b8_or : binOp .or t (b8 a) (b8 b) = pure (b8 (a ||| b)) := by
  simp only [b8, binOp_or, Op.intBits, IntKind.bits, ofInt_u8]
  rw [b8_eq]; rfl
@[go_sem ↓] theorem b8_or_c (h : 0 ≤ n ∧ n < 256) : binOp .or t (b8 a) (.int .u8 n) = pure (b8 (a ||| UInt8.ofNat n.toNat)) := by
  have e : Value.int .u8 n = b8 (UInt8.ofNat n.toNat) := by simp only [b8, UInt8.toNat_ofNat']; congr 1; omega
  rw [e, b8_or]

@[go_sem ↓] theorem b8_and : binOp .and t (b8 a) (b8 b) = pure (b8 (a &&& b)) := by
  simp only [b8, binOp_and, Op.intBits, IntKind.bits, ofInt_u8]
  rw [b8_eq]; rfl
@[go_sem ↓] theorem b8_and_c (h : 0 ≤ n ∧ n < 256) : binOp .and t (b8 a) (.int .u8 n) = pure (b8 (a &&& UInt8.ofNat n.toNat)) := by
  have e : Value.int .u8 n = b8 (UInt8.ofNat n.toNat) := by simp only [b8, UInt8.toNat_ofNat']; congr 1; omega
  rw [e, b8_and]

@[go_sem ↓] theorem b8_xor : binOp .xor t (b8 a) (b8 b) = pure (b8 (a ^^^ b)) := by
  simp only [b8, binOp_xor, Op.intBits, IntKind.bits, ofInt_u8]
  rw [b8_eq]; rfl
@[go_sem ↓] theorem b8_xor_c (h : 0 ≤ n ∧ n < 256) : binOp .xor t (b8 a) (.int .u8 n) = pure (b8 (a ^^^ UInt8.ofNat n.toNat)) := by
  have e : Value.int .u8 n = b8 (UInt8.ofNat n.toNat) := by simp only [b8, UInt8.toNat_ofNat']; congr 1; omega
  rw [e, b8_xor]

@[go_sem ↓] theorem b8_andNot_c (h : 0 ≤ n ∧ n < 256) : binOp .andNot t (b8 a) (.int .u8 n) = pure (b8 (a &&& ~~~ UInt8.ofNat n.toNat)) := by
  have e : Value.int .u8 n = b8 (UInt8.ofNat n.toNat) := by simp only [b8, UInt8.toNat_ofNat']; congr 1; omega
  rw [e]
  simp only [b8, binOp_andNot, Op.intBits, IntKind.bits, ofInt_u8]
  rw [b8_eq]; rfl
@[go_sem ↓] theorem b8_add : binOp .add t (b8 a) (b8 b) = pure (b8 (a + b)) := by
  simp only [b8, binOp_add, Op.intArith, IntKind.wrap_u8, UInt8.toNat_add]
  all_goals congr 2
  all_goals omega
@[go_sem ↓] theorem b8_add_c (h : 0 ≤ n ∧ n < 256) : binOp .add t (b8 a) (.int .u8 n) = pure (b8 (a + UInt8.ofNat n.toNat)) := by
  have e : Value.int .u8 n = b8 (UInt8.ofNat n.toNat) := by simp only [b8, UInt8.toNat_ofNat']; congr 1; omega
  rw [e, b8_add]
@[go_sem ↓] theorem b8_eql : binOp .eql t (b8 a) (b8 b) = pure (.bool (decide (a = b))) := by
  simp only [b8, binOp_eql]
  all_goals congr 2
  all_goals (rw [Bool.eq_iff_iff]; simp [← UInt8.toNat_inj]; omega)
@[go_sem ↓] theorem b8_neq : binOp .neq t (b8 a) (b8 b) = pure (.bool (!decide (a = b))) := by
  simp only [b8, binOp_neq]
  all_goals congr 2
  all_goals (rw [Bool.eq_iff_iff]; simp [← UInt8.toNat_inj]; omega)

@[go_sem ↓] theorem b8_lss_c : binOp .lss t (b8 a) (.int .u8 n) = pure (.bool (decide ((a.toNat : Int) < n))) := by
  simp only [b8, binOp_lss]
  all_goals congr 2
  all_goals (rw [Bool.eq_iff_iff]; simp)

@[go_sem ↓] theorem b8_leq_c : binOp .leq t (b8 a) (.int .u8 n) = pure (.bool (decide ((a.toNat : Int) ≤ n))) := by
  simp only [b8, binOp_leq]
  all_goals congr 2
  all_goals (rw [Bool.eq_iff_iff]; simp)

@[go_sem ↓] theorem b8_gtr_c : binOp .gtr t (b8 a) (.int .u8 n) = pure (.bool (decide (n < (a.toNat : Int)))) := by
  simp only [b8, binOp_gtr]
  all_goals congr 2
  all_goals (rw [Bool.eq_iff_iff]; simp)

@[go_sem ↓] theorem b8_geq_c : binOp .geq t (b8 a) (.int .u8 n) = pure (.bool (decide (n ≤ (a.toNat : Int)))) := by
  simp only [b8, binOp_geq]
  all_goals congr 2
  all_goals (rw [Bool.eq_iff_iff]; simp)

@[go_sem ↓] theorem b8_eql_c : binOp .eql t (b8 a) (.int .u8 n) = pure (.bool (decide ((a.toNat : Int) = n))) := by
  simp only [b8, binOp_eql]
  all_goals congr 2
  all_goals (rw [Bool.eq_iff_iff]; simp)

@[go_sem ↓] theorem b8_neq_c : binOp .neq t (b8 a) (.int .u8 n) = pure (.bool (!decide ((a.toNat : Int) = n))) := by
  simp only [b8, binOp_neq]
  all_goals congr 2
  all_goals (rw [Bool.eq_iff_iff]; simp)
@[go_sem ↓] theorem b8_rem_c (h : 0 < n ∧ n < 256) : binOp .rem t (b8 a) (.int .u8 n) = pure (b8 (a % UInt8.ofNat n.toNat)) := by
  obtain ⟨m, rfl⟩ := Int.eq_ofNat_of_zero_le (show 0 ≤ n by omega)
  simp only [b8]
  rw [show binOp .rem t (.int .u8 (a.toNat : Int)) (.int .u8 (m : Int)) = Op.intDiv .rem .u8 a.toNat m from by simp [binOp]]
  simp only [Op.intDiv]
  rw [if_neg (by omega)]
  simp only [UInt8.toNat_mod, UInt8.toNat_ofNat', Int.toNat_natCast]
  have e : m % 2 ^ 8 = m := by omega
  rw [e]
  congr 2
@[go_sem ↓] theorem b8_shr (yk : IntKind) (h : 0 ≤ n) : binOp .shr t (b8 a) (.int yk n) = pure (b8 ⟨a.toBitVec >>> n.toNat⟩) := by
  obtain ⟨m, rfl⟩ := Int.eq_ofNat_of_zero_le h
  simp only [b8, binOp_shr, Op.shift, IntKind.bits]
  rw [if_neg (by omega)]
  simp only [Int.toNat_natCast]
  congr 2
  have e0 : (⟨a.toBitVec >>> m⟩ : UInt8).toNat = a.toNat / 2 ^ m := by
    show (a.toBitVec >>> m).toNat = _
    rw [BitVec.toNat_ushiftRight, Nat.shiftRight_eq_div_pow]; rfl
  rw [e0]
  have ha := a.toNat_lt
  have e : ∀ k : Nat, (a.toNat : Int).fdiv (2 ^ k) = ((a.toNat / 2 ^ k : Nat) : Int) := by
    intro k; rw [Int.fdiv_eq_ediv_of_nonneg _ (by exact_mod_cast Nat.zero_le _)]; simp
  rw [e]
  by_cases hm : m ≤ 8
  · rw [Nat.min_eq_left hm]
  · rw [Nat.min_eq_right (by omega)]
    have h1 : a.toNat / 2 ^ 8 = 0 := Nat.div_eq_of_lt (by omega)
    have h2 : a.toNat / 2 ^ m = 0 := Nat.div_eq_of_lt (Nat.lt_of_lt_of_le (by omega : a.toNat < 2 ^ 8) (Nat.pow_le_pow_right (by decide) (by omega)))
    rw [h1, h2]
end

section
variable (a : BitVec 64) (b : BitVec 32) (c : UInt8)
@[simp ↓, go_sem ↓] theorem cells_u64 : (u64 a).cells = #[u64 a] := rfl
@[simp ↓, go_sem ↓] theorem cells_u32 : (u32 b).cells = #[u32 b] := rfl
@[simp ↓, go_sem ↓] theorem cells_b8 : (b8 c).cells = #[b8 c] := rfl
@[simp] theorem oneCell_u64 : (u64 a).oneCell' = true := rfl
@[simp] theorem oneCell_u32 : (u32 b).oneCell' = true := rfl
@[simp] theorem oneCell_b8 : (b8 c).oneCell' = true := rfl
end

section
variable {P : Program} (w : World) (p : Addr) (m : Mode) (a : BitVec 64) (b : BitVec 32) (c : UInt8)
@[go_sem] theorem run_store_u64 : (store p (u64 a) m).run P w = stored P w p (u64 a) m := run_store P w p _ m rfl
@[go_sem] theorem run_store_u32 : (store p (u32 b) m).run P w = stored P w p (u32 b) m := run_store P w p _ m rfl
@[go_sem] theorem run_store_b8 : (store p (b8 c) m).run P w = stored P w p (b8 c) m := run_store P w p _ m rfl
@[go_sem ↓] theorem run_storeCells_u64 : (storeCells p [u64 a]).run P w = stored P w p (u64 a) .plain := by
  have h := run_store_u64 (P := P) w p .plain a
  simp only [storeCells, Sem.run_bind, Addr.add, if_true, h]
  cases stored P w p (u64 a) .plain <;> simp [Result.andThen]
@[go_sem ↓] theorem run_storeCells_u32 : (storeCells p [u32 b]).run P w = stored P w p (u32 b) .plain := by
  have h := run_store_u32 (P := P) w p .plain b
  simp only [storeCells, Sem.run_bind, Addr.add, if_true, h]
  cases stored P w p (u32 b) .plain <;> simp [Result.andThen]
@[go_sem ↓] theorem run_storeCells_b8 : (storeCells p [b8 c]).run P w = stored P w p (b8 c) .plain := by
  have h := run_store_b8 (P := P) w p .plain c
  simp only [storeCells, Sem.run_bind, Addr.add, if_true, h]
  cases stored P w p (b8 c) .plain <;> simp [Result.andThen]
end

section
variable (op : BinOp) (t : TypeId) (x y : Operand) (v : Value)
@[go_sem] theorem eqGuard_u64 (a : BitVec 64) : eqGuard op t x y (u64 a) v = pure () := by cases op <;> rfl
@[go_sem] theorem eqGuard_u32 (a : BitVec 32) : eqGuard op t x y (u32 a) v = pure () := by cases op <;> rfl
@[go_sem] theorem eqGuard_b8 (a : UInt8) : eqGuard op t x y (b8 a) v = pure () := by cases op <;> rfl
end

section
variable {P : Program} (w : World) (src dst : TypeId)
theorem run_conv_k (k : IntKind) (n : Int) (kd : IntKind) (hs : (P.underlying src).isSome = true) (hd : P.underlying dst = some (.int kd)) :
    (convert src dst (.int k n)).run P w = .ok (.int kd (kd.wrap n)) w := by
  have hk : P.intKind dst = kd := by simp [Program.intKind, hd]
  have h := run_convert_int w src dst k n hs (by rw [hk]; exact hd)
  rw [hk] at h
  exact h
@[go_sem ↓] theorem conv_b8_u64 (c : UInt8) (hs : (P.underlying src).isSome = true) (hd : P.underlying dst = some (.int .u64)) :
    (convert src dst (b8 c)).run P w = .ok (u64 (c.toBitVec.setWidth 64)) w := by
  have h := c.toNat_lt
  have e : (c.toBitVec.setWidth 64).toNat = c.toNat := by rw [BitVec.toNat_setWidth]; show c.toNat % _ = _; omega
  rw [b8, run_conv_k w src dst _ _ .u64 hs hd, u64, e, wrap_u64_nat _ (by omega : c.toNat < 18446744073709551616)]
@[go_sem ↓] theorem conv_b8_u32 (c : UInt8) (hs : (P.underlying src).isSome = true) (hd : P.underlying dst = some (.int .u32)) :
    (convert src dst (b8 c)).run P w = .ok (u32 (c.toBitVec.setWidth 32)) w := by
  have h := c.toNat_lt
  have e : (c.toBitVec.setWidth 32).toNat = c.toNat := by rw [BitVec.toNat_setWidth]; show c.toNat % _ = _; omega
  rw [b8, run_conv_k w src dst _ _ .u32 hs hd, u32, e, wrap_u32_nat _ (by omega : c.toNat < 4294967296)]
@[go_sem ↓] theorem conv_b8_i64 (c : UInt8) (hs : (P.underlying src).isSome = true) (hd : P.underlying dst = some (.int .i64)) :
    (convert src dst (b8 c)).run P w = .ok (.int .i64 (c.toNat : Int)) w := by
  have h := c.toNat_lt
  rw [b8, run_conv_k w src dst _ _ .i64 hs hd, IntKind.wrap_i64]
  exact congrArg (fun x => Result.ok (Value.int .i64 x) w) (by omega)
@[go_sem ↓] theorem conv_i64_u64 (n : Int) (hs : (P.underlying src).isSome = true) (hd : P.underlying dst = some (.int .u64)) :
    (convert src dst (.int .i64 n)).run P w = .ok (u64 (BitVec.ofInt 64 n)) w := by
  rw [run_conv_k w src dst _ _ .u64 hs hd, u64, IntKind.wrap_u64, BitVec.toNat_ofInt]; congr 2 <;> omega
@[go_sem ↓] theorem conv_u64_i64 (a : BitVec 64) (hs : (P.underlying src).isSome = true) (hd : P.underlying dst = some (.int .i64)) :
    (convert src dst (u64 a)).run P w = .ok (.int .i64 (i64of a)) w := by
  have h := a.isLt
  rw [u64, run_conv_k w src dst _ _ .i64 hs hd, IntKind.wrap_i64, i64of, BitVec.toInt_eq_toNat_bmod]
  exact congrArg (fun x => Result.ok (Value.int .i64 x) w) (by rw [Int.bmod_def]; split <;> omega)
@[go_sem ↓] theorem conv_u64_b8 (a : BitVec 64) (hs : (P.underlying src).isSome = true) (hd : P.underlying dst = some (.int .u8)) :
    (convert src dst (u64 a)).run P w = .ok (b8 (UInt8.ofNat a.toNat)) w := by
  rw [u64, run_conv_k w src dst _ _ .u8 hs hd, b8, IntKind.wrap_u8, UInt8.toNat_ofNat']; congr 2
@[go_sem ↓] theorem conv_u64_u64 (a : BitVec 64) (hs : (P.underlying src).isSome = true) (hd : P.underlying dst = some (.int .u64)) :
    (convert src dst (u64 a)).run P w = .ok (u64 a) w := by
  rw [u64, run_conv_k w src dst _ _ .u64 hs hd, wrap_u64_nat _ a.isLt]
@[go_sem ↓] theorem conv_i64_b8 (n : Int) (hs : (P.underlying src).isSome = true) (hd : P.underlying dst = some (.int .u8)) :
    (convert src dst (.int .i64 n)).run P w = .ok (b8 (UInt8.ofNat (n % 256).toNat)) w := by
  rw [run_conv_k w src dst _ _ .u8 hs hd, b8, IntKind.wrap_u8, UInt8.toNat_ofNat']; congr 2 <;> omega
end
end Go.Proofs.Ytjfakdbgcinpcaa
