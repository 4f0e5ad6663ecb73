/-
  WIRE, THE WALKS: PutInt.
-/
import Derived.Test.YtpmjgiabedjlgaaProg
import Derived.Test.YtpmjgiabedjlgaaBase7
import Derived.Test.YtpmjgiabedjlgaaWireP
import Derived.BigQuiet
import Derived.Deep.QuietTactic
import Derived.WalkSpells
import Derived.WalkLawsBesides
namespace Go.Proofs.Ytpmjgiabedjlgaa
open Go.RowKit
set_option linter.unusedVariables false

theorem Try.infoU8 : (Try.prog.info? 5).map (fun i => (i.zero, i.size, i.bytes)) = some (some (.int .u8 0), 1, 1) := by kernel_rfl

/-- A slice of its own is handed back. -/
def RetOwn (w : World) (t : TypeId) (n : Nat) (xs : List Value) (e : Ending) (w' : World) : Prop :=
  ∃ v, e = .returned v ∧ w'.ownsRow w.heap.size t 1 v n xs ∧ Below w.heap.size w w'

def nat64 : Value → Nat | .int _ q => q.toNat | _ => 0
theorem nat64_u64 (a : BitVec 64) : nat64 (u64 a) = a.toNat := by simp [nat64, u64]

set_option maxRecDepth 100000 in
set_option maxHeartbeats 1000000 in
theorem putInt_any (bs : List UInt8) (n : Int) (ao : Option Addr) (len cap : Nat) (w : World) (hs : Sl w 1 ao len cap (cs b8 bs)) (hlen : len ≤ 1000000000000) (h1 : -9223372036854775808 ≤ n) (h2 : n ≤ 9223372036854775807) :
    Calls Try.prog 7 #[.slice ao len cap, .int .i64 n] w (RetOwn w 5 (len + (putInt n).length) (cs b8 (bs ++ putInt n))) := by
  have hle := hs.hle
  have hmax := hs.hmax
  unfold maxLen at hmax
  have hs0 : Acc w w.heap.size 5 1 (.slice ao len len) len (cs b8 bs) := Acc.full ⟨hs.hlen, Nat.le_refl _, by unfold maxLen; omega, fun h => by have := hs.hbare h; omega, hs.hcell⟩
  clear hs
  go_enter Try.func7, Try.ntmps7
  go_wp2
  go_loopw [5, 6] (fun v z wr => ∃ (zb : BitVec 64) (pre : List UInt8), z = u64 zb ∧ Acc wr w.heap.size 5 1 v (len + pre.length) (cs b8 (bs ++ pre)) ∧ Below w.heap.size w wr ∧ Hid (pre ++ enc zb = putInt n))
    (fun _ z _ => nat64 z)
  case atStart => exact ⟨_, [], rfl, by simpa using hs0, Below.refl _ _, rfl⟩
  case round =>
    obtain ⟨zb, pre, rfl, hacc, hbel, hpre⟩ := hrel
    have hsz := hbel.size
    have hpl : pre.length ≤ 9 := by
      have h3 := congrArg List.length hpre.out
      have h4 := putInt_length n
      have h5 := enc_length zb
      rw [List.length_append] at h3
      omega
    by_cases hz : zb.toNat < 128
    · have hz' : ¬ (128 : Int) ≤ (zb.toNat : Int) := by omega
      go_wp2_with (at_builtin; refine wpList_append_one b8 (fun _ => rfl) _ rfl _ _ 22 rfl w.heap.size 5 _ (.int .u8 0) 1 Try.underlying22 Try.infoU8 rfl hacc rfl _ rfl (by unfold maxLen; omega) (by omega) (by omega) ?_)
      intro v' w' ho hg hb
      go_wp2
      go_ret
      have e := hpre.out
      rw [enc_lo zb hz] at e
      refine ⟨v', rfl, ?_, hbel.trans hb⟩
      rw [← e, List.length_append]
      exact ho
    · have hz' : (128 : Int) ≤ (zb.toNat : Int) := by omega
      go_wp2_with (at_builtin; refine wpList_append_one b8 (fun _ => rfl) _ rfl _ _ 22 rfl w.heap.size 5 _ (.int .u8 0) 1 Try.underlying22 Try.infoU8 rfl hacc rfl _ rfl (by unfold maxLen; omega) (by omega) (by omega) ?_)
      intro v' w' ho hg hb
      go_wp2
      go_roundw
      case rel => exact ⟨_, pre ++ [UInt8.ofNat zb.toNat ||| 128], rfl, by rw [List.length_append]; exact .own ho, hbel.trans hb, by have e := hpre.out; rw [enc_hi zb hz] at e; show _ = _; rw [← e]; simp⟩
      case measure =>
        show nat64 (u64 _) < nat64 (u64 _)
        rw [nat64_u64, nat64_u64]
        have := toNat_shr7 zb
        omega

end Go.Proofs.Ytpmjgiabedjlgaa

namespace Go.Proofs.Ytpmjgiabedjlgaa
open Go.RowKit
set_option linter.unusedVariables false

def low7 (x : UInt8) : BitVec 64 := BitVec.setWidth 64 x.toBitVec &&& 127#64
theorem toInt_small (a : BitVec 64) (h : a.toNat < 9223372036854775808) : a.toInt = (a.toNat : Int) := by
  rw [BitVec.toInt_eq_toNat_cond, if_pos (by omega)]

theorem wrap_i64_bv (x : BitVec 64) : IntKind.i64.wrap (x.toNat : Int) = x.toInt := by
  have hx := x.isLt
  rw [IntKind.wrap_i64, BitVec.toInt_eq_toNat_cond]
  split <;> omega
theorem bits_xor64 (a b : Int) : bits BinOp.xor IntKind.i64 a b = (BitVec.ofInt 64 a ^^^ BitVec.ofInt 64 b).toInt := wrap_i64_bv _

theorem num_eq (z : BitVec 64) : num z = if z.toNat % 2 = 1 then -((z.toNat / 2 : Nat) : Int) - 1 else ((z.toNat / 2 : Nat) : Int) := by
  have hz := z.isLt
  have e1 : (z >>> 1).toNat = z.toNat / 2 := by rw [BitVec.toNat_ushiftRight, Nat.shiftRight_eq_div_pow]
  have e2 : (z &&& 1#64).toNat = z.toNat % 2 := by rw [BitVec.toNat_and]; exact Nat.and_one_is_mod _
  have h1 : i64of (z >>> 1) = ((z.toNat / 2 : Nat) : Int) := by rw [i64of, toInt_small _ (by omega), e1]
  have h2 : i64of (z &&& 1#64) = ((z.toNat % 2 : Nat) : Int) := by rw [i64of, toInt_small _ (by omega), e2]
  have h3 : BitVec.ofInt 64 ((z.toNat / 2 : Nat) : Int) = z >>> 1 := by
    apply BitVec.eq_of_toNat_eq; rw [e1, BitVec.toNat_ofInt]; omega
  rw [num, h1, h2, bits_xor64, h3]
  split
  · rename_i h
    rw [h, IntWalk.wrap64_in _ ⟨by omega, by omega⟩, show BitVec.ofInt 64 (-((1 : Nat) : Int)) = BitVec.allOnes 64 from by decide, BitVec.xor_allOnes, BitVec.toInt_eq_toNat_cond, BitVec.toNat_not, e1]
    split <;> omega
  · rename_i h
    have h0 : z.toNat % 2 = 0 := by omega
    rw [h0, IntWalk.wrap64_in _ ⟨by omega, by omega⟩, show BitVec.ofInt 64 (-((0 : Nat) : Int)) = 0#64 from by decide, BitVec.xor_zero, toInt_small _ (by omega), e1]

theorem zz_toNat (n : Int) (h1 : -9223372036854775808 ≤ n) (h2 : n ≤ 9223372036854775807) : (zz n).toNat = if n < 0 then (2 * (-(n + 1)).toNat + 1) else 2 * n.toNat := by
  unfold zz
  split
  · rename_i h
    have e : n / 9223372036854775808 = -1 := by omega
    rw [e, show BitVec.ofInt 64 (-1) = BitVec.allOnes 64 from by decide, BitVec.xor_allOnes, BitVec.toNat_not, BitVec.toNat_shiftLeft, Nat.shiftLeft_eq, BitVec.toNat_ofInt]
    omega
  · rename_i h
    have e : n / 9223372036854775808 = 0 := by omega
    rw [e]
    rw [show BitVec.ofInt 64 0 = 0#64 from by decide, BitVec.xor_zero]
    rw [BitVec.toNat_shiftLeft, Nat.shiftLeft_eq, BitVec.toNat_ofInt]
    omega

theorem num_zz (n : Int) (h1 : -9223372036854775808 ≤ n) (h2 : n ≤ 9223372036854775807) : num (zz n) = n := by
  rw [num_eq, zz_toNat n h1 h2]
  by_cases h : n < 0
  · rw [if_pos h, if_pos (by omega)]; omega
  · rw [if_neg h, if_neg (by omega)]; omega
theorem num_range (z : BitVec 64) : -9223372036854775808 ≤ num z ∧ num z ≤ 9223372036854775807 := by
  have hz := z.isLt
  rw [num_eq]; split <;> omega
theorem byte_more (n : Nat) : UInt8.ofNat ((128 + n % 128) % 18446744073709551616) = UInt8.ofNat n ||| 128 := by
  apply UInt8.toNat_inj.1
  rw [UInt8.toNat_or, UInt8.toNat_ofNat', UInt8.toNat_ofNat']
  have h : ∀ m : Fin 256, m.val ||| (128 : UInt8).toNat = 128 + m.val % 128 := by decide +kernel
  have := h ⟨n % 256, by omega⟩
  refine Eq.trans ?_ this.symm
  show _ = 128 + (n % 256) % 128
  omega
end Go.Proofs.Ytpmjgiabedjlgaa
