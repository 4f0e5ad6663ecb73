/-
  WIRE, THE WALKS: the other Puts.
-/
import Derived.Test.YtomilmaeiokaaaaProg
import Derived.Test.YtomilmaeiokaaaaBase15
import Derived.Test.YtomilmaeiokaaaaWire1
import Derived.Test.YtomilmaeiokaaaaWire3
import Derived.BigQuiet
import Derived.Deep.QuietTactic
import Derived.WalkSpells
import Derived.WalkLawsBesides
namespace Go.Proofs.Ytomilmaeiokaaaa
open Go.RowKit
set_option linter.unusedVariables false



/-- 'append(out, xs...)' / 'append(out, s...)' of cells that are held elsewhere. -/
theorem zigzag_any (n : Int) (w : World) (h1 : -9223372036854775808 ≤ n) (h2 : n ≤ 9223372036854775807) : Calls Try.prog 55 #[.int .i64 n] w (Quiet (u64 (zz n)) w) := by
  have hz := zz_toNat n h1 h2
  have HZ := Lib.hid hz
  clear hz
  by_cases h : n < 0
  · go_enter Try.func55, Try.ntmps55
    go_wp2
    go_ret
    refine ⟨congrArg (fun z => Ending.returned (u64 z)) ?_, rfl⟩
    apply BitVec.eq_of_toNat_eq
    rw [HZ.out, if_pos h, BitVec.toNat_add, BitVec.toNat_mul, BitVec.toNat_ofInt]
    show (2 * _ % 18446744073709551616 + 1) % 18446744073709551616 = _
    omega
  · have h' : 0 ≤ n := by omega
    go_enter Try.func55, Try.ntmps55
    go_wp2
    go_ret
    refine ⟨congrArg (fun z => Ending.returned (u64 z)) ?_, rfl⟩
    apply BitVec.eq_of_toNat_eq
    rw [HZ.out, if_neg (by omega), BitVec.toNat_mul, BitVec.toNat_ofInt]
    show 2 * _ % 18446744073709551616 = _
    omega

set_option maxRecDepth 100000 in
set_option maxHeartbeats 1000000 in
theorem code_any (n : Int) (w : World) (h1 : -9223372036854775808 ≤ n) (h2 : n ≤ 9223372036854775807) :
    Calls Try.prog 38 #[.int .i64 n] w (RetOwn w 5 (putInt n).length (cs b8 (putInt n))) := by
  go_enter Try.func38, Try.ntmps38
  go_wp2_with (go_at_call 55; refine (zigzag_any n _ h1 h2).mono ?_; rintro e w' ⟨rfl, rfl⟩)
  go_loopw [3, 4] (fun v z wr => ∃ (zb : BitVec 64) (pre : List UInt8), z = u64 zb ∧ Acc wr w.heap.size 5 1 v pre.length (cs b8 pre) ∧ Below w.heap.size w wr ∧ Hid (pre ++ enc zb = putInt n))
    (fun _ z _ => nat64 z)
  case atStart => exact ⟨_, [], rfl, Acc.nil _ _ _ _, Below.refl _ _, rfl⟩
  case round =>
    obtain ⟨zb, pre, rfl, hacc, hbel, hpre⟩ := hrel
    have hsz := hbel.size
    have hpl : pre.length ≤ 9 := by
      have h3 := congrArg List.length hpre.out
      have h4 := putInt_length n
      have h5 := enc_length zb
      rw [List.length_append] at h3
      omega
    by_cases hz : zb.toNat < 128
    · have hz' : ¬ (128 : Int) ≤ (zb.toNat : Int) := by omega
      go_wp2_with (at_builtin; refine wpList_append_one b8 (fun _ => rfl) _ rfl _ _ 22 rfl w.heap.size 5 _ (.int .u8 0) 1 Try.underlying22 Try.infoU8 rfl hacc rfl _ rfl (by unfold maxLen; omega) (by omega) (by omega) ?_)
      intro v' w' ho hg hb
      go_wp2
      go_ret
      have e := hpre.out
      rw [enc_lo zb hz] at e
      refine ⟨v', rfl, ?_, hbel.trans hb⟩
      rw [← e, List.length_append]
      exact ho
    · have hz' : (128 : Int) ≤ (zb.toNat : Int) := by omega
      go_wp2_with (at_builtin; refine wpList_append_one b8 (fun _ => rfl) _ rfl _ _ 22 rfl w.heap.size 5 _ (.int .u8 0) 1 Try.underlying22 Try.infoU8 rfl hacc rfl _ rfl (by unfold maxLen; omega) (by omega) (by omega) ?_)
      intro v' w' ho hg hb
      rw [byte_more] at ho
      go_wp2
      go_roundw
      case rel => exact ⟨_, pre ++ [UInt8.ofNat zb.toNat ||| 128], rfl, by rw [List.length_append]; exact .own ho, hbel.trans hb, by have e := hpre.out; rw [enc_hi zb hz] at e; show _ = _; rw [← e, div128]; simp⟩
      case measure =>
        show nat64 (u64 _) < nat64 (u64 _)
        rw [nat64_u64, nat64_u64, div128]
        have := toNat_shr7 zb
        omega

set_option maxRecDepth 100000 in
set_option maxHeartbeats 1000000 in
theorem joined_any (xs ys : List UInt8) (ao bo : Option Addr) (la ca lb cb : Nat) (w : World) (ha : Sl w 1 ao la ca (cs b8 xs)) (hb : Sl w 1 bo lb cb (cs b8 ys)) (h1 : la ≤ 1000000000000) (h2 : lb ≤ 1000000000000) :
    Calls Try.prog 37 #[.slice ao la ca, .slice bo lb cb] w (RetOwn w 5 (la + lb) (cs b8 (xs ++ ys))) := by
  go_enter Try.func37, Try.ntmps37
  go_wp2_with (at_builtin; refine wpList_append_many b8 (fun _ => rfl) _ rfl _ _ 22 rfl w.heap.size 5 (.int .u8 0) 1 Try.underlying22 Try.infoU8 rfl (xs := []) (World.ownsRow_nil _ _ _ _) rfl ha rfl (by unfold maxLen; omega) (by omega) (by omega) ?_)
  intro v1 w1 ho1 hb1
  have hsz := hb1.size
  go_wp2_with (at_builtin; refine wpList_append_many b8 (fun _ => rfl) _ rfl _ _ 22 rfl w.heap.size 5 (.int .u8 0) 1 Try.underlying22 Try.infoU8 rfl ho1 rfl (hb.ext hb1) rfl (by unfold maxLen; omega) (by omega) (by omega) ?_)
  intro v2 w2 ho2 hb2
  go_wp2
  go_ret
  refine ⟨v2, rfl, ?_, hb1.trans hb2⟩
  simpa using ho2
end Go.Proofs.Ytomilmaeiokaaaa
