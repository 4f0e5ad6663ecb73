/-
  MAC, THE WALKS: the reference's word.
-/
import Derived.Test.YtomilmaeiokaaaaProg
import Derived.Test.YtomilmaeiokaaaaMac2
import Derived.Test.YtomilmaeiokaaaaBase15
import Derived.Test.YtomilmaeiokaaaaMacP
import Derived.BigQuiet
import Derived.StillTailTactics
import Derived.RegionTactic
import Derived.Deep.DeepCutAuto
import Derived.Deep.QuietTactic
import Derived.WalkSpells
import Derived.WalkLawsBesides
namespace Go.Proofs.Ytomilmaeiokaaaa
open Go.RowKit
set_option linter.unusedVariables false


set_option maxRecDepth 100000 in
set_option maxHeartbeats 1000000 in
theorem refWord_any (bs : List UInt8) (g : Nat) (ao : Option Addr) (len cap : Nat) (w : World) (hs : Sl w 1 ao len cap (cs b8 bs)) (hlen : len ≤ 1000000000) (hg : g ≤ 1000000000) :
    Calls Try.prog 63 #[.slice ao len cap, .int .i64 (g : Int)] w (fun e w' => e = .returned (u64 (refW bs g 8)) ∧ w = w') := by
  have hcount := hs.count
  have HC := Lib.hid hcount
  clear hcount
  go_enter Try.func63, Try.ntmps63
  go_wp2
  go_loop [5, 6] (fun m i => ∃ (k : Nat), k ≤ 8 ∧ i = .int .i64 k ∧ m = u64 (refW bs g k)) (fun _ i => 8 - (intOf i).toNat)
  case atStart => exact ⟨0, by omega, rfl, rfl⟩
  case round =>
    obtain ⟨k, hk, rfl, rfl⟩ := hrel
    by_cases hkl : k < 8
    · have h8 : (0 : Int) ≤ 8 * (k : Int) := by omega
      by_cases hin : g * 8 + k < len
      · obtain ⟨b, off, e0, hcell⟩ := hs.at_ (g * 8 + k) hin 0
        subst e0
        have hw : refW bs g (k + 1) = refW bs g k ||| BitVec.setWidth 64 (bs.getD (g * 8 + k) 0).toBitVec <<< (8 * k) := by rw [refW, if_pos (by rw [HC.out]; exact hin)]
        have HW := Lib.hid hw
        clear hw
        generalize bs.getD (g * 8 + k) 0 = x at *
        generalize refW bs g k = z at *
        have hin' : (g : Int) * 8 + (k : Int) < (len : Int) := by omega
        go_wp2
        go_round
        case rel => exact ⟨k + 1, by omega, by go_num, by rw [HW.out]⟩
        case measure => simp [intOf]; omega
      · have hin' : ¬ (g : Int) * 8 + (k : Int) < (len : Int) := by omega
        by_cases h7 : k = 7
        · subst h7
          have hw : refW bs g 8 = refW bs g 7 ||| BitVec.ofInt 64 ((len : Int) % 256) <<< 56 := by rw [refW, if_neg (by rw [HC.out]; exact hin), if_pos rfl, HC.out]
          have HW := Lib.hid hw
          clear hw
          generalize refW bs g 7 = z at *
          go_wp2
          go_round
          case rel => exact ⟨8, by omega, by go_num, by rw [HW.out]⟩
          case measure => simp [intOf]
        · have hw : refW bs g (k + 1) = refW bs g k := by rw [refW, if_neg (by rw [HC.out]; exact hin), if_neg h7]
          have HW := Lib.hid hw
          clear hw
          have h7' : ¬ (k : Int) = 7 := by omega
          go_wp2
          go_round
          case rel => exact ⟨k + 1, by omega, by go_num, by rw [HW.out]⟩
          case measure => simp [intOf]; omega
    · obtain rfl : k = 8 := by omega
      go_wp2
      go_ret
      exact ⟨rfl, rfl⟩
end Go.Proofs.Ytomilmaeiokaaaa
