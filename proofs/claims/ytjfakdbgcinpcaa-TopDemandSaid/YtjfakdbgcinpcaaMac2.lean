/-
  MAC, THE WALKS: words.
-/
import Derived.Test.YtjfakdbgcinpcaaProg
import Derived.Test.YtjfakdbgcinpcaaBase7
import Derived.Test.YtjfakdbgcinpcaaMacP
import Derived.BigQuiet
import Derived.StillTailTactics
import Derived.RegionTactic
import Derived.Deep.DeepCutAuto
import Derived.Deep.QuietTactic
import Derived.WalkSpells
import Derived.WalkLawsBesides
namespace Go.Proofs.Ytjfakdbgcinpcaa
open Go.RowKit
set_option linter.unusedVariables false



set_option maxRecDepth 100000 in
set_option maxHeartbeats 1000000 in
theorem word_any (bs : List UInt8) (ao : Option Addr) (len cap : Nat) (w : World) (hs : Sl w 1 ao len cap (cs b8 bs)) (hlen : len ≤ 1000000000) :
    Calls Try.prog 36 #[.slice ao len cap] w (fun e w' => e = .returned (u64 (le 0 0 bs)) ∧ w = w') := by
  have hcount := hs.count
  have HC := Lib.hid hcount
  clear hcount
  go_enter Try.func36, Try.ntmps36
  go_wp2
  go_loop [3, 8] (fun m i => ∃ (k : Nat) (z : BitVec 64), k ≤ len ∧ i = .int .i64 k ∧ m = u64 z ∧ Hid (le k z (bs.drop k) = le 0 0 bs)) (fun _ i => len - (intOf i).toNat)
  case atStart => exact ⟨0, 0, by omega, rfl, rfl, by show _ = _; simp⟩
  case round =>
    obtain ⟨k, z, hk, rfl, rfl, hle⟩ := hrel
    by_cases hkl : k < len
    · obtain ⟨b, off, e0, hcell⟩ := hs.at_ k hkl 0
      subst e0
      have hd : bs.drop k = bs.getD k 0 :: bs.drop (k + 1) := by
        have := HC.out
        rw [List.drop_eq_getElem_cons (by omega)]; simp [List.getD, show k < bs.length by omega]
      have h8 : (0 : Int) ≤ 8 * (k : Int) := by omega
      have hl := hle.out
      rw [hd, le] at hl
      have HL := Lib.hid hl
      clear hd hl
      generalize bs.getD k 0 = x at *
      go_wp2
      go_round
      case rel => exact ⟨k + 1, _, by omega, by go_num, rfl, HL⟩
      case measure => simp [intOf]; omega
    · go_wp2
      go_ret
      have hl := hle.out
      rw [List.drop_of_length_le (by have := HC.out; omega), le] at hl
      exact ⟨congrArg (fun z => Ending.returned (u64 z)) hl, rfl⟩
end Go.Proofs.Ytjfakdbgcinpcaa
