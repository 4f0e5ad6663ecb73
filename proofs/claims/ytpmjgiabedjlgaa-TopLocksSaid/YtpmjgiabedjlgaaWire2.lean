/-
  WIRE, THE WALKS: Int.
-/
import Derived.Test.YtpmjgiabedjlgaaProg
import Derived.Test.YtpmjgiabedjlgaaBase7
import Derived.Test.YtpmjgiabedjlgaaWireP
import Derived.BigQuiet
import Derived.Deep.QuietTactic
import Derived.WalkSpells
import Derived.WalkLawsBesides
namespace Go.Proofs.Ytpmjgiabedjlgaa
open Go.RowKit
set_option linter.unusedVariables false

def int3 (r : Int × Int × Int) : Value := .tuple #[.int .i64 r.1, .int .i64 r.2.1, .int .i64 r.2.2]
theorem int3_of {r : Int × Int × Int} {a b c : Int} (h : r = (a, b, c)) : Ending.returned (.tuple #[.int .i64 a, .int .i64 b, .int .i64 c]) = .returned (int3 r) := by subst h; rfl

theorem Try.sizeU8 (w : World) : (sizeOf 5).run Try.prog w = .ok 1 w := by kernel_rfl

set_option maxRecDepth 100000 in
set_option maxHeartbeats 1000000 in
theorem int_in (bs : List UInt8) (at_ : Nat) (ao : Option Addr) (len cap : Nat) (w : World) (hs : Sl w 1 ao len cap (cs b8 bs)) (hlen : len ≤ 1000000000000) (hat : at_ ≤ len) :
    Calls Try.prog 19 #[.slice ao len cap, .int .i64 (at_ : Int)] w (fun e w' => e = .returned (int3 (intRes bs at_)) ∧ w = w') := by
  have hle := hs.hle
  have hmax := hs.hmax
  unfold maxLen at hmax
  have hgo : Hid (∀ c : Int, c ≠ 0 → ∀ a b, scanI 0 0 (bs.drop at_) = (c, a, b) → intRes bs at_ = (0, 0, c)) := by
    intro c hc a b h
    have := hs.count
    unfold intRes
    rw [if_neg (by omega), Int.toNat_natCast, h, if_neg hc]
  have hok : Hid (∀ (z : BitVec 64) (m : Nat), scanI 0 0 (bs.drop at_) = (0, z, m) → intRes bs at_ = (num z, (at_ : Int) + (m : Int), 0)) := by
    intro z m h
    have := hs.count
    unfold intRes
    rw [if_neg (by omega), Int.toNat_natCast, h, if_pos rfl]
  obtain ⟨ao', hrun, hs'⟩ := slice_from (P := Try.prog) 22 5 Try.underlying22 Try.sizeU8 hs at_ hat
  go_enter Try.func19, Try.ntmps19
  go_wp2
  have hneg : (0 : Int) ≤ (at_ : Int) := by omega
  go_loop [7, 22] (fun z i => ∃ (k : Nat) (zb : BitVec 64), k ≤ len - at_ ∧ k ≤ 10 ∧ i = .int .i64 k ∧ z = u64 zb ∧ Hid (scanI k zb ((bs.drop at_).drop k) = scanI 0 0 (bs.drop at_)))
    (fun _ i => len - (intOf i).toNat)
  case atStart => exact ⟨0, 0, by omega, by omega, rfl, rfl, by show _ = _; simp⟩
  case round =>
    obtain ⟨k, zb, hk, hk10, rfl, rfl, hsc⟩ := hrel
    have hcount := hs'.count
    by_cases hkl : k < len - at_
    · obtain ⟨b, off, rfl, hcell⟩ := hs'.at_ k hkl 0
      have hdk : (bs.drop at_).drop k = (bs.drop at_).getD k 0 :: (bs.drop at_).drop (k + 1) := by
        rw [List.drop_eq_getElem_cons (by omega)]; simp [List.getD, hcount, hkl]
      generalize (bs.drop at_).getD k 0 = x at *
      by_cases h10 : k = 10
      · subst h10
        have hS : Hid (scanI 0 0 (bs.drop at_) = (3, 0, 0)) := by show _ = _; rw [← hsc.out, hdk, scanI, if_pos rfl]
        clear hdk hsc
        go_wp2
        go_ret3
        exact ⟨int3_of (hgo.out 3 (by decide) _ _ hS.out), rfl⟩
      · have h9 : ((k : Int) == 10) = false := by simp; omega
        have h7 : (0 : Int) ≤ 7 * (k : Int) := by omega
        by_cases hx : x.toNat < 128
        · have hx' := (and128 x).2 hx
          by_cases hbad : (0 < k ∧ x.toNat = 0) ∨ (k = 9 ∧ 1 < x.toNat)
          · have hS : Hid (scanI 0 0 (bs.drop at_) = (3, 0, 0)) := by show _ = _; rw [← hsc.out, hdk, scanI, if_neg h10, if_pos hx, if_pos hbad]
            clear hdk hsc
            rcases hbad with ⟨g1, g2⟩ | ⟨g1, g2⟩
            · go_wp2
              go_ret3
              exact ⟨int3_of (hgo.out 3 (by decide) _ _ hS.out), rfl⟩
            · subst g1
              have g3 : ¬ x.toNat = 0 := by omega
              go_wp2
              go_ret3
              exact ⟨int3_of (hgo.out 3 (by decide) _ _ hS.out), rfl⟩
          · have hS : Hid (scanI 0 0 (bs.drop at_) = (0, zb ||| ((BitVec.setWidth 64 x.toBitVec &&& 127#64) <<< (7 * k)), k + 1)) := by show _ = _; rw [← hsc.out, hdk, scanI, if_neg h10, if_pos hx, if_neg hbad]
            clear hdk hsc
            have hb1 : 0 < k → ¬ x.toNat = 0 := fun h h' => hbad (.inl ⟨h, h'⟩)
            have hb2 : k = 9 → ¬ 1 < x.toNat := fun h h' => hbad (.inr ⟨h, h'⟩)
            clear hbad
            go_wp2
            all_goals go_ret3
            all_goals exact ⟨int3_of (by rw [hok.out _ _ hS.out]; exact congrArg (fun m : Int => (num _, m, (0 : Int))) (by omega)), rfl⟩
        · have hx' : ¬ (x.toNat &&& 128 = 0) := fun h => hx ((and128 x).1 h)
          have hS : Hid (scanI (k + 1) (zb ||| ((BitVec.setWidth 64 x.toBitVec &&& 127#64) <<< (7 * k))) ((bs.drop at_).drop (k + 1)) = scanI 0 0 (bs.drop at_)) := by show _ = _; rw [← hsc.out, hdk, scanI, if_neg h10, if_neg hx]
          clear hdk hsc
          go_wp2
          go_round
          case rel => exact ⟨k + 1, _, by omega, by omega, by go_num, rfl, hS⟩
          case measure => simp [intOf]; omega
    · have hS : Hid (scanI 0 0 (bs.drop at_) = (if 10 ≤ k then (3, 0, 0) else (4, 0, 0))) := by show _ = _; rw [← hsc.out, List.drop_of_length_le (by omega), scanI]
      clear hsc
      have hke : k = len - at_ := by omega
      have HE := Lib.hid hke
      clear hke
      by_cases h10 : 10 ≤ len - at_
      · have h10' : (10 : Int) ≤ (len : Int) - (at_ : Int) := by omega
        have hS' : Hid (scanI 0 0 (bs.drop at_) = (3, 0, 0)) := by have := hS.out; rw [HE.out, if_pos h10] at this; exact this
        clear hS
        go_wp2
        go_ret3
        exact ⟨int3_of (hgo.out 3 (by decide) _ _ hS'.out), rfl⟩
      · have h10' : (len : Int) - (at_ : Int) < 10 := by omega
        have hS' : Hid (scanI 0 0 (bs.drop at_) = (4, 0, 0)) := by have := hS.out; rw [HE.out, if_neg h10] at this; exact this
        clear hS
        go_wp2
        go_ret3
        exact ⟨int3_of (hgo.out 4 (by decide) _ _ hS'.out), rfl⟩

set_option maxRecDepth 100000 in
set_option maxHeartbeats 1000000 in
theorem int_any (bs : List UInt8) (at_ : Int) (ao : Option Addr) (len cap : Nat) (w : World) (hs : Sl w 1 ao len cap (cs b8 bs)) (hlen : len ≤ 1000000000000) :
    Calls Try.prog 19 #[.slice ao len cap, .int .i64 at_] w (fun e w' => e = .returned (int3 (intRes bs at_)) ∧ w = w') := by
  have hc := hs.count
  by_cases h0 : at_ < 0
  · have hr : Hid (intRes bs at_ = (0, 0, 1)) := by show _ = _; unfold intRes; rw [if_pos (.inl h0)]
    go_enter Try.func19, Try.ntmps19
    go_wp2
    go_ret3
    exact ⟨int3_of hr.out, rfl⟩
  · obtain ⟨n, rfl⟩ := Int.eq_ofNat_of_zero_le (show 0 ≤ at_ by omega)
    by_cases h1 : n ≤ len
    · exact int_in bs n ao len cap w hs hlen h1
    · have hr : Hid (intRes bs n = (0, 0, 1)) := by show _ = _; unfold intRes; rw [if_pos (.inr (by omega))]
      have h1' : (len : Int) < (n : Int) := by omega
      go_enter Try.func19, Try.ntmps19
      go_wp2
      go_ret3
      exact ⟨int3_of hr.out, rfl⟩
end Go.Proofs.Ytpmjgiabedjlgaa
