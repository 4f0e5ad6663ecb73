/-
  TOKENS, THE REFERENCE: bit, index.
-/
import Derived.Test.YtomilmaeiokaaaaProg
import Derived.Test.YtomilmaeiokaaaaBase15
import Derived.Test.YtomilmaeiokaaaaMacP
import Derived.Test.YtomilmaeiokaaaaTokP
import Derived.Test.YtomilmaeiokaaaaTkP
import Derived.Test.YtomilmaeiokaaaaTkV
import Derived.Test.YtomilmaeiokaaaaTkT
import Derived.Test.YtomilmaeiokaaaaTkX
import Derived.Test.YtomilmaeiokaaaaHeld
import Derived.BigQuiet
import Derived.Laws.StructEq
import Derived.StillTailTactics
import Derived.RegionTactic
import Derived.BigRegion
import Derived.Deep.DeepCutAuto
import Derived.Deep.QuietTactic
import Derived.WalkSpells
import Derived.WalkLawsBesides
namespace Go.Proofs.Ytomilmaeiokaaaa
open Go.RowKit
set_option linter.unusedVariables false

set_option maxRecDepth 100000 in
theorem refIndex_any (c : UInt8) (w : World) : Calls Try.prog 61 #[b8 c] w (fun e w' => e = .returned (.int .i64 (if idxA c < 32 then (idxA c : Int) else -1)) ∧ w' = w) := by
  have hne := fun j hj => alpha_ne c j hj
  by_cases h : idxA c < 32
  · have hat := alpha_at c h
    rw [if_pos h]
    obtain ⟨n, hn⟩ : ∃ n, idxA c = n := ⟨_, rfl⟩
    rw [hn] at h hat hne ⊢
    have HAT := Lib.hid hat
    have HNE := Lib.hid hne
    clear hat hne hn
    go_enter Try.func61, Try.ntmps61
    go_upto_region 2 with (fail)
    go_loopw [3] (fun i wr => ∃ k : Nat, k ≤ n ∧ i = .int .i64 k ∧ wr = w) (fun i _ => 32 - (intOf i).toNat)
    case atStart => exact ⟨0, by omega, rfl, rfl⟩
    case round =>
      obtain ⟨k, hk, rfl, hw⟩ := hrel
      subst wr
      have hk32 : (k : Int) < 32 := by omega
      have hidx := fun w => alpha_idx k (by omega) w
      by_cases hkn : k = n
      · have hd : alpha k = c := by rw [hkn]; exact HAT.out
        have HKN := Lib.hid hkn
        clear hkn
        go_wp2
        go_ret
        exact ⟨by rw [HKN.out]; rfl, rfl⟩
      · have hd : ¬ alpha k = c := HNE.out k (by omega)
        go_wp2
        go_roundw
        case rel => exact ⟨k + 1, by omega, by go_num, by first | rfl | trivial⟩
        case measure => simp [intOf]; omega
  · have hle := idxA_le c
    rw [if_neg h]
    rw [show idxA c = 32 from by omega] at hne
    have HNE := Lib.hid hne
    clear hne h hle
    go_enter Try.func61, Try.ntmps61
    go_upto_region 2 with (fail)
    go_loopw [3] (fun i wr => ∃ k : Nat, k ≤ 32 ∧ i = .int .i64 k ∧ wr = w) (fun i _ => 32 - (intOf i).toNat)
    case atStart => exact ⟨0, by omega, rfl, rfl⟩
    case round =>
      obtain ⟨k, hk, rfl, hw⟩ := hrel
      subst wr
      by_cases hk32 : k < 32
      · have hk32' : (k : Int) < 32 := by omega
        have hidx := fun w => alpha_idx k hk32 w
        have hd : ¬ alpha k = c := HNE.out k hk32
        go_wp2
        go_roundw
        case rel => exact ⟨k + 1, by omega, by go_num, by first | rfl | trivial⟩
        case measure => simp [intOf]; omega
      · have hk32' : ¬ (k : Int) < 32 := by omega
        go_wp2
        go_ret
        exact ⟨rfl, rfl⟩
set_option maxRecDepth 100000 in
theorem bit_any (a : Option Addr) (len cap : Nat) (bs : List UInt8) (i : Nat) (W : World) (hs : Sl W 1 a len cap (cs b8 bs)) (hl : len ≤ 1000) (hi : (i : Int) ≤ 100000) : Calls Try.prog 48 #[.slice a len cap, .int .i64 (i : Int)] W (fun e W' => e = .returned (.int .i64 (bitN bs i : Int)) ∧ W' = W) := by
  have hcnt := hs.count
  have hq : (i : Int).tdiv 8 = ((i / 8 : Nat) : Int) := by rw [Int.tdiv_eq_ediv_of_nonneg (by omega)]; omega
  have hr : (i : Int).tmod 8 = ((i % 8 : Nat) : Int) := by rw [Int.tmod_eq_emod_of_nonneg (by omega)]; omega
  have hr8 : i % 8 < 8 := Nat.mod_lt _ (by decide)
  have hq1 : i / 8 ≤ 100000 := by omega
  obtain ⟨q, hqq⟩ : ∃ q, i / 8 = q := ⟨_, rfl⟩
  obtain ⟨r, hrr⟩ : ∃ r, i % 8 = r := ⟨_, rfl⟩
  obtain ⟨R, hR⟩ : ∃ R, bitN bs i = R := ⟨_, rfl⟩
  have hR2 := hR
  unfold bitN at hR2
  rw [hqq] at hq hR2 hq1
  rw [hrr] at hr hr8 hR2
  rw [hR]
  by_cases hlq : len ≤ q
  · rw [if_pos (by omega)] at hR2
    subst hR2
    have hlq' : (len : Int) ≤ (q : Int) := by omega
    clear hqq hrr hR
    go_enter Try.func48, Try.ntmps48
    go_wp2
    go_ret
    exact ⟨rfl, rfl⟩
  · rw [if_neg (by omega)] at hR2
    have hlq' : ¬ (len : Int) ≤ (q : Int) := by omega
    obtain ⟨b, off, e, hc⟩ := hs.at_ q (by omega) 0
    subst e
    generalize bs.getD q 0 = c at *
    obtain ⟨d, hd⟩ : ∃ d : UInt8, (⟨c.toBitVec >>> ((7 : Int) - (r : Int)).toNat⟩ : UInt8) = d := ⟨_, rfl⟩
    have hdn : d.toNat = c.toNat / 2 ^ (7 - r) := by
      rw [← hd, show ((7 : Int) - (r : Int)).toNat = 7 - r from by omega]
      show (c.toBitVec >>> (7 - r)).toNat = _
      rw [BitVec.toNat_ushiftRight, Nat.shiftRight_eq_div_pow]
      rfl
    have hm : (d.toNat : Int).tmod 2 = (R : Int) := by rw [Int.tmod_eq_emod_of_nonneg (by omega), ← hR2, ← hdn]; omega
    have hq0 : (0 : Int) ≤ (q : Int) := by omega
    have hr7 : (0 : Int) ≤ 7 - (r : Int) := by omega
    have hsh : ∀ t, binOp .shr t (b8 c) (.int .i64 (7 - (r : Int))) = pure (b8 d) := fun t => by rw [b8_shr (yk := IntKind.i64) (h := hr7), hd]
    have HS := Lib.hid hs
    clear hqq hrr hR hR2 hdn hcnt hs hr7 hd
    go_enter Try.func48, Try.ntmps48
    go_wp2
    go_ret
    exact ⟨rfl, rfl⟩
end Go.Proofs.Ytomilmaeiokaaaa
