/-
  CRC, THE LAWS' WALKS: CrcSums, CrcSeals, CrcOpens.
-/
import Derived.Test.YtmanoeimnipjjaaProg
import Derived.Test.YtmanoeimnipjjaaBase3
import Derived.Test.YtmanoeimnipjjaaBase5
import Derived.Test.YtmanoeimnipjjaaBase6
import Derived.Test.YtmanoeimnipjjaaBase7
import Derived.Test.YtmanoeimnipjjaaBase8
import Derived.Test.YtmanoeimnipjjaaBase9
import Derived.Test.YtmanoeimnipjjaaCrc9
import Derived.Test.YtmanoeimnipjjaaWire6
import Derived.Test.YtmanoeimnipjjaaWireP3
import Derived.Test.YtmanoeimnipjjaaHeld
import Derived.BigQuiet
import Derived.Laws.StructEq
import Derived.StillTailTactics
import Derived.RegionTactic
import Derived.Deep.DeepCutAuto
import Derived.Deep.QuietTactic
import Derived.WalkSpells
import Derived.WalkLawsBesides
namespace Go.Proofs.Ytmanoeimnipjjaa
open Go.RowKit
set_option linter.unusedVariables false

theorem short_yes (ao : Option Addr) {len : Nat} (cap : Nat) (w : World) (h : (len : Int) ≤ 3000) : Calls Try.prog 51 #[.slice ao len cap] w (fun e w' => e = .returned (.bool true) ∧ w = w') :=
  (short_any ao len cap w).mono fun _ _ h' => by rw [decide_eq_true h] at h'; exact h'
theorem short_no (ao : Option Addr) {len : Nat} (cap : Nat) (w : World) (h : ¬ (len : Int) ≤ 3000) : Calls Try.prog 51 #[.slice ao len cap] w (fun e w' => e = .returned (.bool false) ∧ w = w') :=
  (short_any ao len cap w).mono fun _ _ h' => by rw [decide_eq_false h] at h'; exact h'

set_option maxRecDepth 100000 in
set_option maxHeartbeats 4000000 in
theorem crcSums_walk (bs : List UInt8) (ao : Option Addr) (len cap : Nat) (w : World) (hs : Sl w 1 ao len cap (cs b8 bs)) :
    Calls Try.prog 13 #[.slice ao len cap] w (RetB (.bool true) w) := by
  by_cases hbig : (len : Int) ≤ 3000
  · have HS := Lib.hid hs
    clear hs
    go_enter Try.func13, Try.ntmps13
    go_wp2_with fail
    refine (short_yes ao cap _ hbig).mono ?_
    rintro e w' ⟨rfl, rfl⟩
    go_wp2_with fail
    refine (crcSum_any bs ao len cap _ HS.out (by omega)).mono ?_
    rintro e w1 ⟨rfl, hb1⟩
    go_wp2_with fail
    refine (refCrc_any bs ao len cap _ (HS.out.ext hb1) (by omega)).mono ?_
    rintro e w2 ⟨rfl, hb2⟩
    go_wp2_with fail
    refine (awake05_any _).mono ?_
    rintro e w3 ⟨rfl, hb3⟩
    go_wp2
    go_ret
    exact ⟨rfl, below_step (below_step hb1 hb2) hb3⟩
  · go_enter Try.func13, Try.ntmps13
    go_wp2_with fail
    refine (short_no ao cap _ (by omega)).mono ?_
    rintro e w' ⟨rfl, rfl⟩
    go_wp2_with fail
    refine (awake05_any _).mono ?_
    rintro e w3 ⟨rfl, hb3⟩
    go_wp2
    go_ret
    exact ⟨rfl, hb3⟩

set_option maxRecDepth 100000 in
set_option maxHeartbeats 4000000 in
theorem crcSeals_walk (bs : List UInt8) (zeros : Int) (ao : Option Addr) (len cap : Nat) (w : World) (hs : Sl w 1 ao len cap (cs b8 bs)) :
    Calls Try.prog 14 #[.slice ao len cap, .int .i64 zeros] w (RetB (.bool true) w) := by
  by_cases hbig : (len : Int) ≤ 3000
  · have HS := Lib.hid hs
    clear hs
    by_cases hz : 65536 < zeros ∧ zeros ≤ 65546
    · obtain ⟨n, rfl⟩ := Int.eq_ofNat_of_zero_le (show 0 ≤ zeros by omega)
      obtain ⟨hz1, hz2⟩ := hz
      go_enter Try.func14, Try.ntmps14
      go_wp2_with fail
      refine (short_yes ao cap _ hbig).mono ?_
      rintro e w' ⟨rfl, rfl⟩
      go_wp2_with (refine wpList_make_typed b8 0 _ rfl _ _ 22 rfl 5 (.int .u8 0) 1 Try.underlying22 Try.infoU8 rfl .i64 .i64 _ _ n rfl rfl rfl rfl (by omega) (by unfold maxLen; omega) ?_)
      intro w1 _ hb1
      go_wp2_with fail
      refine (seal_big _ n n _ (by omega)).mono ?_
      rintro e w2 ⟨rfl, hb2⟩
      have B2 := Lib.hid (below_step hb1 hb2)
      clear hb1 hb2
      go_wp2_with fail
      refine (seal_any bs ao len cap _ (HS.out.ext B2.out) (by omega)).mono ?_
      rintro e w3 ⟨v3, rfl, ho3, hb3⟩
      obtain ⟨N3, a3, c3, rfl, s3⟩ := sl_own ho3
      have B3 := Lib.hid (below_step B2.out hb3)
      have S3 := Lib.hid s3
      have n3 : N3 ≤ 1000000000000 := by
        have h1 := s3.count
        have h2 := putInt_length bs.length
        have h3 := HS.out.count
        unfold frameB at h1
        simp [tail4_len] at h1
        omega
      clear B2 ho3 s3 hb3
      go_wp2_with fail
      refine (refSeal_any bs ao len cap _ (HS.out.ext B3.out) (by omega)).mono ?_
      rintro e w4 ⟨v4, rfl, ho4, hb4⟩
      obtain ⟨N4, a4, c4, rfl, s4⟩ := sl_own ho4
      have B4 := Lib.hid (below_step B3.out hb4)
      have S34 := Lib.hid (S3.out.ext hb4)
      have S4 := Lib.hid s4
      clear B3 S3 ho4 s4 hb4
      go_wp2_with fail
      refine (same05_any (frameB bs) (frameB bs) _ _ _ _ _ _ _ S34.out S4.out n3).mono ?_
      rw [decide_eq_true rfl]
      rintro e w5 ⟨rfl, hb5⟩
      have B5 := Lib.hid (below_step B4.out hb5)
      clear B4 hb5
      go_wp2_with fail
      refine (awake05_any _).mono ?_
      rintro e w6 ⟨rfl, hb6⟩
      go_wp2
      go_ret
      exact ⟨rfl, below_step B5.out hb6⟩
    · have hgd : (decide (65536 < zeros) && decide (zeros ≤ 65546)) = false := by
        by_cases h : 65536 < zeros
        · rw [decide_eq_false (fun h2 : zeros ≤ 65546 => hz ⟨h, h2⟩), Bool.and_false]
        · rw [decide_eq_false h, Bool.false_and]
      go_enter Try.func14, Try.ntmps14
      go_wp2_with fail
      refine (short_yes ao cap _ hbig).mono ?_
      rintro e w' ⟨rfl, rfl⟩
      go_wp2_with fail
      all_goals
        refine (seal_any bs ao len cap _ HS.out (by omega)).mono ?_
        rintro e w3 ⟨v3, rfl, ho3, hb3⟩
        obtain ⟨N3, a3, c3, rfl, s3⟩ := sl_own ho3
        have B3 := Lib.hid hb3
        have S3 := Lib.hid s3
        have n3 : N3 ≤ 1000000000000 := by
          have h1 := s3.count
          have h2 := putInt_length bs.length
          have h3 := HS.out.count
          unfold frameB at h1
          simp [tail4_len] at h1
          omega
        clear ho3 s3 hb3
        go_wp2_with fail
        refine (refSeal_any bs ao len cap _ (HS.out.ext B3.out) (by omega)).mono ?_
        rintro e w4 ⟨v4, rfl, ho4, hb4⟩
        obtain ⟨N4, a4, c4, rfl, s4⟩ := sl_own ho4
        have B4 := Lib.hid (below_step B3.out hb4)
        have S34 := Lib.hid (S3.out.ext hb4)
        have S4 := Lib.hid s4
        clear B3 S3 ho4 s4 hb4
        go_wp2_with fail
        refine (same05_any (frameB bs) (frameB bs) _ _ _ _ _ _ _ S34.out S4.out n3).mono ?_
        rw [decide_eq_true rfl]
        rintro e w5 ⟨rfl, hb5⟩
        have B5 := Lib.hid (below_step B4.out hb5)
        clear B4 hb5
        go_wp2_with fail
        refine (awake05_any _).mono ?_
        rintro e w6 ⟨rfl, hb6⟩
        go_wp2
        go_ret
        exact ⟨rfl, below_step B5.out hb6⟩
  · go_enter Try.func14, Try.ntmps14
    go_wp2_with fail
    refine (short_no ao cap _ (by omega)).mono ?_
    rintro e w' ⟨rfl, rfl⟩
    go_wp2_with fail
    refine (awake05_any _).mono ?_
    rintro e w3 ⟨rfl, hb3⟩
    go_wp2
    go_ret
    exact ⟨rfl, hb3⟩

theorem recov_small (bs : List UInt8) : ∀ (f : Nat) (at_ : Int) (k : Nat), (((recov bs f at_).1).getD k []).length ≤ bs.length := by
  intro f
  induction f with
  | zero => intro at_ k; simp [recov]
  | succ f ih =>
    intro at_ k
    rw [recov]
    split
    · simp
    · have hC : (openRes bs at_).1.length ≤ bs.length := by
        unfold openRes
        split
        · simp
        · split
          · simp
          · split
            · simp
            · split
              · simp only [List.length_take, List.length_drop]; omega
              · simp
      cases k with
      | zero => simpa [List.getD] using hC
      | succ k => have := ih (openRes bs at_).2.1 k; simpa [List.getD] using this

theorem recov_len (bs : List UInt8) : ∀ (f : Nat) (at_ : Int), (recov bs f at_).1.length ≤ f := by
  intro f
  induction f with
  | zero => intro at_; simp [recov]
  | succ f ih =>
    intro at_
    rw [recov]
    split
    · simp
    · have := ih (openRes bs at_).2.1; simp only [List.length_cons]; omega

set_option maxRecDepth 100000 in
set_option maxHeartbeats 4000000 in
theorem crcOpens_walk (bs : List UInt8) (at_ : Int) (ao : Option Addr) (len cap : Nat) (w : World) (hs : Sl w 1 ao len cap (cs b8 bs)) :
    Calls Try.prog 15 #[.slice ao len cap, .int .i64 at_] w (RetB (.bool true) w) := by
  by_cases hbig : (len : Int) ≤ 3000
  · have hcount := hs.count
    obtain ⟨⟨C, nx, er⟩, hr⟩ : ∃ r, openRes bs at_ = r := ⟨_, rfl⟩
    have hCl : C.length ≤ bs.length := by
      have h := recov_small bs 1 at_ 0
      by_cases he : er = 0
      · subst he; rw [recov_ok hr] at h; simpa [List.getD] using h
      · rw [((openRes_props hr).2 he).1]; simp
    obtain ⟨⟨R1, R2⟩, hR⟩ : ∃ r, recov bs (len + 1) 0 = r := ⟨_, rfl⟩
    have hsm : Hid (∀ k, (R1.getD k []).length ≤ 1000000000) := fun k => by
      have := recov_small bs (len + 1) 0 k
      rw [hR] at this
      simp only at this
      omega
    have hR1 : R1.length ≤ len + 1 := by
      have := recov_len bs (len + 1) 0
      rw [hR] at this
      exact this
    have HR := Lib.hid hr
    have HRR := Lib.hid hR
    have HS := Lib.hid hs
    clear hs hr hR
    go_enter Try.func15, Try.ntmps15
    go_wp2_with fail
    refine (short_yes ao cap _ hbig).mono ?_
    rintro e w' ⟨rfl, rfl⟩
    go_wp2_with fail
    refine (open_val HS.out (by omega) HR).mono ?_
    rintro e w1 ⟨a1, m1, c1, rfl, ho1, hb1⟩
    obtain ⟨a1', c1', e1, s1⟩ := sl_of_own ho1
    cases e1
    have hm1 : m1 ≤ 1000000000000 := by have := s1.count; omega
    have B1 := Lib.hid hb1
    have S1 := Lib.hid s1
    clear ho1 hb1 s1
    go_wp2_with fail
    refine (refOpen_val (HS.out.ext B1.out) (by omega) HR).mono ?_
    rintro e w2 ⟨a2, m2, c2, rfl, ho2, hb2⟩
    obtain ⟨a2', c2', e2, s2⟩ := sl_of_own ho2
    cases e2
    have B2 := Lib.hid (below_step B1.out hb2)
    have S12 := Lib.hid (S1.out.ext hb2)
    have S2 := Lib.hid s2
    clear ho2 hb2 s2 B1 S1
    go_wp2_with fail
    refine (recover_any bs ao len cap _ (HS.out.ext B2.out) (by omega)).mono ?_
    rw [HRR.out]
    rintro e w3 ⟨a3, m3, c3, L3, rfl, s3, E3, hb3⟩
    have B3 := Lib.hid (below_step B2.out hb3)
    have S13 := Lib.hid (S12.out.ext hb3)
    have S23 := Lib.hid (S2.out.ext hb3)
    have S3 := Lib.hid (And.intro s3 E3)
    have hm3 : m3 ≤ 1000000000000 := by
      have h1 := s3.count
      have h2 := E3.len
      simp only at h2
      omega
    clear hb3 s3 E3 B2 S12 S2
    go_wp2_with fail
    refine (refRecover_any bs ao len cap _ (HS.out.ext B3.out) (by omega)).mono ?_
    rw [HRR.out]
    rintro e w4 ⟨a4, m4, c4, L4, rfl, s4, E4, hb4⟩
    have B4 := Lib.hid (below_step B3.out hb4)
    have S14 := Lib.hid (S13.out.ext hb4)
    have S24 := Lib.hid (S23.out.ext hb4)
    have S34 := Lib.hid (And.intro (S3.out.1.ext hb4) (S3.out.2.ext hb4))
    have S4 := Lib.hid (And.intro s4 E4)
    clear hb4 s4 E4 B3 S13 S23 S3
    go_wp2_with fail
    refine (same05_any C C _ _ _ _ _ _ _ S14.out S24.out hm1).mono ?_
    rw [decide_eq_true rfl]
    rintro e w5 ⟨rfl, hb5⟩
    have B5 := Lib.hid (below_step B4.out hb5)
    have S35 := Lib.hid (And.intro (S34.out.1.ext hb5) (S34.out.2.ext hb5))
    have S45 := Lib.hid (And.intro (S4.out.1.ext hb5) (S4.out.2.ext hb5))
    clear hb5 B4 S14 S24 S34 S4
    go_wp2_with fail
    refine (sameAll_any R1 R1 L3 L4 _ _ _ _ _ _ _ S35.out.1 S45.out.1 S35.out.2 S45.out.2 hm3 (fun k _ => hsm.out k)).mono ?_
    rw [decide_eq_true rfl]
    rintro e w6 ⟨rfl, hb6⟩
    have B6 := Lib.hid (below_step B5.out hb6)
    clear hb6 B5 S35 S45
    go_wp2_with fail
    refine (awake05_any _).mono ?_
    rintro e w7 ⟨rfl, hb7⟩
    go_wp2
    go_ret
    exact ⟨rfl, below_step B6.out hb7⟩
  · go_enter Try.func15, Try.ntmps15
    go_wp2_with fail
    refine (short_no ao cap _ (by omega)).mono ?_
    rintro e w' ⟨rfl, rfl⟩
    go_wp2_with fail
    refine (awake05_any _).mono ?_
    rintro e w3 ⟨rfl, hb3⟩
    go_wp2
    go_ret
    exact ⟨rfl, hb3⟩
end Go.Proofs.Ytmanoeimnipjjaa
