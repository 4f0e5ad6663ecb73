/-
  DRAW, THE WALKS: the reference's Total; Pick, the reference's Pick.
-/
import Derived.Test.YtfhmhkpplcbiiaaProg
import Derived.Test.YtfhmhkpplcbiiaaBase3
import Derived.Test.YtfhmhkpplcbiiaaBase5
import Derived.Test.YtfhmhkpplcbiiaaBase6
import Derived.Test.YtfhmhkpplcbiiaaDrawP
import Derived.Test.YtfhmhkpplcbiiaaDraw1
import Derived.Test.YtfhmhkpplcbiiaaHeld
import Derived.BigQuiet
import Derived.Laws.StructEq
import Derived.StillTailTactics
import Derived.RegionTactic
import Derived.Deep.DeepCutAuto
import Derived.Deep.QuietTactic
import Derived.WalkSpells
import Derived.WalkLawsBesides
namespace Go.Proofs.Ytfhmhkpplcbiiaa
open Go.RowKit
set_option linter.unusedVariables false

set_option maxRecDepth 100000 in
set_option maxHeartbeats 2000000 in
theorem refTotal_any (l : List Int) (ao : Option Addr) (len cap : Nat) (w : World) (hs : Sl w 1 ao len cap (cs i64v l)) :
    Calls Try.prog 29 #[.slice ao len cap] w (RetT (total l) w) := by
  have hc := hs.count
  obtain ⟨T, hT⟩ : ∃ T, total l = T := ⟨_, rfl⟩
  rw [hT]
  have HC := Lib.hid hc
  have HT := Lib.hid hT
  clear hT hc
  by_cases hbig : 256 < len
  · have hbig' : (256 : Int) < (len : Int) := by omega
    have hTT : T = (0, 8) := by rw [← HT.out]; unfold total; rw [if_pos (by rw [HC.out]; exact hbig)]
    go_enter Try.func29, Try.ntmps29
    go_wp2
    go_ret2
    exact retT_of _ hTT
  · have hbig' : ¬ (256 : Int) < (len : Int) := by omega
    go_enter Try.func29, Try.ntmps29
    go_wp2
    go_loop [4, 5] (fun s i => ∃ (k : Nat) (S : Int), k ≤ len ∧ i = .int .i64 k ∧ s = .int .i64 S ∧ Hid (S = sumL (l.take k)) ∧ 0 ≤ S ∧ S ≤ (k : Int) * 1125899906842624 ∧ Hid (∀ j, j < k → badW (l.getD j 0) = false)) (fun _ i => len - (intOf i).toNat)
    case atStart => exact ⟨0, 0, by omega, rfl, rfl, rfl, by omega, by omega, fun j hj => absurd hj (by omega)⟩
    case round =>
      obtain ⟨k, S, hk, rfl, rfl, hS, h0, h1, hg⟩ := hrel
      by_cases hkl : k < len
      · obtain ⟨b, off, e0, hcell⟩ := hs.at_ k hkl 0
        subst e0
        have hcell' : w.cell? ⟨b, off + k, none⟩ = some (.int .i64 (l.getD k 0)) := hcell
        have htk := sumL_take l k (by rw [HC.out]; exact hkl)
        have hkl' : (k : Int) < (len : Int) := by omega
        have hk0 : (0 : Int) ≤ (k : Int) := by omega
        clear hcell
        by_cases hbad : badW (l.getD k 0) = true
        · have hTT : T = (0, 1) := by
            rw [← HT.out]; unfold total
            rw [if_neg (by rw [HC.out]; exact hbig), if_pos (any_bad (by rw [HC.out]; exact hkl) hbad)]
          have HTT := Lib.hid hTT
          clear hTT htk
          generalize l.getD k 0 = x at *
          by_cases hx : x < 0
          · clear hbad
            go_wp2
            go_ret2
            exact retT_of _ HTT.out
          · have hx2 : 1125899906842624 < x := by unfold badW at hbad; simp at hbad; omega
            clear hbad
            go_wp2
            go_ret2
            exact retT_of _ HTT.out
        · have hgd : badW (l.getD k 0) = false := by simpa using hbad
          have hx := (good_iff _).1 hgd
          obtain ⟨hx0, hx1⟩ := hx
          have hg2 : Hid (∀ j, j < k + 1 → badW (l.getD j 0) = false) := fun j hj => by
            by_cases hjk : j = k
            · subst hjk; exact hgd
            · exact hg.out j (by omega)
          have HTK := Lib.hid htk
          clear hbad hgd htk hg
          generalize l.getD k 0 = x at *
          have y0 : ¬ x < 0 := by omega
          have y1 : ¬ 1125899906842624 < x := by omega
          have hb2 : S + x ≤ ((k + 1 : Nat) : Int) * 1125899906842624 := by omega
          go_wp2
          go_round
          case rel => exact ⟨k + 1, S + x, by omega, by go_num, by go_num, by show _ = _; rw [HTK.out, hS.out], by omega, hb2, hg2⟩
          case measure => simp [intOf]; omega
      · have hkk : k = len := by omega
        subst hkk
        have hall : l.take k = l := List.take_of_length_le (by rw [HC.out]; exact Nat.le_refl _)
        have hSS : S = sumL l := by rw [hS.out, hall]
        have hTT : T = if 1125899906842624 < S then (0, 2) else if S = 0 then (0, 10) else (S, 0) := by
          rw [← HT.out]; unfold total
          rw [if_neg (by rw [HC.out]; exact hbig), any_good (fun j hj => hg.out j (by rw [HC.out] at hj; exact hj)), if_neg (by decide), hSS]
        clear hall hSS hS hg
        by_cases y : 1125899906842624 < S
        · rw [if_pos y] at hTT
          have HTT := Lib.hid hTT
          clear hTT
          go_wp2
          go_ret2
          exact retT_of _ HTT.out
        · rw [if_neg y] at hTT
          by_cases z : S = 0
          · rw [if_pos z] at hTT
            have HTT := Lib.hid hTT
            clear hTT
            go_wp2
            go_ret2
            exact retT_of _ HTT.out
          · rw [if_neg z] at hTT
            have HTT := Lib.hid hTT
            clear hTT
            go_wp2
            go_ret2
            exact retT_of _ HTT.out

theorem total_val {l : List Int} {n e : Int} {ao : Option Addr} {len cap : Nat} {w : World} (hs : Sl w 1 ao len cap (cs i64v l)) (h : Hid (total l = (n, e))) :
    Calls Try.prog 28 #[.slice ao len cap] w (fun q w' => q = .returned (.tuple #[.int .i64 n, .int .i64 e]) ∧ w = w') := (total_any l ao len cap w hs).mono fun _ _ h' => by rw [h.out] at h'; exact h'
theorem refTotal_val {l : List Int} {n e : Int} {ao : Option Addr} {len cap : Nat} {w : World} (hs : Sl w 1 ao len cap (cs i64v l)) (h : Hid (total l = (n, e))) :
    Calls Try.prog 29 #[.slice ao len cap] w (fun q w' => q = .returned (.tuple #[.int .i64 n, .int .i64 e]) ∧ w = w') := (refTotal_any l ao len cap w hs).mono fun _ _ h' => by rw [h.out] at h'; exact h'

set_option maxRecDepth 100000 in
set_option maxHeartbeats 2000000 in
theorem pick_any (l : List Int) (x : Int) (ao : Option Addr) (len cap : Nat) (w : World) (hs : Sl w 1 ao len cap (cs i64v l)) :
    Calls Try.prog 30 #[.slice ao len cap, .int .i64 x] w (RetT (pick l x) w) := by
  have hc := hs.count
  obtain ⟨T, hT⟩ : ∃ T, pick l x = T := ⟨_, rfl⟩
  rw [hT]
  unfold pick at hT
  obtain ⟨⟨n, er⟩, hr⟩ : ∃ r, total l = r := ⟨_, rfl⟩
  rw [hr] at hT
  simp only at hT
  have HR := Lib.hid hr
  have HC := Lib.hid hc
  clear hc
  by_cases he : er = 0
  · subst he
    rw [if_neg (fun h : (0 : Int) ≠ 0 => h rfl)] at hT
    obtain ⟨t1, t2, t3, t4, t5⟩ := total_ok hr
    have hl256 : len ≤ 256 := by rw [← HC.out]; exact t1
    clear hr
    by_cases hx : x < 0
    · rw [if_pos (.inl hx)] at hT
      have HT := Lib.hid hT
      clear hT
      go_enter Try.func30, Try.ntmps30
      go_wp2_with (go_at_call 28; refine (total_val hs HR).mono ?_; rintro e w' ⟨rfl, rfl⟩)
      go_ret2
      exact retT_of _ HT.out.symm
    · by_cases hx2 : n ≤ x
      · rw [if_pos (.inr hx2)] at hT
        have HT := Lib.hid hT
        clear hT
        go_enter Try.func30, Try.ntmps30
        go_wp2_with (go_at_call 28; refine (total_val hs HR).mono ?_; rintro e w' ⟨rfl, rfl⟩)
        go_ret2
        exact retT_of _ HT.out.symm
      · rw [if_neg (fun h => h.elim hx hx2)] at hT
        have HT := Lib.hid hT
        clear hT
        have hxs : x < sumL l := by omega
        have T2 := Lib.hid t2
        clear t2 t3
        have hx0 : 0 ≤ x := by omega
        have hx1 : x ≤ 1125899906842624 := by omega
        go_enter Try.func30, Try.ntmps30
        go_wp2_with (go_at_call 28; refine (total_val hs HR).mono ?_; rintro e w' ⟨rfl, rfl⟩)
        go_loop [1, 8] (fun y i => ∃ (k : Nat) (X : Int), k ≤ len ∧ i = .int .i64 k ∧ y = .int .i64 X ∧ 0 ≤ X ∧ X ≤ 1125899906842624 ∧ Hid (X < sumL (l.drop k) ∧ pk l x = k + pk (l.drop k) X)) (fun _ i => len - (intOf i).toNat)
        case atStart => exact ⟨0, x, by omega, rfl, rfl, hx0, hx1, hxs, by simp⟩
        case round =>
          obtain ⟨k, X, hk, rfl, rfl, X0, X1, hid⟩ := hrel
          obtain ⟨h1, h2⟩ := hid.out
          have hkl : k < len := by
            rcases Nat.lt_or_ge k len with h' | h'
            · exact h'
            · rw [List.drop_of_length_le (by rw [HC.out]; exact h')] at h1
              simp only [sumL] at h1
              omega
          rw [drop_cons l k (by rw [HC.out]; exact hkl)] at h1 h2
          have hgood := T2.out (l.getD k 0) (by
            have : l.getD k 0 = l[k]'(by rw [HC.out]; exact hkl) := by simp [List.getD, show k < l.length by rw [HC.out]; exact hkl]
            rw [this]; exact List.getElem_mem _)
          obtain ⟨b, off, e0, hcell⟩ := hs.at_ k hkl 0
          subst e0
          have hcell' : w.cell? ⟨b, off + k, none⟩ = some (.int .i64 (l.getD k 0)) := hcell
          clear hcell hid
          obtain ⟨g0, g1⟩ := hgood
          simp only [sumL] at h1
          generalize l.getD k 0 = wt at *
          have hkl' : (k : Int) < (len : Int) := by omega
          have hk0 : (0 : Int) ≤ (k : Int) := by omega
          by_cases hy : X < wt
          · rw [pk_hit hy] at h2
            have H2 := Lib.hid h2
            have hy' : ¬ wt ≤ X := by omega
            clear h1 h2
            go_wp2
            go_ret2
            exact retT_of _ (by rw [← HT.out, H2.out]; rfl)
          · rw [pk_miss hy] at h2
            have hy' : wt ≤ X := by omega
            have hid2 : Hid (X - wt < sumL (l.drop (k + 1)) ∧ pk l x = (k + 1) + pk (l.drop (k + 1)) (X - wt)) := ⟨by omega, by omega⟩
            clear h1 h2
            go_wp2
            go_round
            case rel => exact ⟨k + 1, X - wt, by omega, by go_num, by go_num, by omega, by omega, hid2⟩
            case measure => simp [intOf]; omega
  · rw [if_pos he] at hT
    have HT := Lib.hid hT
    clear hT hr
    go_enter Try.func30, Try.ntmps30
    go_wp2_with (go_at_call 28; refine (total_val hs HR).mono ?_; rintro e w' ⟨rfl, rfl⟩)
    go_ret2
    exact retT_of _ HT.out.symm

set_option maxRecDepth 100000 in
set_option maxHeartbeats 2000000 in
theorem refPick_any (l : List Int) (x : Int) (ao : Option Addr) (len cap : Nat) (w : World) (hs : Sl w 1 ao len cap (cs i64v l)) :
    Calls Try.prog 31 #[.slice ao len cap, .int .i64 x] w (RetT (pick l x) w) := by
  have hc := hs.count
  obtain ⟨T, hT⟩ : ∃ T, pick l x = T := ⟨_, rfl⟩
  rw [hT]
  unfold pick at hT
  obtain ⟨⟨n, er⟩, hr⟩ : ∃ r, total l = r := ⟨_, rfl⟩
  rw [hr] at hT
  simp only at hT
  have HR := Lib.hid hr
  have HC := Lib.hid hc
  clear hc
  by_cases he : er = 0
  · subst he
    rw [if_neg (fun h : (0 : Int) ≠ 0 => h rfl)] at hT
    obtain ⟨t1, t2, t3, t4, t5⟩ := total_ok hr
    have hl256 : len ≤ 256 := by rw [← HC.out]; exact t1
    clear hr
    by_cases hx : x < 0
    · rw [if_pos (.inl hx)] at hT
      have HT := Lib.hid hT
      clear hT
      go_enter Try.func31, Try.ntmps31
      go_wp2_with (go_at_call 29; refine (refTotal_val hs HR).mono ?_; rintro e w' ⟨rfl, rfl⟩)
      go_ret2
      exact retT_of _ HT.out.symm
    · by_cases hx2 : n ≤ x
      · rw [if_pos (.inr hx2)] at hT
        have HT := Lib.hid hT
        clear hT
        go_enter Try.func31, Try.ntmps31
        go_wp2_with (go_at_call 29; refine (refTotal_val hs HR).mono ?_; rintro e w' ⟨rfl, rfl⟩)
        go_ret2
        exact retT_of _ HT.out.symm
      · rw [if_neg (fun h => h.elim hx hx2)] at hT
        have HT := Lib.hid hT
        clear hT
        have hxs : x < sumL l := by omega
        have T2 := Lib.hid t2
        clear t2 t3
        have hx0 : 0 ≤ x := by omega
        have hx1 : x ≤ 1125899906842624 := by omega
        go_enter Try.func31, Try.ntmps31
        go_wp2_with (go_at_call 29; refine (refTotal_val hs HR).mono ?_; rintro e w' ⟨rfl, rfl⟩)
        go_loop [8, 9] (fun y i => ∃ (k : Nat) (S : Int), k ≤ len ∧ i = .int .i64 k ∧ y = .int .i64 S ∧ 0 ≤ S ∧ S ≤ x ∧ Hid (x - S < sumL (l.drop k) ∧ pk l x = k + pk (l.drop k) (x - S))) (fun _ i => len - (intOf i).toNat)
        case atStart => exact ⟨0, 0, by omega, rfl, rfl, by omega, hx0, by simpa using hxs, by simp⟩
        case round =>
          obtain ⟨k, S, hk, rfl, rfl, X0, X1, hid⟩ := hrel
          obtain ⟨h1, h2⟩ := hid.out
          have hkl : k < len := by
            rcases Nat.lt_or_ge k len with h' | h'
            · exact h'
            · rw [List.drop_of_length_le (by rw [HC.out]; exact h')] at h1
              simp only [sumL] at h1
              omega
          rw [drop_cons l k (by rw [HC.out]; exact hkl)] at h1 h2
          have hgood := T2.out (l.getD k 0) (by
            have : l.getD k 0 = l[k]'(by rw [HC.out]; exact hkl) := by simp [List.getD, show k < l.length by rw [HC.out]; exact hkl]
            rw [this]; exact List.getElem_mem _)
          obtain ⟨b, off, e0, hcell⟩ := hs.at_ k hkl 0
          subst e0
          have hcell' : w.cell? ⟨b, off + k, none⟩ = some (.int .i64 (l.getD k 0)) := hcell
          clear hcell hid
          obtain ⟨g0, g1⟩ := hgood
          simp only [sumL] at h1
          generalize l.getD k 0 = wt at *
          have hkl' : (k : Int) < (len : Int) := by omega
          have hk0 : (0 : Int) ≤ (k : Int) := by omega
          by_cases hy : x - S < wt
          · rw [pk_hit hy] at h2
            have H2 := Lib.hid h2
            have hy' : x < S + wt := by omega
            clear h1 h2
            go_wp2
            go_ret2
            exact retT_of _ (by rw [← HT.out, H2.out]; rfl)
          · rw [pk_miss hy] at h2
            have hy' : ¬ x < S + wt := by omega
            have hid2 : Hid (x - (S + wt) < sumL (l.drop (k + 1)) ∧ pk l x = (k + 1) + pk (l.drop (k + 1)) (x - (S + wt))) := ⟨by omega, by rw [h2, show x - S - wt = x - (S + wt) from by omega]; omega⟩
            clear h1 h2
            go_wp2
            go_round
            case rel => exact ⟨k + 1, S + wt, by omega, by go_num, by go_num, by omega, by omega, hid2⟩
            case measure => simp [intOf]; omega
  · rw [if_pos he] at hT
    have HT := Lib.hid hT
    clear hT hr
    go_enter Try.func31, Try.ntmps31
    go_wp2_with (go_at_call 29; refine (refTotal_val hs HR).mono ?_; rintro e w' ⟨rfl, rfl⟩)
    go_ret2
    exact retT_of _ HT.out.symm
end Go.Proofs.Ytfhmhkpplcbiiaa
