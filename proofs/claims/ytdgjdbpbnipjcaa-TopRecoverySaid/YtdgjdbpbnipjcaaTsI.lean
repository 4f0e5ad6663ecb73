/-
  TOP: TopRecovery: a whole journal; the new event has no frame. (Printed by gen_tsc.py.)
-/
import Derived.Test.YtdgjdbpbnipjcaaTsC
import Derived.Deep.RegionHeld3
import Derived.BigQuiet
import Derived.BigRegion
import Derived.Laws.StructEq
import Derived.StillTailTactics
import Derived.RegionTactic
import Derived.Deep.DeepCutAuto
import Derived.Deep.QuietTactic
import Derived.WalkSpells
import Derived.WalkLawsBesides
import Derived.Test.YtdgjdbpbnipjcaaTsD
import Derived.Test.YtdgjdbpbnipjcaaTsE
import Derived.Test.YtdgjdbpbnipjcaaTsF
import Derived.Test.YtdgjdbpbnipjcaaTsG
namespace Go.Proofs.Ytdgjdbpbnipjcaa
open Go.RowKit Go.Maps
set_option linter.unusedVariables false

set_option maxRecDepth 100000 in
set_option maxHeartbeats 10000000 in
theorem rec_all_no (fl : FlL) (ao : Option Addr) (len cap : Nat) (l : List EvL) (cut : Int) (x : EvL) (w : World) (hl : l.length = len) (hs : Sl w 9 ao len cap (flatV evA l)) (hfm : FlM w fl) (hf : fewB fl len = true) (h30 : len ≤ 30) (hfr : l.all framedB = true) (wh ct : Nat) (hcut : cut = (ct : Int)) (hw : wh ≤ len) (hO : offE l wh ≤ ct) (hcN : ct ≤ (jb l).length) (hwe : wh = len) (hce : (jb l).length = ct) (hm : framedB x = false) :
    Calls Try.prog 3 #[.agg (flA fl), .slice ao len cap, .int .i64 cut, .agg (evA x)] w (RetB (.bool true) w) := by
  subst hcut
  have hdt : fl.dn ≤ 100 ∧ fl.tn ≤ 100 := by have h := hf; simp [fewB] at h; omega
  have hwl : (l.take wh).length = wh := by rw [List.length_take]; omega
  have hjr := jr_cut l hfr ct wh (by omega) hO hcN (.inl (by omega))
  have hNB : (jb l).length ≤ 3120 := by have := jb_len l; omega
  have HRD := Lib.hid (fun (a : Option Addr) (c : Nat) (W : World) (h : Sl W 1 a ct c (cs b8 ((jb l).take ct))) => read_any ((jb l).take ct) (l.take wh) (offE l) hjr (by omega) a ct c W h (by omega))
  have HRP := Lib.hid (fun (a : Option Addr) (c : Nat) (W : World) (h : Sl W 1 a ct c (cs b8 ((jb l).take ct))) => repair_any ((jb l).take ct) (l.take wh) (offE l) hjr (by omega) a ct c W h (by omega) (by rw [hwl]; exact hO))
  rw [hwl] at HRD HRP
  have HSP := Lib.hid (fun (a : Option Addr) (c : Nat) (W : World) (h : Sl W 9 a wh c (flatV evA (l.take wh))) (hf : FlM W fl) => spots_any fl (l.take wh) (framed_all_evR (framed_take hfr wh)) a wh c W h hwl (by omega) hf hdt.1 hdt.2)
  have HSL := Lib.hid (spotsL_len fl (l.take wh) (framed_all_evR (framed_take hfr wh)))
  have HCT := Lib.hid (cut_take l ct wh hO (by omega))
  have HWL := Lib.hid hwl
  have hO' := hO
  have HAP := Lib.hid (fun (v : Value) (W : World) => append_no x hm v W)
  obtain ⟨O, hOe⟩ : ∃ O, offE l wh = O := ⟨_, rfl⟩
  rw [hOe] at HRD HRP hO HCT 
  obtain ⟨FE, hFE⟩ : ∃ FE, fleetE fl = FE := ⟨_, rfl⟩
  obtain ⟨sp, hsp⟩ : ∃ sp, spotsL fl (l.take wh) = sp := ⟨_, rfl⟩
  rw [hFE, hsp] at HSP
  rw [hsp] at HSL
  have HFR := Lib.hid hfr
  clear hjr hwl hO' hOe hFE hsp hdt
  have HR : Hid (RecW w fl ao len cap l (evA x) ((w.alloc (.cells (flA fl) 24)).alloc (.cells (evA x) 27))) := Lib.hid ⟨twoW_new w (flA fl) (evA x) 24 27, (hs.ext (below_alloc _ _)).ext (below_alloc _ _), (hfm.below (below_alloc _ _)).below (below_alloc _ _)⟩
  have HFW := Lib.hid (fun W => few_evs fl ao len cap W)
  have hfa : flA fl = #[.int .i64 fl.b, .int .i64 fl.r, .int .i64 fl.v, .slice fl.da fl.dn fl.dc, .slice fl.ta fl.tn fl.tc] := rfl
  rw [hfa] at HFW HSP ⊢
  have HFA := Lib.hid hfa
  have HL := Lib.hid hl
  obtain ⟨m0, m1, m2, m3, m4, m5, m6, m7, m8⟩ := x
  have HMX := Lib.hid hm
  clear hm
  have HEX : Hid (evA ⟨m0, m1, m2, m3, m4, m5, m6, m7, m8⟩ = #[.int .i64 m0, .int .i64 m1, .int .i64 m2, .int .i64 m3, .int .i64 m4, .int .i64 m5, .int .i64 m6, .int .i64 m7, .int .i64 m8]) := Lib.hid rfl
  have hex := HEX.out
  rw [hex] at HR HAP ⊢
  clear hex
  clear hs hfm hl
  go_enter Try.func3, Try.ntmps3
  go_upto_region 1 with (fail)
  rw [hfa] at HR
  clear hfa
  generalize (w.alloc (.cells #[.int .i64 fl.b, .int .i64 fl.r, .int .i64 fl.v, .slice fl.da fl.dn fl.dc, .slice fl.ta fl.tn fl.tc] 24)).alloc (.cells #[.int .i64 m0, .int .i64 m1, .int .i64 m2, .int .i64 m3, .int .i64 m4, .int .i64 m5, .int .i64 m6, .int .i64 m7, .int .i64 m8] 27) = W1 at *
  obtain ⟨c0, c1, c2, c3, c4⟩ := five_cells HR.out.t.f
  go_wp2_with fail
  refine (HFW.out _).mono ?_
  rintro e w2 ⟨rfl, hb⟩
  have HR2 := Lib.hid (HR.out.ext hb)
  clear hb c0 c1 c2 c3 c4 HFW HR
  rw [hf]
  have hf2 : ¬ (30 : Int) < (len : Int) := by omega
  go_wp2_with fail
  refine (show Calls Try.prog 6 #[.slice ao len cap] w2 (RetOwnE w2 5 (jb l).length (cs b8 (jb l)) 0) from by rw [← wrRet_ok HFR.out]; exact write_any l ao len cap w2 HR2.out.l HL.out (by omega)).mono ?_
  rintro e w3 ⟨v, rfl, ho, hb⟩
  obtain ⟨a9, c9, rfl, hs9⟩ := sl_of_own ho
  have HR3 := Lib.hid (HR2.out.ext hb)
  have HB3 := Lib.hid hs9
  clear hb ho hs9 HR2
  have HNN : Hid ((jb l).length = (jb l).length) := Lib.hid rfl
  obtain ⟨N, hN⟩ : ∃ N, (jb l).length = N := ⟨_, rfl⟩
  rw [hN] at HB3 hcN hNB hce ⊢
  clear hN HNN hfr
  subst hce
  subst hwe
  have hc0 : ¬ (N : Int) < 0 := by omega
  obtain ⟨a10, hr10, hs10⟩ := slice_to (P := Try.prog) 30 5 Try.underlying30 Try.sizeU8 HB3.out N (by omega)
  have HS10 := Lib.hid hs10
  have HR10 := Lib.hid hr10
  clear hs10
  go_wp2_with fail
  refine (HRD.out _ _ _ HS10.out).mono ?_
  rintro e w4 ⟨v, rfl, ho, hb⟩
  rw [HWL.out] at ho
  obtain ⟨a11, c11, rfl, hs11⟩ := sl_of_own ho
  have HR4 := Lib.hid (HR3.out.ext hb)
  have HB4 := Lib.hid (HS10.out.ext hb)
  have HX4 := Lib.hid hs11
  clear hb ho hs11 HR3 HB3 HS10 HRD hr10
  have hO1 : ¬ (N : Int) < (O : Int) := by omega
  obtain ⟨hr12, hs12⟩ := slE_take HR4.out.l wh (by omega)
  have HS12 := Lib.hid hs12
  have HR12 := Lib.hid hr12
  clear hs12
  go_wp2_with fail
  refine (sameEv_any (l.take wh) (l.take wh) _ _ _ _ _ _ w4 HX4.out HS12.out HWL.out HWL.out (by omega)).mono ?_
  rintro e w5 ⟨rfl, hb⟩
  rw [show decide (l.take wh = l.take wh) = true by simp]
  have HR5 := Lib.hid (HR4.out.ext hb)
  have HB5 := Lib.hid (HB4.out.ext hb)
  have HX5 := Lib.hid (HX4.out.ext hb)
  clear hb HR4 HB4 HX4 HS12 hr12
  obtain ⟨c0, c1, c2, c3, c4⟩ := five_cells HR5.out.t.f
  go_wp2_with fail
  refine (HSP.out _ _ _ HX5.out HR5.out.f).mono ?_
  rintro e w6 ⟨v, rfl, ho, hb⟩
  obtain ⟨a13, c13, rfl, hs13⟩ := sl_of_own ho
  have HR6 := Lib.hid (HR5.out.ext hb)
  have HB6 := Lib.hid (HB5.out.ext hb)
  have HX6 := Lib.hid (HX5.out.ext hb)
  have HP6 := Lib.hid hs13
  clear hb ho hs13 HR5 HB5 HX5 c0 c1 c2 c3 c4
  obtain ⟨c0, c1, c2, c3, c4⟩ := five_cells HR6.out.t.f
  have hr12 := HR12.out
  have hall : Hid (RecW w fl ao wh cap l #[.int .i64 m0, .int .i64 m1, .int .i64 m2, .int .i64 m3, .int .i64 m4, .int .i64 m5, .int .i64 m6, .int .i64 m7, .int .i64 m8] w6 ∧ Sl w6 1 a10 N c9 (cs b8 ((jb l).take N)) ∧ Sl w6 9 a11 wh c11 (flatV evA (l.take wh)) ∧ Sl w6 4 a13 sp.length c13 (flatV spA sp)) := Lib.hid ⟨HR6.out, HB6.out, HX6.out, HP6.out⟩
  go_upto_region 12 with (fail)
  go_region_held3 (fun w9 => w9.cell? ⟨w.heap.size, 0, none⟩ = some (.int .i64 fl.b) ∧ w9.cell? ⟨w.heap.size, 1, none⟩ = some (.int .i64 fl.r) ∧ w9.cell? ⟨w.heap.size, 2, none⟩ = some (.int .i64 fl.v) ∧ w9.cell? ⟨w.heap.size, 3, none⟩ = some (.slice fl.da fl.dn fl.dc) ∧ w9.cell? ⟨w.heap.size, 4, none⟩ = some (.slice fl.ta fl.tn fl.tc) ∧ Hid (RecW w fl ao wh cap l #[.int .i64 m0, .int .i64 m1, .int .i64 m2, .int .i64 m3, .int .i64 m4, .int .i64 m5, .int .i64 m6, .int .i64 m7, .int .i64 m8] w9 ∧ Sl w9 1 a10 N c9 (cs b8 ((jb l).take N)) ∧ Sl w9 9 a11 wh c11 (flatV evA (l.take wh)) ∧ Sl w9 4 a13 sp.length c13 (flatV spA sp)))
    (repeat (with_reducible first | assumption | exact ⟨c0, c1, c2, c3, c4, hall⟩ | refine keepR (below_drew (Below.refl _ _)) ?_ | (apply keepR; focus assumption)))
    (first
      | (go_at_call 9; (with_reducible refine (HSP.out _ _ _ ?_ ?_).mono ?_); (focus (exact (slE_take (HR6.out.ext (below_drew (Below.refl _ _))).l wh (by omega)).2)); (focus (exact (HR6.out.ext (below_drew (Below.refl _ _))).f)); rintro e' w7 ⟨v15, rfl, ho15, hb15⟩; obtain ⟨a15, c15, e15, hs15⟩ := sl_of_own ho15; subst e15; have HP7 := Lib.hid hs15; clear ho15 hs15))
  all_goals
    have hal7 : Hid (RecW w fl ao wh cap l #[.int .i64 m0, .int .i64 m1, .int .i64 m2, .int .i64 m3, .int .i64 m4, .int .i64 m5, .int .i64 m6, .int .i64 m7, .int .i64 m8] w7 ∧ Sl w7 1 a10 N c9 (cs b8 ((jb l).take N)) ∧ Sl w7 9 a11 wh c11 (flatV evA (l.take wh)) ∧ Sl w7 4 a13 sp.length c13 (flatV spA sp)) := (by go_split_ands; assumption)
    have HR7 := Lib.hid hal7.out.1
    have HB7 := Lib.hid hal7.out.2.1
    have HX7 := Lib.hid hal7.out.2.2.1
    have HS7 := Lib.hid hal7.out.2.2.2
    have HSL' := HSL.out
    clear hal7 hall HR6 HB6 HX6 HP6 hb15 hr12 c0 c1 c2 c3 c4 HSP
    go_wp2_with fail
    refine (sameSp_any sp sp _ _ _ _ _ _ w7 HS7.out HP7.out rfl rfl (by omega)).mono ?_
    rintro e' w8 ⟨rfl, hb⟩
    rw [show decide (sp = sp) = true by simp]
    have HR8 := Lib.hid (HR7.out.ext hb)
    have HB8 := Lib.hid (HB7.out.ext hb)
    have HX8 := Lib.hid (HX7.out.ext hb)
    clear hb HR7 HB7 HX7 HS7 HP7
    have HR9 := HR8
    have HB9 := HB8
    have HX9 := HX8
    have hw9 : True := trivial
    obtain ⟨w9, hw9⟩ : ∃ w9, w9 = w8 := ⟨_, rfl⟩
    subst hw9
    clear HR8 HB8 HX8
    have hr10 := HR10.out
    obtain ⟨ls, hls⟩ : ∃ ls, N - O = ls := ⟨_, rfl⟩
    rw [hls] at HRP
    have hsub : (N : Int) - (O : Int) = (ls : Int) := by omega
    clear hls
    go_wp2_with fail
    refine (HRP.out _ _ _ HB9.out).mono ?_
    rintro e' w10 ⟨v, rfl, ho, hb⟩
    obtain ⟨a19, c19, rfl, hs19⟩ := sl_of_own ho
    have HR11 := Lib.hid (HR9.out.ext hb)
    have HX11 := Lib.hid (HX9.out.ext hb)
    have HC11 := Lib.hid hs19
    clear hb ho hs19 HR9 HB9 HX9 HRP hr10
    obtain ⟨e0, e1, e2, e3, e4, e5, e6, e7, e8⟩ := nine_cellsE HR11.out.t.e
    go_wp2_with fail
    refine (HAP.out _ _).mono ?_
    rintro e' w12 ⟨rfl, hb⟩
    have HR13 := Lib.hid (HR11.out.ext hb)
    clear hb HR11 HX11 HC11 HAP hsub e0 e1 e2 e3 e4 e5 e6 e7 e8
    go_wp2_with fail
    refine (jawake_any _).mono ?_
    rintro e' wz ⟨rfl, hb⟩
    have HZ := Lib.hid (below_step HR13.out.t.bel hb)
    clear hb
    go_wp2_with fail
    go_ret
    exact ⟨rfl, HZ.out⟩
end Go.Proofs.Ytdgjdbpbnipjcaa

namespace Go.Proofs.Ytdgjdbpbnipjcaa
open Go.RowKit
set_option linter.unusedVariables false

theorem topRecovery_walk (fl : FlL) (ao : Option Addr) (len cap : Nat) (l : List EvL) (cut : Int) (x : EvL) (w : World) (hl : l.length = len) (hs : Sl w 9 ao len cap (flatV evA l)) (hfm : FlM w fl) :
    Calls Try.prog 3 #[.agg (flA fl), .slice ao len cap, .int .i64 cut, .agg (evA x)] w (RetB (.bool true) w) := by
  by_cases hf : fewB fl len = true
  · by_cases h30 : len ≤ 30
    · by_cases hfr : l.all framedB = true
      · by_cases hc : cut < 0 ∨ ((jb l).length : Int) < cut
        · exact rec_cut fl ao len cap l cut x w hl hs hfm hf h30 hfr hc
        · obtain ⟨ct, hct⟩ : ∃ ct : Nat, cut = (ct : Int) := ⟨cut.toNat, by omega⟩
          have hcN : ct ≤ (jb l).length := by omega
          obtain ⟨wh, hw, hO, hn⟩ := whole_ex l ct
          by_cases hwl : wh < l.length
          · have hnx : ct < offE l (wh + 1) := by
              rcases hn with h | h
              · omega
              · exact h
            cases hm : framedB x with
            | true => exact rec_less_yes fl ao len cap l cut x w hl hs hfm hf h30 hfr wh ct hct (by omega) hO hcN (by omega) hnx hm
            | false => exact rec_less_no fl ao len cap l cut x w hl hs hfm hf h30 hfr wh ct hct (by omega) hO hcN (by omega) hnx hm
          · have hwe : wh = len := by omega
            have hce : (jb l).length = ct := by
              have h := offE_all l
              rw [show l.length = wh by omega] at h
              omega
            cases hm : framedB x with
            | true => exact rec_all_yes fl ao len cap l cut x w hl hs hfm hf h30 hfr wh ct hct (by omega) hO hcN hwe hce hm
            | false => exact rec_all_no fl ao len cap l cut x w hl hs hfm hf h30 hfr wh ct hct (by omega) hO hcN hwe hce hm
      · exact rec_unframed fl ao len cap l cut x w hl hs hfm hf h30 hfr
    · exact rec_few fl ao len cap l cut x w hl hs hfm (.inr (by omega))
  · exact rec_few fl ao len cap l cut x w hl hs hfm (.inl (by simpa using hf))
end Go.Proofs.Ytdgjdbpbnipjcaa
