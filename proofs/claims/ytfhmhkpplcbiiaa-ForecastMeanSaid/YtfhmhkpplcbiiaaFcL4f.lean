/-
  FORECAST, THE LAWS' WALKS: ForecastMean.
-/
import Derived.Test.YtfhmhkpplcbiiaaProg
import Derived.Test.YtfhmhkpplcbiiaaBase3
import Derived.Test.YtfhmhkpplcbiiaaBase5
import Derived.Test.YtfhmhkpplcbiiaaBase6
import Derived.Test.YtfhmhkpplcbiiaaBase7
import Derived.Test.YtfhmhkpplcbiiaaDrawP
import Derived.Test.YtfhmhkpplcbiiaaDraw4
import Derived.Test.YtfhmhkpplcbiiaaDraw5
import Derived.Test.YtfhmhkpplcbiiaaDrawL0
import Derived.Test.YtfhmhkpplcbiiaaFcP
import Derived.Test.YtfhmhkpplcbiiaaFc1
import Derived.Test.YtfhmhkpplcbiiaaFc2
import Derived.Test.YtfhmhkpplcbiiaaFc3
import Derived.Test.YtfhmhkpplcbiiaaFcP2
import Derived.Test.YtfhmhkpplcbiiaaFcP3
import Derived.Test.YtfhmhkpplcbiiaaFc7
import Derived.Test.YtfhmhkpplcbiiaaFc9
import Derived.Test.YtfhmhkpplcbiiaaFc10
import Derived.Test.YtfhmhkpplcbiiaaFc11
import Derived.Test.YtfhmhkpplcbiiaaFcL1
import Derived.Test.YtfhmhkpplcbiiaaHeld
import Derived.Test.YtfhmhkpplcbiiaaFcL4
import Derived.Test.YtfhmhkpplcbiiaaFcL4a
import Derived.Test.YtfhmhkpplcbiiaaFcL4b
import Derived.Test.YtfhmhkpplcbiiaaFcL4c
import Derived.Test.YtfhmhkpplcbiiaaFcL4d
import Derived.Test.YtfhmhkpplcbiiaaFcL4e
import Derived.BigQuiet
import Derived.Laws.StructEq
import Derived.StillTailTactics
import Derived.RegionTactic
import Derived.BigRegion
import Derived.Deep.DeepCutAuto
import Derived.Deep.QuietTactic
import Derived.WalkSpells
import Derived.WalkLawsBesides
namespace Go.Proofs.Ytfhmhkpplcbiiaa
open Go.RowKit
set_option linter.unusedVariables false

set_option maxRecDepth 100000 in
set_option maxHeartbeats 4000000 in
theorem forecastMean_walk (st k p s sl h part : Int) (xs ys : List Int) (ws : List (BitVec 64)) (a1 : Option Addr) (l1 c1 : Nat) (a2 : Option Addr) (l2 c2 : Nat) (ao : Option Addr) (len cap : Nat) (w : World) (h1 : Sl w 1 a1 l1 c1 (cs i64v xs)) (h2 : Sl w 1 a2 l2 c2 (cs i64v ys)) (hs : Sl w 1 ao len cap (cs u64 ws)) :
    Calls Try.prog 15 #[.agg #[.int .i64 st, .slice a1 l1 c1, .slice a2 l2 c2], .agg #[.int .i64 k, .int .i64 p, .int .i64 s, .int .i64 sl, .int .i64 h, .int .i64 part], .slice ao len cap] w (RetB (.bool true) w) := by
  have H1 := Lib.hid h1
  have H2 := Lib.hid h2
  have HS := Lib.hid hs
  obtain ⟨⟨o, i, e⟩, hx⟩ : ∃ r, expc st xs ys k p s sl h = r := ⟨_, rfl⟩
  obtain ⟨⟨L, f⟩, hr⟩ : ∃ r, caseF (expc st xs ys k p s sl h) ws = r := ⟨_, rfl⟩
  have HL := caseF_len hr
  have HX := Lib.hid hx
  have HR := Lib.hid hr
  rw [hx] at hr
  obtain ⟨b, hf⟩ : ∃ b, fewB l1 l2 = b := ⟨_, rfl⟩
  have HF := Lib.hid hf
  generalize hLn : L.length = m at HL
  have HLn := Lib.hid hLn
  clear h1 h2 hf hs hLn
  by_cases hbig : (400 : Int) < (len : Int)
  · clear hr hx
    cases b with
    | false =>
      go_enter Try.func15, Try.ntmps15
      go_wp2_with fail
      go_cut [7, 8] (fun t i wx => ∃ X, t = .pointer (some ⟨X, 0, none⟩) ∧ i = .int .i64 part ∧ Hid (MeanW w X st a1 l1 c1 a2 l2 c2 k p s sl h wx))
      case first =>
        go_region
        all_goals
          go_wp2_with fail
          go_meet
          refine ⟨_, rfl, rfl, ⟨?_, ?_, ?_, by omega⟩⟩
          all_goals first
            | exact below_drew (below_step (below_step (below_alloc _ _) (below_alloc _ _)) (below_alloc _ _))
            | (repeat (first | ((with_reducible refine blkNew ?_); focus (simp; done)) | (with_reducible refine blkDrew ?_) | (with_reducible refine blkOld ?_)))
      case rest =>
        obtain ⟨X, rfl, rfl, HQ⟩ := hcut
        obtain ⟨W0, hW0⟩ : ∃ W, W = wc := ⟨_, rfl⟩
        subst hW0
        obtain ⟨d0, d1, d2, d3, d4, d5, d6, d7⟩ := HQ.out.cells
        go_wp2_with fail
        refine (few_s _ _ _ _ _ _ _ _ HF).mono ?_
        rintro er w1 ⟨rfl, hb1⟩
        have HQ1 := Lib.hid (HQ.out.step hb1)
        clear hb1 d0 d1 d2 d3 d4 d5 d6 d7
        go_wp2_with fail
        refine (awake40_any _).mono ?_
        rintro er w2 ⟨rfl, hb2⟩
        have HQ2 := Lib.hid (HQ1.out.step hb2)
        clear hb2
        go_wp2
        go_ret
        exact ⟨rfl, HQ2.out.b⟩
    | true =>
      go_enter Try.func15, Try.ntmps15
      go_wp2_with fail
      go_cut [7, 8] (fun t i wx => ∃ X, t = .pointer (some ⟨X, 0, none⟩) ∧ i = .int .i64 part ∧ Hid (MeanW w X st a1 l1 c1 a2 l2 c2 k p s sl h wx))
      case first =>
        go_region
        all_goals
          go_wp2_with fail
          go_meet
          refine ⟨_, rfl, rfl, ⟨?_, ?_, ?_, by omega⟩⟩
          all_goals first
            | exact below_drew (below_step (below_step (below_alloc _ _) (below_alloc _ _)) (below_alloc _ _))
            | (repeat (first | ((with_reducible refine blkNew ?_); focus (simp; done)) | (with_reducible refine blkDrew ?_) | (with_reducible refine blkOld ?_)))
      case rest =>
        obtain ⟨X, rfl, rfl, HQ⟩ := hcut
        obtain ⟨W0, hW0⟩ : ∃ W, W = wc := ⟨_, rfl⟩
        subst hW0
        obtain ⟨d0, d1, d2, d3, d4, d5, d6, d7⟩ := HQ.out.cells
        go_wp2_with fail
        refine (few_s _ _ _ _ _ _ _ _ HF).mono ?_
        rintro er w1 ⟨rfl, hb1⟩
        have HQ1 := Lib.hid (HQ.out.step hb1)
        clear hb1 d0 d1 d2 d3 d4 d5 d6 d7
        go_wp2_with fail
        refine (awake40_any _).mono ?_
        rintro er w2 ⟨rfl, hb2⟩
        have HQ2 := Lib.hid (HQ1.out.step hb2)
        clear hb2
        go_wp2
        go_ret
        exact ⟨rfl, HQ2.out.b⟩
  · have hlen4 : len ≤ 400 := by omega
    cases b with
    | false =>
      clear hr hx
      go_enter Try.func15, Try.ntmps15
      go_wp2_with fail
      go_cut [7, 8] (fun t i wx => ∃ X, t = .pointer (some ⟨X, 0, none⟩) ∧ i = .int .i64 part ∧ Hid (MeanW w X st a1 l1 c1 a2 l2 c2 k p s sl h wx))
      case first =>
        go_region
        all_goals
          go_wp2_with fail
          go_meet
          refine ⟨_, rfl, rfl, ⟨?_, ?_, ?_, by omega⟩⟩
          all_goals first
            | exact below_drew (below_step (below_step (below_alloc _ _) (below_alloc _ _)) (below_alloc _ _))
            | (repeat (first | ((with_reducible refine blkNew ?_); focus (simp; done)) | (with_reducible refine blkDrew ?_) | (with_reducible refine blkOld ?_)))
      case rest =>
        obtain ⟨X, rfl, rfl, HQ⟩ := hcut
        obtain ⟨W0, hW0⟩ : ∃ W, W = wc := ⟨_, rfl⟩
        subst hW0
        obtain ⟨d0, d1, d2, d3, d4, d5, d6, d7⟩ := HQ.out.cells
        go_wp2_with fail
        refine (few_s _ _ _ _ _ _ _ _ HF).mono ?_
        rintro er w1 ⟨rfl, hb1⟩
        have HQ1 := Lib.hid (HQ.out.step hb1)
        clear hb1 d0 d1 d2 d3 d4 d5 d6 d7
        go_wp2_with fail
        refine (awake40_any _).mono ?_
        rintro er w2 ⟨rfl, hb2⟩
        have HQ2 := Lib.hid (HQ1.out.step hb2)
        clear hb2
        go_wp2
        go_ret
        exact ⟨rfl, HQ2.out.b⟩
    | true =>
      by_cases he : e = 0
      · subst he
        obtain ⟨⟨o0, o1⟩, i0, i1⟩ := expc_bounds hx
        have hkk := (expc_ok hx).2.2.1
        have hsl0 : 0 ≤ sl := by omega
        have hsl1 : sl < 168 := by omega
        have hh0 : 0 ≤ h := by omega
        have hh1 : h ≤ 168 := by omega
        by_cases hhz : h = 0
        · subst hhz
          obtain ⟨rfl, rfl⟩ := expc_none hx
          have hf4 : f = 0 ∨ (¬ f = 0 ∧ f = 4) := by
            by_cases h0 : f = 0
            · exact .inl h0
            · refine .inr ⟨h0, ?_⟩
              have := (caseF_err (Int.le_refl 0) (Int.le_refl 0) hr h0).2.2 rfl
              omega
          by_cases hp1 : part < 0
          · rcases hf4 with rfl | ⟨hfz, hf4⟩
            · exact mean0_neg_ok st k p s sl part xs ys ws L m a1 l1 c1 a2 l2 c2 ao len cap w H1 H2 HS HF HLn HL hlen4 HX HR hr hsl0 hsl1 hp1
            · exact mean0_neg_e4 st k p s sl part xs ys ws L f m a1 l1 c1 a2 l2 c2 ao len cap w H1 H2 HS HF HLn HL hlen4 HX HR hr hsl0 hsl1 hp1 hfz hf4
          · by_cases hp2 : 0 < part
            · rcases hf4 with rfl | ⟨hfz, hf4⟩
              · exact mean0_big_ok st k p s sl part xs ys ws L m a1 l1 c1 a2 l2 c2 ao len cap w H1 H2 HS HF HLn HL hlen4 HX HR hr hsl0 hsl1 hp1 hp2
              · exact mean0_big_e4 st k p s sl part xs ys ws L f m a1 l1 c1 a2 l2 c2 ao len cap w H1 H2 HS HF HLn HL hlen4 HX HR hr hsl0 hsl1 hp1 hp2 hfz hf4
            · obtain rfl : part = 0 := by omega
              rcases hf4 with rfl | ⟨hfz, hf4⟩
              · exact mean0_in_ok st k p s sl xs ys ws L m a1 l1 c1 a2 l2 c2 ao len cap w H1 H2 HS HF HLn HL hlen4 HX HR hr hsl0 hsl1
              · exact mean0_in_e4 st k p s sl xs ys ws L f m a1 l1 c1 a2 l2 c2 ao len cap w H1 H2 HS HF HLn HL hlen4 HX HR hr hsl0 hsl1 hfz hf4
        · have hf3 : f = 0 ∨ (¬ f = 0 ∧ f = 4) ∨ (¬ f = 0 ∧ f = 8 ∧ 63000 < o + i) := by
            by_cases h0 : f = 0
            · exact .inl h0
            · have := (caseF_err o0 i0 hr h0).2.2 rfl
              omega
          by_cases hp1 : part < 0
          · rcases hf3 with rfl | ⟨hfz, hf4⟩ | ⟨hfz, hf8, hbg⟩
            · exact mean_neg_ok st k p s sl h part o i xs ys ws L m a1 l1 c1 a2 l2 c2 ao len cap w H1 H2 HS HF HLn HL hlen4 HX HR hr o0 o1 i0 i1 hsl0 hsl1 hh0 hh1 hhz hp1
            · exact mean_neg_e4 st k p s sl h part o i xs ys ws L f m a1 l1 c1 a2 l2 c2 ao len cap w H1 H2 HS HF HLn HL hlen4 HX HR hr o0 o1 i0 i1 hsl0 hsl1 hh0 hh1 hhz hp1 hfz hf4
            · exact mean_neg_e8 st k p s sl h part o i xs ys ws L f m a1 l1 c1 a2 l2 c2 ao len cap w H1 H2 HS HF HLn HL hlen4 HX HR hr o0 o1 i0 i1 hsl0 hsl1 hh0 hh1 hhz hp1 hfz hf8 hbg
          · by_cases hp2 : h < part
            · rcases hf3 with rfl | ⟨hfz, hf4⟩ | ⟨hfz, hf8, hbg⟩
              · exact mean_big_ok st k p s sl h part o i xs ys ws L m a1 l1 c1 a2 l2 c2 ao len cap w H1 H2 HS HF HLn HL hlen4 HX HR hr o0 o1 i0 i1 hsl0 hsl1 hh0 hh1 hhz hp1 hp2
              · exact mean_big_e4 st k p s sl h part o i xs ys ws L f m a1 l1 c1 a2 l2 c2 ao len cap w H1 H2 HS HF HLn HL hlen4 HX HR hr o0 o1 i0 i1 hsl0 hsl1 hh0 hh1 hhz hp1 hp2 hfz hf4
              · exact mean_big_e8 st k p s sl h part o i xs ys ws L f m a1 l1 c1 a2 l2 c2 ao len cap w H1 H2 HS HF HLn HL hlen4 HX HR hr o0 o1 i0 i1 hsl0 hsl1 hh0 hh1 hhz hp1 hp2 hfz hf8 hbg
            · have hp1' : 0 ≤ part := by omega
              have hp2' : part ≤ h := by omega
              rcases hf3 with rfl | ⟨hfz, hf4⟩ | ⟨hfz, hf8, hbg⟩
              · exact mean_in_ok st k p s sl h part o i xs ys ws L m a1 l1 c1 a2 l2 c2 ao len cap w H1 H2 HS HF HLn HL hlen4 HX HR hr o0 o1 i0 i1 hsl0 hsl1 hh0 hh1 hhz hp1' hp2'
              · exact mean_in_e4 st k p s sl h part o i xs ys ws L f m a1 l1 c1 a2 l2 c2 ao len cap w H1 H2 HS HF HLn HL hlen4 HX HR hr o0 o1 i0 i1 hsl0 hsl1 hh0 hh1 hhz hp1' hp2' hfz hf4
              · exact mean_in_e8 st k p s sl h part o i xs ys ws L f m a1 l1 c1 a2 l2 c2 ao len cap w H1 H2 HS HF HLn HL hlen4 HX HR hr o0 o1 i0 i1 hsl0 hsl1 hh0 hh1 hhz hp1' hp2' hfz hf8 hbg
      · obtain ⟨rfl, rfl, _⟩ := expc_err hx he
        rw [caseF_e he] at hr
        obtain ⟨rfl, rfl⟩ : L = [] ∧ f = e := by cases hr; exact ⟨rfl, rfl⟩
        obtain rfl : m = 0 := HLn.out.symm
        clear hr hx
        go_enter Try.func15, Try.ntmps15
        go_wp2_with fail
        go_cut [7, 8] (fun t i wx => ∃ X, t = .pointer (some ⟨X, 0, none⟩) ∧ i = .int .i64 part ∧ Hid (MeanW w X st a1 l1 c1 a2 l2 c2 k p s sl h wx))
        case first =>
          go_region
          all_goals
            go_wp2_with fail
            go_meet
            refine ⟨_, rfl, rfl, ⟨?_, ?_, ?_, by omega⟩⟩
            all_goals first
              | exact below_drew (below_step (below_step (below_alloc _ _) (below_alloc _ _)) (below_alloc _ _))
              | (repeat (first | ((with_reducible refine blkNew ?_); focus (simp; done)) | (with_reducible refine blkDrew ?_) | (with_reducible refine blkOld ?_)))
        case rest =>
          obtain ⟨X, rfl, rfl, HQ⟩ := hcut
          obtain ⟨W0, hW0⟩ : ∃ W, W = wc := ⟨_, rfl⟩
          subst hW0
          obtain ⟨d0, d1, d2, d3, d4, d5, d6, d7⟩ := HQ.out.cells
          go_wp2_with fail
          refine (few_s _ _ _ _ _ _ _ _ HF).mono ?_
          rintro er w1 ⟨rfl, hb1⟩
          have HQ1 := Lib.hid (HQ.out.step hb1)
          clear hb1 d0 d1 d2 d3 d4 d5 d6 d7
          obtain ⟨d0, d1, d2, d3, d4, d5, d6, d7⟩ := HQ1.out.cells
          go_wp2_with fail
          refine (expd_s HX H1 H2 HQ1.out.b).mono ?_
          rintro er w2 ⟨rfl, hb2⟩
          have HQ2 := Lib.hid (HQ1.out.step hb2)
          clear hb2 d0 d1 d2 d3 d4 d5 d6 d7
          obtain ⟨d0, d1, d2, d3, d4, d5, d6, d7⟩ := HQ2.out.cells
          go_wp2_with fail
          refine (scen_m HR HLn H1 H2 HS (by omega) HQ2.out.b).mono ?_
          rintro er w3 ⟨r1, q1, rfl, S1, hb3⟩
          have HQ3 := Lib.hid (HQ2.out.step hb3)
          clear hb3 d0 d1 d2 d3 d4 d5 d6 d7
          go_wp2_with fail
          refine (awake40_any _).mono ?_
          rintro er w4 ⟨rfl, hb4⟩
          have HQ4 := Lib.hid (HQ3.out.step hb4)
          clear hb4
          go_wp2
          go_ret
          exact ⟨rfl, HQ4.out.b⟩

end Go.Proofs.Ytfhmhkpplcbiiaa
