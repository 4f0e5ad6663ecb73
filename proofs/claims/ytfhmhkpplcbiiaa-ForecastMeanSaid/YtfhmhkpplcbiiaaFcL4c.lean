/-
  FORECAST, THE LAWS' WALKS: ForecastMean.
-/
import Derived.Test.YtfhmhkpplcbiiaaProg
import Derived.Test.YtfhmhkpplcbiiaaBase3
import Derived.Test.YtfhmhkpplcbiiaaBase5
import Derived.Test.YtfhmhkpplcbiiaaBase6
import Derived.Test.YtfhmhkpplcbiiaaBase7
import Derived.Test.YtfhmhkpplcbiiaaDrawP
import Derived.Test.YtfhmhkpplcbiiaaDraw4
import Derived.Test.YtfhmhkpplcbiiaaDraw5
import Derived.Test.YtfhmhkpplcbiiaaDrawL0
import Derived.Test.YtfhmhkpplcbiiaaFcP
import Derived.Test.YtfhmhkpplcbiiaaFc1
import Derived.Test.YtfhmhkpplcbiiaaFc2
import Derived.Test.YtfhmhkpplcbiiaaFc3
import Derived.Test.YtfhmhkpplcbiiaaFcP2
import Derived.Test.YtfhmhkpplcbiiaaFcP3
import Derived.Test.YtfhmhkpplcbiiaaFc7
import Derived.Test.YtfhmhkpplcbiiaaFc9
import Derived.Test.YtfhmhkpplcbiiaaFc10
import Derived.Test.YtfhmhkpplcbiiaaFc11
import Derived.Test.YtfhmhkpplcbiiaaFcL1
import Derived.Test.YtfhmhkpplcbiiaaHeld
import Derived.Test.YtfhmhkpplcbiiaaFcL4
import Derived.BigQuiet
import Derived.Laws.StructEq
import Derived.StillTailTactics
import Derived.RegionTactic
import Derived.BigRegion
import Derived.Deep.DeepCutAuto
import Derived.Deep.QuietTactic
import Derived.WalkSpells
import Derived.WalkLawsBesides
namespace Go.Proofs.Ytfhmhkpplcbiiaa
open Go.RowKit
set_option linter.unusedVariables false

set_option maxRecDepth 100000 in
set_option maxHeartbeats 8000000 in
theorem mean_neg_ok (st k p s sl h part o i : Int) (xs ys : List Int) (ws : List (BitVec 64)) (L : List Int) (m : Nat) (a1 : Option Addr) (l1 c1 : Nat) (a2 : Option Addr) (l2 c2 : Nat) (ao : Option Addr) (len cap : Nat) (w : World) (H1 : Hid (Sl w 1 a1 l1 c1 (cs i64v xs))) (H2 : Hid (Sl w 1 a2 l2 c2 (cs i64v ys))) (HS : Hid (Sl w 1 ao len cap (cs u64 ws))) (HF : Hid (fewB l1 l2 = true)) (HLn : Hid (L.length = m)) (HL : m ≤ 1000) (hlen4 : len ≤ 400) (HX : Hid (expc st xs ys k p s sl h = (o, i, 0))) (HR : Hid (caseF (expc st xs ys k p s sl h) ws = (L, 0))) (hr : caseF (o, i, 0) ws = (L, 0)) (o0 : 0 ≤ o) (o1 : o ≤ 200000000000) (i0 : 0 ≤ i) (i1 : i ≤ 200000000000) (hsl0 : 0 ≤ sl) (hsl1 : sl < 168) (hh0 : 0 ≤ h) (hh1 : h ≤ 168) (hhz : ¬ h = 0) (hp1 : part < 0) :
    Calls Try.prog 15 #[.agg #[.int .i64 st, .slice a1 l1 c1, .slice a2 l2 c2], .agg #[.int .i64 k, .int .i64 p, .int .i64 s, .int .i64 sl, .int .i64 h, .int .i64 part], .slice ao len cap] w (RetB (.bool true) w) := by
  obtain ⟨A, B, hc⟩ := caseF_ok o0 i0 hr
  obtain ⟨P, hP1, hP2, hP3⟩ := hc.st
  have hm : (m : Int) = A + B := by rw [← HLn.out, hP1, stepsL_len]; exact hP2
  have hmB : (m : Int) - A = B := by omega
  have HLS := Lib.hid hP1
  have HPA := Lib.hid hP3
  have q0 := hc.a0
  have q1' := hc.b0
  have q2 := hc.ab
  have q3 : o - 1000 < 1000 * A := by have := hc.o1; omega
  have q4 := hc.o2
  have q5 : i - 1000 < 1000 * B := by have := hc.i1; omega
  have q6 := hc.i2
  have q7 : (m : Int) ≤ 64 := by omega
  clear hc hP1 hP2 hP3 hr hm
  go_enter Try.func15, Try.ntmps15
  go_wp2_with fail
  go_cut [7, 8] (fun t i wx => ∃ X, t = .pointer (some ⟨X, 0, none⟩) ∧ i = .int .i64 part ∧ Hid (MeanW w X st a1 l1 c1 a2 l2 c2 k p s sl h wx))
  case first =>
    go_region
    all_goals
      go_wp2_with fail
      go_meet
      refine ⟨_, rfl, rfl, ⟨?_, ?_, ?_, by omega⟩⟩
      all_goals first
        | exact below_drew (below_step (below_step (below_alloc _ _) (below_alloc _ _)) (below_alloc _ _))
        | (repeat (first | ((with_reducible refine blkNew ?_); focus (simp; done)) | (with_reducible refine blkDrew ?_) | (with_reducible refine blkOld ?_)))
  case rest =>
    obtain ⟨X, rfl, rfl, HQ⟩ := hcut
    obtain ⟨W0, hW0⟩ : ∃ W, W = wc := ⟨_, rfl⟩
    subst hW0
    obtain ⟨d0, d1, d2, d3, d4, d5, d6, d7⟩ := HQ.out.cells
    go_wp2_with fail
    refine (few_s _ _ _ _ _ _ _ _ HF).mono ?_
    rintro er w1 ⟨rfl, hb1⟩
    have HQ1 := Lib.hid (HQ.out.step hb1)
    clear hb1 d0 d1 d2 d3 d4 d5 d6 d7
    obtain ⟨d0, d1, d2, d3, d4, d5, d6, d7⟩ := HQ1.out.cells
    go_wp2_with fail
    refine (expd_s HX H1 H2 HQ1.out.b).mono ?_
    rintro er w2 ⟨rfl, hb2⟩
    have HQ2 := Lib.hid (HQ1.out.step hb2)
    clear hb2 d0 d1 d2 d3 d4 d5 d6 d7
    obtain ⟨d0, d1, d2, d3, d4, d5, d6, d7⟩ := HQ2.out.cells
    go_wp2_with fail
    refine (scen_m HR HLn H1 H2 HS (by omega) HQ2.out.b).mono ?_
    rintro er w3 ⟨r1, q1, rfl, S1, hb3⟩
    have HQ3 := Lib.hid (HQ2.out.step hb3)
    clear hb3 d0 d1 d2 d3 d4 d5 d6 d7
    go_wp2_with fail
    refine (taken_s HL HLS HPA S1).mono ?_
    rintro er w9 ⟨rfl, rfl⟩
    go_wp2_with fail
    refine (awake40_any _).mono ?_
    rintro er w4 ⟨rfl, hb4⟩
    have HQ4 := Lib.hid (HQ3.out.step hb4)
    clear hb4
    go_wp2
    go_ret
    exact ⟨rfl, HQ4.out.b⟩

set_option maxRecDepth 100000 in
set_option maxHeartbeats 8000000 in
theorem mean_neg_e4 (st k p s sl h part o i : Int) (xs ys : List Int) (ws : List (BitVec 64)) (L : List Int) (f : Int) (m : Nat) (a1 : Option Addr) (l1 c1 : Nat) (a2 : Option Addr) (l2 c2 : Nat) (ao : Option Addr) (len cap : Nat) (w : World) (H1 : Hid (Sl w 1 a1 l1 c1 (cs i64v xs))) (H2 : Hid (Sl w 1 a2 l2 c2 (cs i64v ys))) (HS : Hid (Sl w 1 ao len cap (cs u64 ws))) (HF : Hid (fewB l1 l2 = true)) (HLn : Hid (L.length = m)) (HL : m ≤ 1000) (hlen4 : len ≤ 400) (HX : Hid (expc st xs ys k p s sl h = (o, i, 0))) (HR : Hid (caseF (expc st xs ys k p s sl h) ws = (L, f))) (hr : caseF (o, i, 0) ws = (L, f)) (o0 : 0 ≤ o) (o1 : o ≤ 200000000000) (i0 : 0 ≤ i) (i1 : i ≤ 200000000000) (hsl0 : 0 ≤ sl) (hsl1 : sl < 168) (hh0 : 0 ≤ h) (hh1 : h ≤ 168) (hhz : ¬ h = 0) (hp1 : part < 0) (hfz : ¬ f = 0) (hff2 : f = 4) :
    Calls Try.prog 15 #[.agg #[.int .i64 st, .slice a1 l1 c1, .slice a2 l2 c2], .agg #[.int .i64 k, .int .i64 p, .int .i64 s, .int .i64 sl, .int .i64 h, .int .i64 part], .slice ao len cap] w (RetB (.bool true) w) := by
  obtain rfl : L = [] := (caseF_err o0 i0 hr hfz).1
  obtain rfl : m = 0 := HLn.out.symm
  clear hr
  subst hff2
  go_enter Try.func15, Try.ntmps15
  go_wp2_with fail
  go_cut [7, 8] (fun t i wx => ∃ X, t = .pointer (some ⟨X, 0, none⟩) ∧ i = .int .i64 part ∧ Hid (MeanW w X st a1 l1 c1 a2 l2 c2 k p s sl h wx))
  case first =>
    go_region
    all_goals
      go_wp2_with fail
      go_meet
      refine ⟨_, rfl, rfl, ⟨?_, ?_, ?_, by omega⟩⟩
      all_goals first
        | exact below_drew (below_step (below_step (below_alloc _ _) (below_alloc _ _)) (below_alloc _ _))
        | (repeat (first | ((with_reducible refine blkNew ?_); focus (simp; done)) | (with_reducible refine blkDrew ?_) | (with_reducible refine blkOld ?_)))
  case rest =>
    obtain ⟨X, rfl, rfl, HQ⟩ := hcut
    obtain ⟨W0, hW0⟩ : ∃ W, W = wc := ⟨_, rfl⟩
    subst hW0
    obtain ⟨d0, d1, d2, d3, d4, d5, d6, d7⟩ := HQ.out.cells
    go_wp2_with fail
    refine (few_s _ _ _ _ _ _ _ _ HF).mono ?_
    rintro er w1 ⟨rfl, hb1⟩
    have HQ1 := Lib.hid (HQ.out.step hb1)
    clear hb1 d0 d1 d2 d3 d4 d5 d6 d7
    obtain ⟨d0, d1, d2, d3, d4, d5, d6, d7⟩ := HQ1.out.cells
    go_wp2_with fail
    refine (expd_s HX H1 H2 HQ1.out.b).mono ?_
    rintro er w2 ⟨rfl, hb2⟩
    have HQ2 := Lib.hid (HQ1.out.step hb2)
    clear hb2 d0 d1 d2 d3 d4 d5 d6 d7
    obtain ⟨d0, d1, d2, d3, d4, d5, d6, d7⟩ := HQ2.out.cells
    go_wp2_with fail
    refine (scen_m HR HLn H1 H2 HS (by omega) HQ2.out.b).mono ?_
    rintro er w3 ⟨r1, q1, rfl, S1, hb3⟩
    have HQ3 := Lib.hid (HQ2.out.step hb3)
    clear hb3 d0 d1 d2 d3 d4 d5 d6 d7
    go_wp2_with fail
    refine (awake40_any _).mono ?_
    rintro er w4 ⟨rfl, hb4⟩
    have HQ4 := Lib.hid (HQ3.out.step hb4)
    clear hb4
    go_wp2
    go_ret
    exact ⟨rfl, HQ4.out.b⟩

set_option maxRecDepth 100000 in
set_option maxHeartbeats 8000000 in
theorem mean_neg_e8 (st k p s sl h part o i : Int) (xs ys : List Int) (ws : List (BitVec 64)) (L : List Int) (f : Int) (m : Nat) (a1 : Option Addr) (l1 c1 : Nat) (a2 : Option Addr) (l2 c2 : Nat) (ao : Option Addr) (len cap : Nat) (w : World) (H1 : Hid (Sl w 1 a1 l1 c1 (cs i64v xs))) (H2 : Hid (Sl w 1 a2 l2 c2 (cs i64v ys))) (HS : Hid (Sl w 1 ao len cap (cs u64 ws))) (HF : Hid (fewB l1 l2 = true)) (HLn : Hid (L.length = m)) (HL : m ≤ 1000) (hlen4 : len ≤ 400) (HX : Hid (expc st xs ys k p s sl h = (o, i, 0))) (HR : Hid (caseF (expc st xs ys k p s sl h) ws = (L, f))) (hr : caseF (o, i, 0) ws = (L, f)) (o0 : 0 ≤ o) (o1 : o ≤ 200000000000) (i0 : 0 ≤ i) (i1 : i ≤ 200000000000) (hsl0 : 0 ≤ sl) (hsl1 : sl < 168) (hh0 : 0 ≤ h) (hh1 : h ≤ 168) (hhz : ¬ h = 0) (hp1 : part < 0) (hfz : ¬ f = 0) (hff2 : f = 8) (hbg : 63000 < o + i) :
    Calls Try.prog 15 #[.agg #[.int .i64 st, .slice a1 l1 c1, .slice a2 l2 c2], .agg #[.int .i64 k, .int .i64 p, .int .i64 s, .int .i64 sl, .int .i64 h, .int .i64 part], .slice ao len cap] w (RetB (.bool true) w) := by
  obtain rfl : L = [] := (caseF_err o0 i0 hr hfz).1
  obtain rfl : m = 0 := HLn.out.symm
  clear hr
  subst hff2
  go_enter Try.func15, Try.ntmps15
  go_wp2_with fail
  go_cut [7, 8] (fun t i wx => ∃ X, t = .pointer (some ⟨X, 0, none⟩) ∧ i = .int .i64 part ∧ Hid (MeanW w X st a1 l1 c1 a2 l2 c2 k p s sl h wx))
  case first =>
    go_region
    all_goals
      go_wp2_with fail
      go_meet
      refine ⟨_, rfl, rfl, ⟨?_, ?_, ?_, by omega⟩⟩
      all_goals first
        | exact below_drew (below_step (below_step (below_alloc _ _) (below_alloc _ _)) (below_alloc _ _))
        | (repeat (first | ((with_reducible refine blkNew ?_); focus (simp; done)) | (with_reducible refine blkDrew ?_) | (with_reducible refine blkOld ?_)))
  case rest =>
    obtain ⟨X, rfl, rfl, HQ⟩ := hcut
    obtain ⟨W0, hW0⟩ : ∃ W, W = wc := ⟨_, rfl⟩
    subst hW0
    obtain ⟨d0, d1, d2, d3, d4, d5, d6, d7⟩ := HQ.out.cells
    go_wp2_with fail
    refine (few_s _ _ _ _ _ _ _ _ HF).mono ?_
    rintro er w1 ⟨rfl, hb1⟩
    have HQ1 := Lib.hid (HQ.out.step hb1)
    clear hb1 d0 d1 d2 d3 d4 d5 d6 d7
    obtain ⟨d0, d1, d2, d3, d4, d5, d6, d7⟩ := HQ1.out.cells
    go_wp2_with fail
    refine (expd_s HX H1 H2 HQ1.out.b).mono ?_
    rintro er w2 ⟨rfl, hb2⟩
    have HQ2 := Lib.hid (HQ1.out.step hb2)
    clear hb2 d0 d1 d2 d3 d4 d5 d6 d7
    obtain ⟨d0, d1, d2, d3, d4, d5, d6, d7⟩ := HQ2.out.cells
    go_wp2_with fail
    refine (scen_m HR HLn H1 H2 HS (by omega) HQ2.out.b).mono ?_
    rintro er w3 ⟨r1, q1, rfl, S1, hb3⟩
    have HQ3 := Lib.hid (HQ2.out.step hb3)
    clear hb3 d0 d1 d2 d3 d4 d5 d6 d7
    go_wp2_with fail
    refine (awake40_any _).mono ?_
    rintro er w4 ⟨rfl, hb4⟩
    have HQ4 := Lib.hid (HQ3.out.step hb4)
    clear hb4
    go_wp2
    go_ret
    exact ⟨rfl, HQ4.out.b⟩

set_option maxRecDepth 100000 in
set_option maxHeartbeats 8000000 in
theorem mean_big_ok (st k p s sl h part o i : Int) (xs ys : List Int) (ws : List (BitVec 64)) (L : List Int) (m : Nat) (a1 : Option Addr) (l1 c1 : Nat) (a2 : Option Addr) (l2 c2 : Nat) (ao : Option Addr) (len cap : Nat) (w : World) (H1 : Hid (Sl w 1 a1 l1 c1 (cs i64v xs))) (H2 : Hid (Sl w 1 a2 l2 c2 (cs i64v ys))) (HS : Hid (Sl w 1 ao len cap (cs u64 ws))) (HF : Hid (fewB l1 l2 = true)) (HLn : Hid (L.length = m)) (HL : m ≤ 1000) (hlen4 : len ≤ 400) (HX : Hid (expc st xs ys k p s sl h = (o, i, 0))) (HR : Hid (caseF (expc st xs ys k p s sl h) ws = (L, 0))) (hr : caseF (o, i, 0) ws = (L, 0)) (o0 : 0 ≤ o) (o1 : o ≤ 200000000000) (i0 : 0 ≤ i) (i1 : i ≤ 200000000000) (hsl0 : 0 ≤ sl) (hsl1 : sl < 168) (hh0 : 0 ≤ h) (hh1 : h ≤ 168) (hhz : ¬ h = 0) (hp1 : ¬ part < 0) (hp2 : h < part) :
    Calls Try.prog 15 #[.agg #[.int .i64 st, .slice a1 l1 c1, .slice a2 l2 c2], .agg #[.int .i64 k, .int .i64 p, .int .i64 s, .int .i64 sl, .int .i64 h, .int .i64 part], .slice ao len cap] w (RetB (.bool true) w) := by
  obtain ⟨A, B, hc⟩ := caseF_ok o0 i0 hr
  obtain ⟨P, hP1, hP2, hP3⟩ := hc.st
  have hm : (m : Int) = A + B := by rw [← HLn.out, hP1, stepsL_len]; exact hP2
  have hmB : (m : Int) - A = B := by omega
  have HLS := Lib.hid hP1
  have HPA := Lib.hid hP3
  have q0 := hc.a0
  have q1' := hc.b0
  have q2 := hc.ab
  have q3 : o - 1000 < 1000 * A := by have := hc.o1; omega
  have q4 := hc.o2
  have q5 : i - 1000 < 1000 * B := by have := hc.i1; omega
  have q6 := hc.i2
  have q7 : (m : Int) ≤ 64 := by omega
  clear hc hP1 hP2 hP3 hr hm
  go_enter Try.func15, Try.ntmps15
  go_wp2_with fail
  go_cut [7, 8] (fun t i wx => ∃ X, t = .pointer (some ⟨X, 0, none⟩) ∧ i = .int .i64 part ∧ Hid (MeanW w X st a1 l1 c1 a2 l2 c2 k p s sl h wx))
  case first =>
    go_region
    all_goals
      go_wp2_with fail
      go_meet
      refine ⟨_, rfl, rfl, ⟨?_, ?_, ?_, by omega⟩⟩
      all_goals first
        | exact below_drew (below_step (below_step (below_alloc _ _) (below_alloc _ _)) (below_alloc _ _))
        | (repeat (first | ((with_reducible refine blkNew ?_); focus (simp; done)) | (with_reducible refine blkDrew ?_) | (with_reducible refine blkOld ?_)))
  case rest =>
    obtain ⟨X, rfl, rfl, HQ⟩ := hcut
    obtain ⟨W0, hW0⟩ : ∃ W, W = wc := ⟨_, rfl⟩
    subst hW0
    obtain ⟨d0, d1, d2, d3, d4, d5, d6, d7⟩ := HQ.out.cells
    go_wp2_with fail
    refine (few_s _ _ _ _ _ _ _ _ HF).mono ?_
    rintro er w1 ⟨rfl, hb1⟩
    have HQ1 := Lib.hid (HQ.out.step hb1)
    clear hb1 d0 d1 d2 d3 d4 d5 d6 d7
    obtain ⟨d0, d1, d2, d3, d4, d5, d6, d7⟩ := HQ1.out.cells
    go_wp2_with fail
    refine (expd_s HX H1 H2 HQ1.out.b).mono ?_
    rintro er w2 ⟨rfl, hb2⟩
    have HQ2 := Lib.hid (HQ1.out.step hb2)
    clear hb2 d0 d1 d2 d3 d4 d5 d6 d7
    obtain ⟨d0, d1, d2, d3, d4, d5, d6, d7⟩ := HQ2.out.cells
    go_wp2_with fail
    refine (scen_m HR HLn H1 H2 HS (by omega) HQ2.out.b).mono ?_
    rintro er w3 ⟨r1, q1, rfl, S1, hb3⟩
    have HQ3 := Lib.hid (HQ2.out.step hb3)
    clear hb3 d0 d1 d2 d3 d4 d5 d6 d7
    go_wp2_with fail
    refine (taken_s HL HLS HPA S1).mono ?_
    rintro er w9 ⟨rfl, rfl⟩
    go_wp2_with fail
    refine (awake40_any _).mono ?_
    rintro er w4 ⟨rfl, hb4⟩
    have HQ4 := Lib.hid (HQ3.out.step hb4)
    clear hb4
    go_wp2
    go_ret
    exact ⟨rfl, HQ4.out.b⟩

set_option maxRecDepth 100000 in
set_option maxHeartbeats 8000000 in
theorem mean_big_e4 (st k p s sl h part o i : Int) (xs ys : List Int) (ws : List (BitVec 64)) (L : List Int) (f : Int) (m : Nat) (a1 : Option Addr) (l1 c1 : Nat) (a2 : Option Addr) (l2 c2 : Nat) (ao : Option Addr) (len cap : Nat) (w : World) (H1 : Hid (Sl w 1 a1 l1 c1 (cs i64v xs))) (H2 : Hid (Sl w 1 a2 l2 c2 (cs i64v ys))) (HS : Hid (Sl w 1 ao len cap (cs u64 ws))) (HF : Hid (fewB l1 l2 = true)) (HLn : Hid (L.length = m)) (HL : m ≤ 1000) (hlen4 : len ≤ 400) (HX : Hid (expc st xs ys k p s sl h = (o, i, 0))) (HR : Hid (caseF (expc st xs ys k p s sl h) ws = (L, f))) (hr : caseF (o, i, 0) ws = (L, f)) (o0 : 0 ≤ o) (o1 : o ≤ 200000000000) (i0 : 0 ≤ i) (i1 : i ≤ 200000000000) (hsl0 : 0 ≤ sl) (hsl1 : sl < 168) (hh0 : 0 ≤ h) (hh1 : h ≤ 168) (hhz : ¬ h = 0) (hp1 : ¬ part < 0) (hp2 : h < part) (hfz : ¬ f = 0) (hff2 : f = 4) :
    Calls Try.prog 15 #[.agg #[.int .i64 st, .slice a1 l1 c1, .slice a2 l2 c2], .agg #[.int .i64 k, .int .i64 p, .int .i64 s, .int .i64 sl, .int .i64 h, .int .i64 part], .slice ao len cap] w (RetB (.bool true) w) := by
  obtain rfl : L = [] := (caseF_err o0 i0 hr hfz).1
  obtain rfl : m = 0 := HLn.out.symm
  clear hr
  subst hff2
  go_enter Try.func15, Try.ntmps15
  go_wp2_with fail
  go_cut [7, 8] (fun t i wx => ∃ X, t = .pointer (some ⟨X, 0, none⟩) ∧ i = .int .i64 part ∧ Hid (MeanW w X st a1 l1 c1 a2 l2 c2 k p s sl h wx))
  case first =>
    go_region
    all_goals
      go_wp2_with fail
      go_meet
      refine ⟨_, rfl, rfl, ⟨?_, ?_, ?_, by omega⟩⟩
      all_goals first
        | exact below_drew (below_step (below_step (below_alloc _ _) (below_alloc _ _)) (below_alloc _ _))
        | (repeat (first | ((with_reducible refine blkNew ?_); focus (simp; done)) | (with_reducible refine blkDrew ?_) | (with_reducible refine blkOld ?_)))
  case rest =>
    obtain ⟨X, rfl, rfl, HQ⟩ := hcut
    obtain ⟨W0, hW0⟩ : ∃ W, W = wc := ⟨_, rfl⟩
    subst hW0
    obtain ⟨d0, d1, d2, d3, d4, d5, d6, d7⟩ := HQ.out.cells
    go_wp2_with fail
    refine (few_s _ _ _ _ _ _ _ _ HF).mono ?_
    rintro er w1 ⟨rfl, hb1⟩
    have HQ1 := Lib.hid (HQ.out.step hb1)
    clear hb1 d0 d1 d2 d3 d4 d5 d6 d7
    obtain ⟨d0, d1, d2, d3, d4, d5, d6, d7⟩ := HQ1.out.cells
    go_wp2_with fail
    refine (expd_s HX H1 H2 HQ1.out.b).mono ?_
    rintro er w2 ⟨rfl, hb2⟩
    have HQ2 := Lib.hid (HQ1.out.step hb2)
    clear hb2 d0 d1 d2 d3 d4 d5 d6 d7
    obtain ⟨d0, d1, d2, d3, d4, d5, d6, d7⟩ := HQ2.out.cells
    go_wp2_with fail
    refine (scen_m HR HLn H1 H2 HS (by omega) HQ2.out.b).mono ?_
    rintro er w3 ⟨r1, q1, rfl, S1, hb3⟩
    have HQ3 := Lib.hid (HQ2.out.step hb3)
    clear hb3 d0 d1 d2 d3 d4 d5 d6 d7
    go_wp2_with fail
    refine (awake40_any _).mono ?_
    rintro er w4 ⟨rfl, hb4⟩
    have HQ4 := Lib.hid (HQ3.out.step hb4)
    clear hb4
    go_wp2
    go_ret
    exact ⟨rfl, HQ4.out.b⟩

set_option maxRecDepth 100000 in
set_option maxHeartbeats 8000000 in
theorem mean_big_e8 (st k p s sl h part o i : Int) (xs ys : List Int) (ws : List (BitVec 64)) (L : List Int) (f : Int) (m : Nat) (a1 : Option Addr) (l1 c1 : Nat) (a2 : Option Addr) (l2 c2 : Nat) (ao : Option Addr) (len cap : Nat) (w : World) (H1 : Hid (Sl w 1 a1 l1 c1 (cs i64v xs))) (H2 : Hid (Sl w 1 a2 l2 c2 (cs i64v ys))) (HS : Hid (Sl w 1 ao len cap (cs u64 ws))) (HF : Hid (fewB l1 l2 = true)) (HLn : Hid (L.length = m)) (HL : m ≤ 1000) (hlen4 : len ≤ 400) (HX : Hid (expc st xs ys k p s sl h = (o, i, 0))) (HR : Hid (caseF (expc st xs ys k p s sl h) ws = (L, f))) (hr : caseF (o, i, 0) ws = (L, f)) (o0 : 0 ≤ o) (o1 : o ≤ 200000000000) (i0 : 0 ≤ i) (i1 : i ≤ 200000000000) (hsl0 : 0 ≤ sl) (hsl1 : sl < 168) (hh0 : 0 ≤ h) (hh1 : h ≤ 168) (hhz : ¬ h = 0) (hp1 : ¬ part < 0) (hp2 : h < part) (hfz : ¬ f = 0) (hff2 : f = 8) (hbg : 63000 < o + i) :
    Calls Try.prog 15 #[.agg #[.int .i64 st, .slice a1 l1 c1, .slice a2 l2 c2], .agg #[.int .i64 k, .int .i64 p, .int .i64 s, .int .i64 sl, .int .i64 h, .int .i64 part], .slice ao len cap] w (RetB (.bool true) w) := by
  obtain rfl : L = [] := (caseF_err o0 i0 hr hfz).1
  obtain rfl : m = 0 := HLn.out.symm
  clear hr
  subst hff2
  go_enter Try.func15, Try.ntmps15
  go_wp2_with fail
  go_cut [7, 8] (fun t i wx => ∃ X, t = .pointer (some ⟨X, 0, none⟩) ∧ i = .int .i64 part ∧ Hid (MeanW w X st a1 l1 c1 a2 l2 c2 k p s sl h wx))
  case first =>
    go_region
    all_goals
      go_wp2_with fail
      go_meet
      refine ⟨_, rfl, rfl, ⟨?_, ?_, ?_, by omega⟩⟩
      all_goals first
        | exact below_drew (below_step (below_step (below_alloc _ _) (below_alloc _ _)) (below_alloc _ _))
        | (repeat (first | ((with_reducible refine blkNew ?_); focus (simp; done)) | (with_reducible refine blkDrew ?_) | (with_reducible refine blkOld ?_)))
  case rest =>
    obtain ⟨X, rfl, rfl, HQ⟩ := hcut
    obtain ⟨W0, hW0⟩ : ∃ W, W = wc := ⟨_, rfl⟩
    subst hW0
    obtain ⟨d0, d1, d2, d3, d4, d5, d6, d7⟩ := HQ.out.cells
    go_wp2_with fail
    refine (few_s _ _ _ _ _ _ _ _ HF).mono ?_
    rintro er w1 ⟨rfl, hb1⟩
    have HQ1 := Lib.hid (HQ.out.step hb1)
    clear hb1 d0 d1 d2 d3 d4 d5 d6 d7
    obtain ⟨d0, d1, d2, d3, d4, d5, d6, d7⟩ := HQ1.out.cells
    go_wp2_with fail
    refine (expd_s HX H1 H2 HQ1.out.b).mono ?_
    rintro er w2 ⟨rfl, hb2⟩
    have HQ2 := Lib.hid (HQ1.out.step hb2)
    clear hb2 d0 d1 d2 d3 d4 d5 d6 d7
    obtain ⟨d0, d1, d2, d3, d4, d5, d6, d7⟩ := HQ2.out.cells
    go_wp2_with fail
    refine (scen_m HR HLn H1 H2 HS (by omega) HQ2.out.b).mono ?_
    rintro er w3 ⟨r1, q1, rfl, S1, hb3⟩
    have HQ3 := Lib.hid (HQ2.out.step hb3)
    clear hb3 d0 d1 d2 d3 d4 d5 d6 d7
    go_wp2_with fail
    refine (awake40_any _).mono ?_
    rintro er w4 ⟨rfl, hb4⟩
    have HQ4 := Lib.hid (HQ3.out.step hb4)
    clear hb4
    go_wp2
    go_ret
    exact ⟨rfl, HQ4.out.b⟩

end Go.Proofs.Ytfhmhkpplcbiiaa
