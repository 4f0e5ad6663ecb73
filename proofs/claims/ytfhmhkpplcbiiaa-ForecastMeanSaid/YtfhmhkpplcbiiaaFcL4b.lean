/-
  FORECAST, THE LAWS' WALKS: ForecastMean.
-/
import Derived.Test.YtfhmhkpplcbiiaaProg
import Derived.Test.YtfhmhkpplcbiiaaBase3
import Derived.Test.YtfhmhkpplcbiiaaBase5
import Derived.Test.YtfhmhkpplcbiiaaBase6
import Derived.Test.YtfhmhkpplcbiiaaBase7
import Derived.Test.YtfhmhkpplcbiiaaDrawP
import Derived.Test.YtfhmhkpplcbiiaaDraw4
import Derived.Test.YtfhmhkpplcbiiaaDraw5
import Derived.Test.YtfhmhkpplcbiiaaDrawL0
import Derived.Test.YtfhmhkpplcbiiaaFcP
import Derived.Test.YtfhmhkpplcbiiaaFc1
import Derived.Test.YtfhmhkpplcbiiaaFc2
import Derived.Test.YtfhmhkpplcbiiaaFc3
import Derived.Test.YtfhmhkpplcbiiaaFcP2
import Derived.Test.YtfhmhkpplcbiiaaFcP3
import Derived.Test.YtfhmhkpplcbiiaaFc7
import Derived.Test.YtfhmhkpplcbiiaaFc9
import Derived.Test.YtfhmhkpplcbiiaaFc10
import Derived.Test.YtfhmhkpplcbiiaaFc11
import Derived.Test.YtfhmhkpplcbiiaaFcL1
import Derived.Test.YtfhmhkpplcbiiaaHeld
import Derived.Test.YtfhmhkpplcbiiaaFcL4
import Derived.BigQuiet
import Derived.Laws.StructEq
import Derived.StillTailTactics
import Derived.RegionTactic
import Derived.BigRegion
import Derived.Deep.DeepCutAuto
import Derived.Deep.QuietTactic
import Derived.WalkSpells
import Derived.WalkLawsBesides
namespace Go.Proofs.Ytfhmhkpplcbiiaa
open Go.RowKit
set_option linter.unusedVariables false

set_option maxRecDepth 100000 in
set_option maxHeartbeats 8000000 in
theorem mean_in_e4 (st k p s sl h part o i : Int) (xs ys : List Int) (ws : List (BitVec 64)) (L : List Int) (f : Int) (m : Nat) (a1 : Option Addr) (l1 c1 : Nat) (a2 : Option Addr) (l2 c2 : Nat) (ao : Option Addr) (len cap : Nat) (w : World) (H1 : Hid (Sl w 1 a1 l1 c1 (cs i64v xs))) (H2 : Hid (Sl w 1 a2 l2 c2 (cs i64v ys))) (HS : Hid (Sl w 1 ao len cap (cs u64 ws))) (HF : Hid (fewB l1 l2 = true)) (HLn : Hid (L.length = m)) (HL : m ≤ 1000) (hlen4 : len ≤ 400) (HX : Hid (expc st xs ys k p s sl h = (o, i, 0))) (HR : Hid (caseF (expc st xs ys k p s sl h) ws = (L, f))) (hr : caseF (o, i, 0) ws = (L, f)) (o0 : 0 ≤ o) (o1 : o ≤ 200000000000) (i0 : 0 ≤ i) (i1 : i ≤ 200000000000) (hsl0 : 0 ≤ sl) (hsl1 : sl < 168) (hh0 : 0 ≤ h) (hh1 : h ≤ 168) (hhz : ¬ h = 0) (hp1 : 0 ≤ part) (hp2 : part ≤ h) (hfz : ¬ f = 0) (hff2 : f = 4) :
    Calls Try.prog 15 #[.agg #[.int .i64 st, .slice a1 l1 c1, .slice a2 l2 c2], .agg #[.int .i64 k, .int .i64 p, .int .i64 s, .int .i64 sl, .int .i64 h, .int .i64 part], .slice ao len cap] w (RetB (.bool true) w) := by
  obtain rfl : L = [] := (caseF_err o0 i0 hr hfz).1
  obtain rfl : m = 0 := HLn.out.symm
  clear hr
  subst hff2
  obtain ⟨oa, ia, ob, ib, hx1, hx2, ho, hi⟩ := expc_parts HX.out hp1 hp2
  obtain ⟨⟨u0, u1⟩, u2, u3⟩ := expc_bounds hx1
  obtain ⟨⟨v0, v1⟩, v2, v3⟩ := expc_bounds hx2
  have hrem : (sl + part).tmod 168 = (sl + part) % 168 := Int.tmod_eq_emod_of_nonneg (by omega)
  have r0 : 0 ≤ (sl + part) % 168 := by omega
  have r1 : (sl + part) % 168 < 168 := by omega
  generalize (sl + part) % 168 = r at *
  have HX1 := Lib.hid hx1
  have HX2 := Lib.hid hx2
  have n0 : 0 ≤ sl + part := by omega
  have n1 : sl + part ≤ 336 := by omega
  have n2 : 0 ≤ h - part := by omega
  have n3 : h - part ≤ 168 := by omega
  clear hx1 hx2
  go_enter Try.func15, Try.ntmps15
  go_wp2_with fail
  go_cut [7, 8] (fun t i wx => ∃ X, t = .pointer (some ⟨X, 0, none⟩) ∧ i = .int .i64 part ∧ Hid (MeanW w X st a1 l1 c1 a2 l2 c2 k p s sl h wx))
  case first =>
    go_region
    all_goals
      go_wp2_with fail
      go_meet
      refine ⟨_, rfl, rfl, ⟨?_, ?_, ?_, by omega⟩⟩
      all_goals first
        | exact below_drew (below_step (below_step (below_alloc _ _) (below_alloc _ _)) (below_alloc _ _))
        | (repeat (first | ((with_reducible refine blkNew ?_); focus (simp; done)) | (with_reducible refine blkDrew ?_) | (with_reducible refine blkOld ?_)))
  case rest =>
    obtain ⟨X, rfl, rfl, HQ⟩ := hcut
    obtain ⟨W0, hW0⟩ : ∃ W, W = wc := ⟨_, rfl⟩
    subst hW0
    obtain ⟨d0, d1, d2, d3, d4, d5, d6, d7⟩ := HQ.out.cells
    go_wp2_with fail
    refine (few_s _ _ _ _ _ _ _ _ HF).mono ?_
    rintro er w1 ⟨rfl, hb1⟩
    have HQ1 := Lib.hid (HQ.out.step hb1)
    clear hb1 d0 d1 d2 d3 d4 d5 d6 d7
    obtain ⟨d0, d1, d2, d3, d4, d5, d6, d7⟩ := HQ1.out.cells
    go_wp2_with fail
    refine (expd_s HX H1 H2 HQ1.out.b).mono ?_
    rintro er w2 ⟨rfl, hb2⟩
    have HQ2 := Lib.hid (HQ1.out.step hb2)
    clear hb2 d0 d1 d2 d3 d4 d5 d6 d7
    obtain ⟨d0, d1, d2, d3, d4, d5, d6, d7⟩ := HQ2.out.cells
    go_wp2_with fail
    go_cut [14, 15] (fun t u wx => ∃ Y Z, t = .pointer (some ⟨Y, 0, none⟩) ∧ u = .pointer (some ⟨Z, 0, none⟩) ∧ Hid (MeanW w X st a1 l1 c1 a2 l2 c2 k p s sl h wx ∧ MeanY w X Y Z k p s sl h wx))
    case first =>
      have hz : X < w2.heap.size := blk_lt HQ2.out.x
      go_region
      all_goals
        go_wp2_with fail
        go_meet
        have hz2 : w.heap.size < X := HQ2.out.n
        have hA := HQ2.out
        refine ⟨_, _, rfl, rfl, hA.step (below_drew (below_step (below_alloc _ _) (below_alloc _ _))), ⟨?_, ?_, by omega, by omega, by omega, by omega, by omega⟩⟩
        all_goals (repeat (first | ((with_reducible refine blkNew ?_); focus (simp; done)) | (with_reducible refine blkDrew ?_) | (with_reducible refine blkOld ?_)))
    case rest =>
      obtain ⟨Y, Z, rfl, rfl, HY⟩ := hcut
      obtain ⟨WA, hWA⟩ : ∃ W, W = wc := ⟨_, rfl⟩
      subst hWA
      clear d0 d1 d2 d3 d4 d5 d6 d7 HQ2
      have hyy := HY.out.2
      have g1 := hyy.n1
      have g2 := hyy.n2
      have g3 : ¬ X = Y := hyy.n3
      have g4 : ¬ X = Z := hyy.n4
      have g5 : ¬ Y = Z := hyy.n5
      have g6 : ¬ Z = Y := fun h => hyy.n5 h.symm
      have g7 : ¬ Y = X := fun h => hyy.n3 h.symm
      have g8 : ¬ Z = X := fun h => hyy.n4 h.symm
      have hy1 : BlkAt (((WA.setCell ⟨Y, 4, none⟩ (.int .i64 part)).setCell ⟨Z, 3, none⟩ (.int .i64 r)).setCell ⟨Z, 4, none⟩ (.int .i64 (h - part))) Y #[.int .i64 k, .int .i64 p, .int .i64 s, .int .i64 sl, .int .i64 part] := blk_other (blk_other (blk_set (i := 4) hyy.y) hyy.n5) hyy.n5
      have hy2 : BlkAt (((WA.setCell ⟨Y, 4, none⟩ (.int .i64 part)).setCell ⟨Z, 3, none⟩ (.int .i64 r)).setCell ⟨Z, 4, none⟩ (.int .i64 (h - part))) Z #[.int .i64 k, .int .i64 p, .int .i64 s, .int .i64 r, .int .i64 (h - part)] := blk_set (i := 4) (blk_set (i := 3) (blk_other hyy.z (fun e => hyy.n5 e.symm)))
      have HY1 := Lib.hid hy1
      have HY2 := Lib.hid hy2
      have HQA := Lib.hid (((HY.out.1.set (i := 4) (v := .int .i64 part) g1 g3).set (i := 3) (v := .int .i64 r) g2 g4).set (i := 4) (v := .int .i64 (h - part)) g2 g4)
      obtain ⟨d0, d1, d2, d3, d4, d5, d6, d7⟩ := HY.out.1.cells
      obtain ⟨y0, y1, y2, y3, y4, _⟩ := five_cells hyy.y
      obtain ⟨z0, z1, z2, z3, z4, _⟩ := five_cells hyy.z
      have fy := five_frozen (i := 4) hyy.y
      have fz := five_frozen (i := 3) hyy.z
      have fz4 := five_frozen (i := 4) hyy.z
      have gw : ¬ w.heap.size = Y := by omega
      have gw2 : ¬ w.heap.size = Z := by omega
      clear hy1 hy2 hyy HY
      go_wp2_with fail
      refine (expd_s HX1 H1 H2 HQA.out.b).mono ?_
      rintro er w3 ⟨rfl, hb3⟩
      have HQ3 := Lib.hid (HQA.out.step hb3)
      have HZ3 := Lib.hid (blkBelow hb3 HY2.out)
      clear hb3 d0 d1 d2 d3 d4 d5 d6 d7 y0 y1 y2 y3 y4 z0 z1 z2 z3 z4 fy fz fz4 HQA HY1 HY2 gw gw2 g1 g2 g3 g4 g5 g6 g7 g8
      obtain ⟨d0, d1, d2, d3, d4, d5, d6, d7⟩ := HQ3.out.cells
      obtain ⟨z0, z1, z2, z3, z4, _⟩ := five_cells HZ3.out
      go_wp2_with fail
      refine (expd_s HX2 H1 H2 HQ3.out.b).mono ?_
      rintro er w4 ⟨rfl, hb4⟩
      have HQ4 := Lib.hid (HQ3.out.step hb4)
      clear hb4 d0 d1 d2 d3 d4 d5 d6 d7 z0 z1 z2 z3 z4 HZ3
      obtain ⟨d0, d1, d2, d3, d4, d5, d6, d7⟩ := HQ4.out.cells
      go_wp2_with fail
      refine (scen_m HR HLn H1 H2 HS (by omega) HQ4.out.b).mono ?_
      rintro er w5 ⟨r1, q1, rfl, S1, hb5⟩
      have HQ5 := Lib.hid (HQ4.out.step hb5)
      clear hb5 d0 d1 d2 d3 d4 d5 d6 d7
      go_wp2_with fail
      refine (awake40_any _).mono ?_
      rintro er w6 ⟨rfl, hb6⟩
      have HQ6 := Lib.hid (HQ5.out.step hb6)
      clear hb6
      go_wp2
      go_ret
      exact ⟨rfl, HQ6.out.b⟩

set_option maxRecDepth 100000 in
set_option maxHeartbeats 8000000 in
theorem mean_in_e8 (st k p s sl h part o i : Int) (xs ys : List Int) (ws : List (BitVec 64)) (L : List Int) (f : Int) (m : Nat) (a1 : Option Addr) (l1 c1 : Nat) (a2 : Option Addr) (l2 c2 : Nat) (ao : Option Addr) (len cap : Nat) (w : World) (H1 : Hid (Sl w 1 a1 l1 c1 (cs i64v xs))) (H2 : Hid (Sl w 1 a2 l2 c2 (cs i64v ys))) (HS : Hid (Sl w 1 ao len cap (cs u64 ws))) (HF : Hid (fewB l1 l2 = true)) (HLn : Hid (L.length = m)) (HL : m ≤ 1000) (hlen4 : len ≤ 400) (HX : Hid (expc st xs ys k p s sl h = (o, i, 0))) (HR : Hid (caseF (expc st xs ys k p s sl h) ws = (L, f))) (hr : caseF (o, i, 0) ws = (L, f)) (o0 : 0 ≤ o) (o1 : o ≤ 200000000000) (i0 : 0 ≤ i) (i1 : i ≤ 200000000000) (hsl0 : 0 ≤ sl) (hsl1 : sl < 168) (hh0 : 0 ≤ h) (hh1 : h ≤ 168) (hhz : ¬ h = 0) (hp1 : 0 ≤ part) (hp2 : part ≤ h) (hfz : ¬ f = 0) (hff2 : f = 8) (hbg : 63000 < o + i) :
    Calls Try.prog 15 #[.agg #[.int .i64 st, .slice a1 l1 c1, .slice a2 l2 c2], .agg #[.int .i64 k, .int .i64 p, .int .i64 s, .int .i64 sl, .int .i64 h, .int .i64 part], .slice ao len cap] w (RetB (.bool true) w) := by
  obtain rfl : L = [] := (caseF_err o0 i0 hr hfz).1
  obtain rfl : m = 0 := HLn.out.symm
  clear hr
  subst hff2
  obtain ⟨oa, ia, ob, ib, hx1, hx2, ho, hi⟩ := expc_parts HX.out hp1 hp2
  obtain ⟨⟨u0, u1⟩, u2, u3⟩ := expc_bounds hx1
  obtain ⟨⟨v0, v1⟩, v2, v3⟩ := expc_bounds hx2
  have hrem : (sl + part).tmod 168 = (sl + part) % 168 := Int.tmod_eq_emod_of_nonneg (by omega)
  have r0 : 0 ≤ (sl + part) % 168 := by omega
  have r1 : (sl + part) % 168 < 168 := by omega
  generalize (sl + part) % 168 = r at *
  have HX1 := Lib.hid hx1
  have HX2 := Lib.hid hx2
  have n0 : 0 ≤ sl + part := by omega
  have n1 : sl + part ≤ 336 := by omega
  have n2 : 0 ≤ h - part := by omega
  have n3 : h - part ≤ 168 := by omega
  clear hx1 hx2
  go_enter Try.func15, Try.ntmps15
  go_wp2_with fail
  go_cut [7, 8] (fun t i wx => ∃ X, t = .pointer (some ⟨X, 0, none⟩) ∧ i = .int .i64 part ∧ Hid (MeanW w X st a1 l1 c1 a2 l2 c2 k p s sl h wx))
  case first =>
    go_region
    all_goals
      go_wp2_with fail
      go_meet
      refine ⟨_, rfl, rfl, ⟨?_, ?_, ?_, by omega⟩⟩
      all_goals first
        | exact below_drew (below_step (below_step (below_alloc _ _) (below_alloc _ _)) (below_alloc _ _))
        | (repeat (first | ((with_reducible refine blkNew ?_); focus (simp; done)) | (with_reducible refine blkDrew ?_) | (with_reducible refine blkOld ?_)))
  case rest =>
    obtain ⟨X, rfl, rfl, HQ⟩ := hcut
    obtain ⟨W0, hW0⟩ : ∃ W, W = wc := ⟨_, rfl⟩
    subst hW0
    obtain ⟨d0, d1, d2, d3, d4, d5, d6, d7⟩ := HQ.out.cells
    go_wp2_with fail
    refine (few_s _ _ _ _ _ _ _ _ HF).mono ?_
    rintro er w1 ⟨rfl, hb1⟩
    have HQ1 := Lib.hid (HQ.out.step hb1)
    clear hb1 d0 d1 d2 d3 d4 d5 d6 d7
    obtain ⟨d0, d1, d2, d3, d4, d5, d6, d7⟩ := HQ1.out.cells
    go_wp2_with fail
    refine (expd_s HX H1 H2 HQ1.out.b).mono ?_
    rintro er w2 ⟨rfl, hb2⟩
    have HQ2 := Lib.hid (HQ1.out.step hb2)
    clear hb2 d0 d1 d2 d3 d4 d5 d6 d7
    obtain ⟨d0, d1, d2, d3, d4, d5, d6, d7⟩ := HQ2.out.cells
    go_wp2_with fail
    go_cut [14, 15] (fun t u wx => ∃ Y Z, t = .pointer (some ⟨Y, 0, none⟩) ∧ u = .pointer (some ⟨Z, 0, none⟩) ∧ Hid (MeanW w X st a1 l1 c1 a2 l2 c2 k p s sl h wx ∧ MeanY w X Y Z k p s sl h wx))
    case first =>
      have hz : X < w2.heap.size := blk_lt HQ2.out.x
      go_region
      all_goals
        go_wp2_with fail
        go_meet
        have hz2 : w.heap.size < X := HQ2.out.n
        have hA := HQ2.out
        refine ⟨_, _, rfl, rfl, hA.step (below_drew (below_step (below_alloc _ _) (below_alloc _ _))), ⟨?_, ?_, by omega, by omega, by omega, by omega, by omega⟩⟩
        all_goals (repeat (first | ((with_reducible refine blkNew ?_); focus (simp; done)) | (with_reducible refine blkDrew ?_) | (with_reducible refine blkOld ?_)))
    case rest =>
      obtain ⟨Y, Z, rfl, rfl, HY⟩ := hcut
      obtain ⟨WA, hWA⟩ : ∃ W, W = wc := ⟨_, rfl⟩
      subst hWA
      clear d0 d1 d2 d3 d4 d5 d6 d7 HQ2
      have hyy := HY.out.2
      have g1 := hyy.n1
      have g2 := hyy.n2
      have g3 : ¬ X = Y := hyy.n3
      have g4 : ¬ X = Z := hyy.n4
      have g5 : ¬ Y = Z := hyy.n5
      have g6 : ¬ Z = Y := fun h => hyy.n5 h.symm
      have g7 : ¬ Y = X := fun h => hyy.n3 h.symm
      have g8 : ¬ Z = X := fun h => hyy.n4 h.symm
      have hy1 : BlkAt (((WA.setCell ⟨Y, 4, none⟩ (.int .i64 part)).setCell ⟨Z, 3, none⟩ (.int .i64 r)).setCell ⟨Z, 4, none⟩ (.int .i64 (h - part))) Y #[.int .i64 k, .int .i64 p, .int .i64 s, .int .i64 sl, .int .i64 part] := blk_other (blk_other (blk_set (i := 4) hyy.y) hyy.n5) hyy.n5
      have hy2 : BlkAt (((WA.setCell ⟨Y, 4, none⟩ (.int .i64 part)).setCell ⟨Z, 3, none⟩ (.int .i64 r)).setCell ⟨Z, 4, none⟩ (.int .i64 (h - part))) Z #[.int .i64 k, .int .i64 p, .int .i64 s, .int .i64 r, .int .i64 (h - part)] := blk_set (i := 4) (blk_set (i := 3) (blk_other hyy.z (fun e => hyy.n5 e.symm)))
      have HY1 := Lib.hid hy1
      have HY2 := Lib.hid hy2
      have HQA := Lib.hid (((HY.out.1.set (i := 4) (v := .int .i64 part) g1 g3).set (i := 3) (v := .int .i64 r) g2 g4).set (i := 4) (v := .int .i64 (h - part)) g2 g4)
      obtain ⟨d0, d1, d2, d3, d4, d5, d6, d7⟩ := HY.out.1.cells
      obtain ⟨y0, y1, y2, y3, y4, _⟩ := five_cells hyy.y
      obtain ⟨z0, z1, z2, z3, z4, _⟩ := five_cells hyy.z
      have fy := five_frozen (i := 4) hyy.y
      have fz := five_frozen (i := 3) hyy.z
      have fz4 := five_frozen (i := 4) hyy.z
      have gw : ¬ w.heap.size = Y := by omega
      have gw2 : ¬ w.heap.size = Z := by omega
      clear hy1 hy2 hyy HY
      go_wp2_with fail
      refine (expd_s HX1 H1 H2 HQA.out.b).mono ?_
      rintro er w3 ⟨rfl, hb3⟩
      have HQ3 := Lib.hid (HQA.out.step hb3)
      have HZ3 := Lib.hid (blkBelow hb3 HY2.out)
      clear hb3 d0 d1 d2 d3 d4 d5 d6 d7 y0 y1 y2 y3 y4 z0 z1 z2 z3 z4 fy fz fz4 HQA HY1 HY2 gw gw2 g1 g2 g3 g4 g5 g6 g7 g8
      obtain ⟨d0, d1, d2, d3, d4, d5, d6, d7⟩ := HQ3.out.cells
      obtain ⟨z0, z1, z2, z3, z4, _⟩ := five_cells HZ3.out
      go_wp2_with fail
      refine (expd_s HX2 H1 H2 HQ3.out.b).mono ?_
      rintro er w4 ⟨rfl, hb4⟩
      have HQ4 := Lib.hid (HQ3.out.step hb4)
      clear hb4 d0 d1 d2 d3 d4 d5 d6 d7 z0 z1 z2 z3 z4 HZ3
      obtain ⟨d0, d1, d2, d3, d4, d5, d6, d7⟩ := HQ4.out.cells
      go_wp2_with fail
      refine (scen_m HR HLn H1 H2 HS (by omega) HQ4.out.b).mono ?_
      rintro er w5 ⟨r1, q1, rfl, S1, hb5⟩
      have HQ5 := Lib.hid (HQ4.out.step hb5)
      clear hb5 d0 d1 d2 d3 d4 d5 d6 d7
      go_wp2_with fail
      refine (awake40_any _).mono ?_
      rintro er w6 ⟨rfl, hb6⟩
      have HQ6 := Lib.hid (HQ5.out.step hb6)
      clear hb6
      go_wp2
      go_ret
      exact ⟨rfl, HQ6.out.b⟩

end Go.Proofs.Ytfhmhkpplcbiiaa
