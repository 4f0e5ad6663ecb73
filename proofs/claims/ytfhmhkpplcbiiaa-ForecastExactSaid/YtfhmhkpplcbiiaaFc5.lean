/-
  FORECAST, THE WALKS: the reference's Expected.
-/
import Derived.Test.YtfhmhkpplcbiiaaProg
import Derived.Test.YtfhmhkpplcbiiaaBase3
import Derived.Test.YtfhmhkpplcbiiaaBase5
import Derived.Test.YtfhmhkpplcbiiaaBase6
import Derived.Test.YtfhmhkpplcbiiaaBase7
import Derived.Test.YtfhmhkpplcbiiaaDrawP
import Derived.Test.YtfhmhkpplcbiiaaDraw4
import Derived.Test.YtfhmhkpplcbiiaaFcP
import Derived.Test.YtfhmhkpplcbiiaaFc1
import Derived.Test.YtfhmhkpplcbiiaaFc2
import Derived.Test.YtfhmhkpplcbiiaaFc3
import Derived.Test.YtfhmhkpplcbiiaaFc4
import Derived.Test.YtfhmhkpplcbiiaaHeld
import Derived.BigQuiet
import Derived.Laws.StructEq
import Derived.StillTailTactics
import Derived.RegionTactic
import Derived.Deep.DeepCutAuto
import Derived.Deep.QuietTactic
import Derived.WalkSpells
import Derived.WalkLawsBesides
namespace Go.Proofs.Ytfhmhkpplcbiiaa
open Go.RowKit
set_option linter.unusedVariables false


theorem ref_cells {w W W' : World} {v0 v1 v2 : Value} {E : TypeId} (hW : W = w.alloc (.cells #[v0, v1, v2] E)) (hb : Below W.heap.size W W') :
    W'.cell? ⟨w.heap.size, 0, none⟩ = some v0 ∧ W'.cell? ⟨w.heap.size, 1, none⟩ = some v1 ∧ W'.cell? ⟨w.heap.size, 2, none⟩ = some v2 ∧ Below w.heap.size w W' := by
  subst hW
  have h0 : W'.heap[w.heap.size]? = some (.cells #[v0, v1, v2] E) := hp_below hb (hp_new (by simp))
  refine ⟨?_, ?_, ?_, below_step (below_alloc _ _) hb⟩
  · rw [cell_of_row _ _ _ _ _ _ h0]; rfl
  · rw [cell_of_row _ _ _ _ _ _ h0]; rfl
  · rw [cell_of_row _ _ _ _ _ _ h0]; rfl
theorem refCheck_s {st : Int} {xs ys : List Int} {a1 a2 : Option Addr} {l1 c1 l2 c2 : Nat} {e : Int} {w W : World} (h : Hid (okC st xs ys = e)) (h1 : Hid (Sl w 1 a1 l1 c1 (cs i64v xs))) (h2 : Hid (Sl w 1 a2 l2 c2 (cs i64v ys))) (hb : Below w.heap.size w W) :
    Calls Try.prog 62 #[.agg #[.int .i64 st, .slice a1 l1 c1, .slice a2 l2 c2]] W (RetB (.int .i64 e) W) := by
  have := refCheck_any st xs ys a1 l1 c1 a2 l2 c2 W (h1.out.ext hb) (h2.out.ext hb)
  rw [h.out] at this
  exact this
theorem refRate_s {c k p : Int} (h : ¬ rateBad c k p) (w : World) : Calls Try.prog 42 #[.int .i64 c, .int .i64 k, .int .i64 p] w (fun e w' => e = .returned (.tuple #[.int .i64 (rq c k p), .int .i64 0]) ∧ w' = w) := by
  have := refRate_any c k p w
  rw [rate_ok h] at this
  exact this

set_option maxRecDepth 100000 in
set_option maxHeartbeats 4000000 in
theorem refExpected_ok (st k p s sl : Int) (hn : Nat) (xs ys : List Int) (a1 : Option Addr) (l1 c1 : Nat) (a2 : Option Addr) (l2 c2 : Nat) (w : World) (H1 : Hid (Sl w 1 a1 l1 c1 (cs i64v xs))) (H2 : Hid (Sl w 1 a2 l2 c2 (cs i64v ys)))
    (HE : Hid (okC st xs ys = 0)) (T : Int × Int × Int) (HT : Hid (T = (expS xs k p s sl hn, expS ys k p s sl hn, 0))) (z0 : 1 ≤ st) (z1 : st ≤ 32) (Z2 : Hid ((xs.length : Int) = st * 168)) (Z3 : Hid ((ys.length : Int) = st * 168)) (Z4 : Hid (goodC xs)) (Z5 : Hid (goodC ys)) (HQ3 : Hid (okR k p))
    (q1 : ¬ s < 0) (q2 : ¬ st ≤ s) (q4 : ¬ sl < 0) (q5 : ¬ 168 ≤ sl) (q7 : ¬ 168 < (hn : Int)) :
    Calls Try.prog 46 #[.agg #[.int .i64 st, .slice a1 l1 c1, .slice a2 l2 c2], .int .i64 k, .int .i64 p, .int .i64 s, .int .i64 sl, .int .i64 (hn : Int)] w (RetT3 T w) := by
  have K1 := Lib.hid H1.out.count
  have K2 := Lib.hid H2.out.count
  have HBX := Lib.hid (expS_bounds s sl Z4.out HQ3.out)
  have HBY := Lib.hid (expS_bounds s sl Z5.out HQ3.out)
  have HPL := Lib.hid (fun j => plc_lt (s := s) (sl := sl) (st := st) j (by omega) (by omega) (by omega))
  have q6 : ¬ (hn : Int) < 0 := by omega
  have q8 : ¬ k < 0 ∧ ¬ 512 < k ∧ ¬ p < 0 ∧ ¬ 1000000 < p := by have := HQ3.out; unfold okR rateBad at this; omega
  obtain ⟨q8, q9, q10, q11⟩ := q8
  go_enter Try.func46, Try.ntmps46
  go_wp2_with fail
  refine (refCheck_s HE H1 H2 (below_alloc _ _)).mono ?_
  rintro er w1 ⟨rfl, hb1⟩
  obtain ⟨d0, d1, d2, hB⟩ := ref_cells rfl hb1
  have HB := Lib.hid hB
  clear hb1 hB
  have HS1 := Lib.hid (H1.out.ext HB.out)
  have HS2 := Lib.hid (H2.out.ext HB.out)
  go_wp2_with fail
  go_loop [16, 17, 18] (fun u v i => ∃ (j : Nat) (S V : Int), j ≤ hn ∧ i = .int .i64 j ∧ u = .int .i64 S ∧ v = .int .i64 V ∧ Hid (S = expS xs k p s sl j) ∧ Hid (V = expS ys k p s sl j)) (fun _ _ i => hn - (intOf i).toNat)
  case atStart => exact ⟨0, 0, 0, by omega, rfl, rfl, rfl, rfl, rfl⟩
  case round =>
    obtain ⟨j, S, V, hj, rfl, rfl, rfl, hS, hV⟩ := hrel
    by_cases hjl : j < hn
    · obtain ⟨q1, q2⟩ := HPL.out j
      obtain ⟨b, off, e0, hcell⟩ := HS1.out.at_ (plc s sl j) (by have := K1.out; have := Z2.out; omega) 0
      obtain ⟨b', off', e0', hcellY⟩ := HS2.out.at_ (plc s sl j) (by have := K2.out; have := Z3.out; omega) 0
      subst e0
      subst e0'
      have hcell' : w1.cell? ⟨b, off + plc s sl j, none⟩ = some (.int .i64 (xs.getD (plc s sl j) 0)) := hcell
      have hcellY' : w1.cell? ⟨b', off' + plc s sl j, none⟩ = some (.int .i64 (ys.getD (plc s sl j) 0)) := hcellY
      have hx := Z4.out (plc s sl j)
      have hy := Z5.out (plc s sl j)
      have hnx : expS xs k p s sl (j + 1) = expS xs k p s sl j + rq (xs.getD (plc s sl j) 0) k p := rfl
      have hny : expS ys k p s sl (j + 1) = expS ys k p s sl j + rq (ys.getD (plc s sl j) 0) k p := rfl
      have hcx := fun w => refRate_s (rateBad_of HQ3.out hx.1 hx.2) w
      have hcy := fun w => refRate_s (rateBad_of HQ3.out hy.1 hy.2) w
      have hbx := rq_bounds (rateBad_of HQ3.out hx.1 hx.2)
      have hby := rq_bounds (rateBad_of HQ3.out hy.1 hy.2)
      have hSb := HBX.out j
      have hVb := HBY.out j
      rw [← hS.out] at hSb hnx
      rw [← hV.out] at hVb hny
      have HNX := Lib.hid hnx
      have HNY := Lib.hid hny
      have HCX := Lib.hid hcx
      have HCY := Lib.hid hcy
      clear hcell hcellY hnx hny hcx hcy hx hy
      generalize xs.getD (plc s sl j) 0 = x at *
      generalize ys.getD (plc s sl j) 0 = y at *
      generalize rq x k p = X at *
      generalize rq y k p = Y at *
      generalize plc s sl j = q at *
      have hrem := fun t => i64_rem t (sl + (j : Int)) 168 (by omega) (by omega) (by omega)
      have hrem' : (sl + (j : Int)).tmod 168 = (sl + (j : Int)) % 168 := Int.tmod_eq_emod_of_nonneg (by omega)
      have r0 : 0 ≤ (sl + (j : Int)) % 168 := by omega
      have r1 : (sl + (j : Int)) % 168 < 168 := by omega
      have hw1 : IntKind.i64.wrap (s * 168) = s * 168 := by rw [IntKind.wrap_i64]; omega
      have hw2 : IntKind.i64.wrap (sl + (j : Int)) = sl + (j : Int) := by rw [IntKind.wrap_i64]; omega
      generalize (sl + (j : Int)) % 168 = r at *
      have hjl' : (j : Int) < (hn : Int) := by omega
      have hj0 : (0 : Int) ≤ (j : Int) := by omega
      have hql : (q : Int) < (l1 : Int) := by have := K1.out; have := Z2.out; omega
      have hql2 : (q : Int) < (l2 : Int) := by have := K2.out; have := Z3.out; omega
      have hq0 : (0 : Int) ≤ (q : Int) := by omega
      have hq : IntKind.i64.wrap (s * 168 + r) = (q : Int) := by rw [IntKind.wrap_i64]; omega
      have hq' : s * 168 + r = (q : Int) := by omega
      have hSX : S + X ≤ 1000000000000 := by
        have : (j : Int) * 1001000000 ≤ 168 * 1001000000 := by omega
        omega
      have hVY : V + Y ≤ 1000000000000 := by
        have : (j : Int) * 1001000000 ≤ 168 * 1001000000 := by omega
        omega
      have hS0 := hSb.1
      have hV0 := hVb.1
      have hX0 := hbx.1
      have hY0 := hby.1
      clear hSb hVb hbx hby q1 q2
      go_wp2_with fail
      refine (HCX.out _).mono ?_
      rintro er w' ⟨rfl, rfl⟩
      go_wp2_with fail
      refine (HCY.out _).mono ?_
      rintro er w' ⟨rfl, rfl⟩
      go_wp2_with fail
      go_round
      case rel => exact ⟨j + 1, S + X, V + Y, by omega, by go_num, by go_num, by go_num, HNX.out.symm, HNY.out.symm⟩
      case measure => simp [intOf]; omega
    · have hjh : j = hn := by omega
      subst hjh
      have HT' : Hid (T = (S, V, 0)) := by show T = _; rw [HT.out, hS.out, hV.out]
      clear hS hV
      go_wp2_with fail
      go_ret3
      exact go3 HT' HB.out

set_option maxRecDepth 100000 in
set_option maxHeartbeats 4000000 in
theorem refExpected_any (st k p s sl h : Int) (xs ys : List Int) (a1 : Option Addr) (l1 c1 : Nat) (a2 : Option Addr) (l2 c2 : Nat) (w : World) (h1 : Sl w 1 a1 l1 c1 (cs i64v xs)) (h2 : Sl w 1 a2 l2 c2 (cs i64v ys)) :
    Calls Try.prog 46 #[cntV st a1 l1 c1 a2 l2 c2, .int .i64 k, .int .i64 p, .int .i64 s, .int .i64 sl, .int .i64 h] w (RetT3 (expc st xs ys k p s sl h) w) := by
  unfold cntV
  obtain ⟨T, hT⟩ : ∃ T, expc st xs ys k p s sl h = T := ⟨_, rfl⟩
  rw [hT]
  obtain ⟨e, he⟩ : ∃ e, okC st xs ys = e := ⟨_, rfl⟩
  unfold expc at hT
  rw [he] at hT
  have HE := Lib.hid he
  have H1 := Lib.hid h1
  have H2 := Lib.hid h2
  clear h1 h2
  by_cases q0 : e = 0
  · subst q0
    rw [if_neg (by decide)] at hT
    obtain ⟨z0, z1, z2, z3, z4, z5⟩ := okC_ok he
    have Z4 := Lib.hid z4
    have Z5 := Lib.hid z5
    clear z4 z5 he
    by_cases q1 : s < 0
    · skip
      clear z2 z3
      rw [if_pos (.inl q1)] at hT
      have HT := Lib.hid hT.symm
      clear hT
      go_enter Try.func46, Try.ntmps46
      go_wp2_with fail
      refine (refCheck_s HE H1 H2 (below_alloc _ _)).mono ?_
      rintro er w1 ⟨rfl, hb1⟩
      obtain ⟨d0, d1, d2, hB⟩ := ref_cells rfl hb1
      have HB := Lib.hid hB
      clear hb1 hB
      go_wp2_with fail
      go_ret3
      exact go3 HT HB.out
    · by_cases q2 : st ≤ s
      · skip
        clear z2 z3
        rw [if_pos (.inr q2)] at hT
        have HT := Lib.hid hT.symm
        clear hT
        go_enter Try.func46, Try.ntmps46
        go_wp2_with fail
        refine (refCheck_s HE H1 H2 (below_alloc _ _)).mono ?_
        rintro er w1 ⟨rfl, hb1⟩
        obtain ⟨d0, d1, d2, hB⟩ := ref_cells rfl hb1
        have HB := Lib.hid hB
        clear hb1 hB
        go_wp2_with fail
        go_ret3
        exact go3 HT HB.out
      · rw [if_neg (fun h => h.elim q1 q2)] at hT
        by_cases q4 : sl < 0
        · skip
          rw [if_pos (.inr (.inl q4))] at hT
          clear z2 z3
          have HT := Lib.hid hT.symm
          clear hT
          go_enter Try.func46, Try.ntmps46
          go_wp2_with fail
          refine (refCheck_s HE H1 H2 (below_alloc _ _)).mono ?_
          rintro er w1 ⟨rfl, hb1⟩
          obtain ⟨d0, d1, d2, hB⟩ := ref_cells rfl hb1
          have HB := Lib.hid hB
          clear hb1 hB
          go_wp2_with fail
          go_ret3
          exact go3 HT HB.out
        · skip
          by_cases q5 : 168 ≤ sl
          · skip
            rw [if_pos (.inr (.inr (.inl q5)))] at hT
            clear z2 z3
            have HT := Lib.hid hT.symm
            clear hT
            go_enter Try.func46, Try.ntmps46
            go_wp2_with fail
            refine (refCheck_s HE H1 H2 (below_alloc _ _)).mono ?_
            rintro er w1 ⟨rfl, hb1⟩
            obtain ⟨d0, d1, d2, hB⟩ := ref_cells rfl hb1
            have HB := Lib.hid hB
            clear hb1 hB
            go_wp2_with fail
            go_ret3
            exact go3 HT HB.out
          · skip
            by_cases q6 : h < 0
            · skip
              rw [if_pos (.inr (.inr (.inr (.inl q6))))] at hT
              clear z2 z3
              have HT := Lib.hid hT.symm
              clear hT
              go_enter Try.func46, Try.ntmps46
              go_wp2_with fail
              refine (refCheck_s HE H1 H2 (below_alloc _ _)).mono ?_
              rintro er w1 ⟨rfl, hb1⟩
              obtain ⟨d0, d1, d2, hB⟩ := ref_cells rfl hb1
              have HB := Lib.hid hB
              clear hb1 hB
              go_wp2_with fail
              go_ret3
              exact go3 HT HB.out
            · skip
              by_cases q7 : 168 < h
              · skip
                rw [if_pos (.inr (.inr (.inr (.inr q7))))] at hT
                clear z2 z3
                have HT := Lib.hid hT.symm
                clear hT
                go_enter Try.func46, Try.ntmps46
                go_wp2_with fail
                refine (refCheck_s HE H1 H2 (below_alloc _ _)).mono ?_
                rintro er w1 ⟨rfl, hb1⟩
                obtain ⟨d0, d1, d2, hB⟩ := ref_cells rfl hb1
                have HB := Lib.hid hB
                clear hb1 hB
                go_wp2_with fail
                go_ret3
                exact go3 HT HB.out
              · skip
                by_cases q8 : k < 0
                · skip
                  rw [if_pos (.inl (show ¬ okR k p from fun h => h (.inr (.inr (.inl q8)))))] at hT
                  clear z2 z3
                  have HT := Lib.hid hT.symm
                  clear hT
                  go_enter Try.func46, Try.ntmps46
                  go_wp2_with fail
                  refine (refCheck_s HE H1 H2 (below_alloc _ _)).mono ?_
                  rintro er w1 ⟨rfl, hb1⟩
                  obtain ⟨d0, d1, d2, hB⟩ := ref_cells rfl hb1
                  have HB := Lib.hid hB
                  clear hb1 hB
                  go_wp2_with fail
                  go_ret3
                  exact go3 HT HB.out
                · skip
                  by_cases q9 : 512 < k
                  · skip
                    rw [if_pos (.inl (show ¬ okR k p from fun h => h (.inr (.inr (.inr (.inl q9))))))] at hT
                    clear z2 z3
                    have HT := Lib.hid hT.symm
                    clear hT
                    go_enter Try.func46, Try.ntmps46
                    go_wp2_with fail
                    refine (refCheck_s HE H1 H2 (below_alloc _ _)).mono ?_
                    rintro er w1 ⟨rfl, hb1⟩
                    obtain ⟨d0, d1, d2, hB⟩ := ref_cells rfl hb1
                    have HB := Lib.hid hB
                    clear hb1 hB
                    go_wp2_with fail
                    go_ret3
                    exact go3 HT HB.out
                  · skip
                    by_cases q10 : p < 0
                    · skip
                      rw [if_pos (.inl (show ¬ okR k p from fun h => h (.inr (.inr (.inr (.inr (.inl q10)))))))] at hT
                      clear z2 z3
                      have HT := Lib.hid hT.symm
                      clear hT
                      go_enter Try.func46, Try.ntmps46
                      go_wp2_with fail
                      refine (refCheck_s HE H1 H2 (below_alloc _ _)).mono ?_
                      rintro er w1 ⟨rfl, hb1⟩
                      obtain ⟨d0, d1, d2, hB⟩ := ref_cells rfl hb1
                      have HB := Lib.hid hB
                      clear hb1 hB
                      go_wp2_with fail
                      go_ret3
                      exact go3 HT HB.out
                    · skip
                      by_cases q11 : 1000000 < p
                      · skip
                        rw [if_pos (.inl (show ¬ okR k p from fun h => h (.inr (.inr (.inr (.inr (.inr q11)))))))] at hT
                        clear z2 z3
                        have HT := Lib.hid hT.symm
                        clear hT
                        go_enter Try.func46, Try.ntmps46
                        go_wp2_with fail
                        refine (refCheck_s HE H1 H2 (below_alloc _ _)).mono ?_
                        rintro er w1 ⟨rfl, hb1⟩
                        obtain ⟨d0, d1, d2, hB⟩ := ref_cells rfl hb1
                        have HB := Lib.hid hB
                        clear hb1 hB
                        go_wp2_with fail
                        go_ret3
                        exact go3 HT HB.out
                      · skip
                        have q3 : okR k p := by unfold okR rateBad; omega
                        rw [if_neg (fun h => h.elim (fun h => h q3) (fun h => h.elim q4 (fun h => h.elim q5 (fun h => h.elim q6 q7))))] at hT
                        obtain ⟨hn, rfl⟩ := Int.eq_ofNat_of_zero_le (show 0 ≤ h by omega)
                        rw [Int.toNat_natCast] at hT
                        exact refExpected_ok st k p s sl hn xs ys a1 l1 c1 a2 l2 c2 w H1 H2 HE T (Lib.hid hT.symm) z0 z1 (Lib.hid z2) (Lib.hid z3) Z4 Z5 (Lib.hid q3) q1 q2 q4 q5 q7
  · rw [if_pos q0] at hT
    clear he
    have HT := Lib.hid hT.symm
    clear hT
    go_enter Try.func46, Try.ntmps46
    go_wp2_with fail
    refine (refCheck_s HE H1 H2 (below_alloc _ _)).mono ?_
    rintro er w1 ⟨rfl, hb1⟩
    obtain ⟨d0, d1, d2, hB⟩ := ref_cells rfl hb1
    have HB := Lib.hid hB
    clear hb1 hB
    go_wp2_with fail
    go_ret3
    exact go3 HT HB.out
end Go.Proofs.Ytfhmhkpplcbiiaa
