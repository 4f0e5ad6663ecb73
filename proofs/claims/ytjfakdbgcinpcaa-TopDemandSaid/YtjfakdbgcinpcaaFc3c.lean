/-
  FORECAST, THE WALKS: Expected.
-/
import Derived.Test.YtjfakdbgcinpcaaProg
import Derived.Test.YtjfakdbgcinpcaaBase7
import Derived.Test.YtjfakdbgcinpcaaDraw4
import Derived.Test.YtjfakdbgcinpcaaFcP
import Derived.Test.YtjfakdbgcinpcaaFc1
import Derived.Test.YtjfakdbgcinpcaaFc2
import Derived.Test.YtjfakdbgcinpcaaFc3
import Derived.Test.YtjfakdbgcinpcaaFc3b
import Derived.Test.YtjfakdbgcinpcaaHeld
import Derived.BigQuiet
import Derived.Laws.StructEq
import Derived.StillTailTactics
import Derived.RegionTactic
import Derived.Deep.DeepCutAuto
import Derived.Deep.QuietTactic
import Derived.WalkSpells
import Derived.WalkLawsBesides
namespace Go.Proofs.Ytjfakdbgcinpcaa
open Go.RowKit
set_option linter.unusedVariables false

set_option maxRecDepth 100000 in
set_option maxHeartbeats 4000000 in
theorem expected_any (st k p s sl h : Int) (xs ys : List Int) (a1 : Option Addr) (l1 c1 : Nat) (a2 : Option Addr) (l2 c2 : Nat) (w : World) (h1 : Sl w 1 a1 l1 c1 (cs i64v xs)) (h2 : Sl w 1 a2 l2 c2 (cs i64v ys)) :
    Calls Try.prog 15 #[cntV st a1 l1 c1 a2 l2 c2, .int .i64 k, .int .i64 p, .int .i64 s, .int .i64 sl, .int .i64 h] w (RetT3 (expc st xs ys k p s sl h) w) := by
  have hmf : ∀ (fn : Fn) (first cap : Array Value) (w : World), (Instr.makeFunc fn first cap).run Try.prog w = .ok (.func fn first cap) w := fun _ _ _ _ => rfl
  unfold cntV
  obtain ⟨T, hT⟩ : ∃ T, expc st xs ys k p s sl h = T := ⟨_, rfl⟩
  rw [hT]
  obtain ⟨e, he⟩ : ∃ e, okC st xs ys = e := ⟨_, rfl⟩
  unfold expc at hT
  rw [he] at hT
  have HE := Lib.hid he
  have H1 := Lib.hid h1
  have H2 := Lib.hid h2
  have K1 := Lib.hid h1.count
  have K2 := Lib.hid h2.count
  clear h1 h2
  by_cases q0 : e = 0
  · subst q0
    rw [if_neg (by decide)] at hT
    obtain ⟨z0, z1, z2, z3, z4, z5⟩ := okC_ok he
    have Z4 := Lib.hid z4
    have Z5 := Lib.hid z5
    clear z4 z5 he
    by_cases q1 : s < 0
    · skip
      clear z2 z3
      rw [if_pos (.inl q1)] at hT
      have HT := Lib.hid hT.symm
      clear hT
      go_enter Try.func15, Try.ntmps15
      go_wp2_with fail
      refine (check_s HE H1 H2 (below6 _ _ _ _ _ _ _)).mono ?_
      rintro er w1 ⟨rfl, hb1⟩
      obtain ⟨d0, d1, d2, d3, d4, d5, d6, d7, hB⟩ := exp_cells rfl hb1
      have HB := Lib.hid hB
      clear hb1 hB
      go_wp2_with fail
      go_ret3
      exact go3 HT HB.out
    · by_cases q2 : st ≤ s
      · skip
        clear z2 z3
        rw [if_pos (.inr q2)] at hT
        have HT := Lib.hid hT.symm
        clear hT
        go_enter Try.func15, Try.ntmps15
        go_wp2_with fail
        refine (check_s HE H1 H2 (below6 _ _ _ _ _ _ _)).mono ?_
        rintro er w1 ⟨rfl, hb1⟩
        obtain ⟨d0, d1, d2, d3, d4, d5, d6, d7, hB⟩ := exp_cells rfl hb1
        have HB := Lib.hid hB
        clear hb1 hB
        go_wp2_with fail
        go_ret3
        exact go3 HT HB.out
      · rw [if_neg (fun h => h.elim q1 q2)] at hT
        by_cases q3 : okR k p
        · have HRT := Lib.hid (rate_ok (c := 0) q3)
          have HQ3 := Lib.hid q3
          by_cases q4 : sl < 0
          · skip
            rw [if_pos (.inr (.inl q4))] at hT
            clear z2 z3 q3
            generalize rq 0 k p = R at *
            have HT := Lib.hid hT.symm
            clear hT
            go_enter Try.func15, Try.ntmps15
            go_wp2_with fail
            refine (check_s HE H1 H2 (below6 _ _ _ _ _ _ _)).mono ?_
            rintro er w1 ⟨rfl, hb1⟩
            obtain ⟨d0, d1, d2, d3, d4, d5, d6, d7, hB⟩ := exp_cells rfl hb1
            have HB := Lib.hid hB
            clear hb1 hB
            go_wp2_with fail
            refine (rate_any 0 k p _).mono ?_
            rw [HRT.out]
            rintro er w' ⟨rfl, rfl⟩
            go_wp2_with fail
            go_ret3
            exact go3 HT HB.out
          · skip
            by_cases q5 : 168 ≤ sl
            · skip
              rw [if_pos (.inr (.inr (.inl q5)))] at hT
              clear z2 z3 q3
              generalize rq 0 k p = R at *
              have HT := Lib.hid hT.symm
              clear hT
              go_enter Try.func15, Try.ntmps15
              go_wp2_with fail
              refine (check_s HE H1 H2 (below6 _ _ _ _ _ _ _)).mono ?_
              rintro er w1 ⟨rfl, hb1⟩
              obtain ⟨d0, d1, d2, d3, d4, d5, d6, d7, hB⟩ := exp_cells rfl hb1
              have HB := Lib.hid hB
              clear hb1 hB
              go_wp2_with fail
              refine (rate_any 0 k p _).mono ?_
              rw [HRT.out]
              rintro er w' ⟨rfl, rfl⟩
              go_wp2_with fail
              go_ret3
              exact go3 HT HB.out
            · skip
              by_cases q6 : h < 0
              · skip
                rw [if_pos (.inr (.inr (.inr (.inl q6))))] at hT
                clear z2 z3 q3
                generalize rq 0 k p = R at *
                have HT := Lib.hid hT.symm
                clear hT
                go_enter Try.func15, Try.ntmps15
                go_wp2_with fail
                refine (check_s HE H1 H2 (below6 _ _ _ _ _ _ _)).mono ?_
                rintro er w1 ⟨rfl, hb1⟩
                obtain ⟨d0, d1, d2, d3, d4, d5, d6, d7, hB⟩ := exp_cells rfl hb1
                have HB := Lib.hid hB
                clear hb1 hB
                go_wp2_with fail
                refine (rate_any 0 k p _).mono ?_
                rw [HRT.out]
                rintro er w' ⟨rfl, rfl⟩
                go_wp2_with fail
                go_ret3
                exact go3 HT HB.out
              · skip
                by_cases q7 : 168 < h
                · skip
                  rw [if_pos (.inr (.inr (.inr (.inr q7))))] at hT
                  clear z2 z3 q3
                  generalize rq 0 k p = R at *
                  have HT := Lib.hid hT.symm
                  clear hT
                  go_enter Try.func15, Try.ntmps15
                  go_wp2_with fail
                  refine (check_s HE H1 H2 (below6 _ _ _ _ _ _ _)).mono ?_
                  rintro er w1 ⟨rfl, hb1⟩
                  obtain ⟨d0, d1, d2, d3, d4, d5, d6, d7, hB⟩ := exp_cells rfl hb1
                  have HB := Lib.hid hB
                  clear hb1 hB
                  go_wp2_with fail
                  refine (rate_any 0 k p _).mono ?_
                  rw [HRT.out]
                  rintro er w' ⟨rfl, rfl⟩
                  go_wp2_with fail
                  go_ret3
                  exact go3 HT HB.out
                · skip
                  rw [if_neg (fun h => h.elim (fun h => h q3) (fun h => h.elim q4 (fun h => h.elim q5 (fun h => h.elim q6 q7))))] at hT
                  obtain ⟨hn, rfl⟩ := Int.eq_ofNat_of_zero_le (show 0 ≤ h by omega)
                  rw [Int.toNat_natCast] at hT
                  exact expected_ok st k p s sl hn xs ys a1 l1 c1 a2 l2 c2 w H1 H2 HE T (Lib.hid hT.symm) z0 z1 (Lib.hid z2) (Lib.hid z3) Z4 Z5 HQ3 q1 q2 q4 q5 q7
        · rw [if_pos (.inl q3)] at hT
          have HRT : Hid (rate 0 k p = (0, 1)) := by show rate 0 k p = _; unfold rate; exact if_pos (Decidable.not_not.mp q3)
          clear z2 z3 q3
          have HT := Lib.hid hT.symm
          clear hT
          go_enter Try.func15, Try.ntmps15
          go_wp2_with fail
          refine (check_s HE H1 H2 (below6 _ _ _ _ _ _ _)).mono ?_
          rintro er w1 ⟨rfl, hb1⟩
          obtain ⟨d0, d1, d2, d3, d4, d5, d6, d7, hB⟩ := exp_cells rfl hb1
          have HB := Lib.hid hB
          clear hb1 hB
          go_wp2_with fail
          refine (rate_any 0 k p _).mono ?_
          rw [HRT.out]
          rintro er w' ⟨rfl, rfl⟩
          go_wp2_with fail
          go_ret3
          exact go3 HT HB.out
  · rw [if_pos q0] at hT
    clear he
    have HT := Lib.hid hT.symm
    clear hT
    go_enter Try.func15, Try.ntmps15
    go_wp2_with fail
    refine (check_s HE H1 H2 (below6 _ _ _ _ _ _ _)).mono ?_
    rintro er w1 ⟨rfl, hb1⟩
    obtain ⟨d0, d1, d2, d3, d4, d5, d6, d7, hB⟩ := exp_cells rfl hb1
    have HB := Lib.hid hB
    clear hb1 hB
    go_wp2_with fail
    go_ret3
    exact go3 HT HB.out
end Go.Proofs.Ytjfakdbgcinpcaa
