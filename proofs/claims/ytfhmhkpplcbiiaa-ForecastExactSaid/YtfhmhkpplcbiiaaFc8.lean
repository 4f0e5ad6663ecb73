/-
  FORECAST, THE WALKS: the reference's Case.
-/
import Derived.Test.YtfhmhkpplcbiiaaProg
import Derived.Test.YtfhmhkpplcbiiaaBase3
import Derived.Test.YtfhmhkpplcbiiaaBase5
import Derived.Test.YtfhmhkpplcbiiaaBase6
import Derived.Test.YtfhmhkpplcbiiaaBase7
import Derived.Test.YtfhmhkpplcbiiaaDrawP
import Derived.Test.YtfhmhkpplcbiiaaDraw4
import Derived.Test.YtfhmhkpplcbiiaaDraw5
import Derived.Test.YtfhmhkpplcbiiaaDraw6
import Derived.Test.YtfhmhkpplcbiiaaDrawL0
import Derived.Test.YtfhmhkpplcbiiaaDrawP2
import Derived.Test.YtfhmhkpplcbiiaaFcP
import Derived.Test.YtfhmhkpplcbiiaaFc1
import Derived.Test.YtfhmhkpplcbiiaaFc2
import Derived.Test.YtfhmhkpplcbiiaaFc3
import Derived.Test.YtfhmhkpplcbiiaaFc5
import Derived.Test.YtfhmhkpplcbiiaaFc6
import Derived.Test.YtfhmhkpplcbiiaaFcP2
import Derived.Test.YtfhmhkpplcbiiaaHeld
import Derived.BigQuiet
import Derived.Laws.StructEq
import Derived.StillTailTactics
import Derived.RegionTactic
import Derived.Deep.DeepCutAuto
import Derived.Deep.QuietTactic
import Derived.WalkSpells
import Derived.WalkLawsBesides
namespace Go.Proofs.Ytfhmhkpplcbiiaa
open Go.RowKit
set_option linter.unusedVariables false

theorem refExpected_s {st k p s sl h : Int} {xs ys : List Int} {a1 a2 : Option Addr} {l1 c1 l2 c2 : Nat} {o i e : Int} {w W : World} (hr : Hid (expc st xs ys k p s sl h = (o, i, e))) (h1 : Hid (Sl w 1 a1 l1 c1 (cs i64v xs))) (h2 : Hid (Sl w 1 a2 l2 c2 (cs i64v ys))) (hb : Below w.heap.size w W) :
    Calls Try.prog 46 #[.agg #[.int .i64 st, .slice a1 l1 c1, .slice a2 l2 c2], .int .i64 k, .int .i64 p, .int .i64 s, .int .i64 sl, .int .i64 h] W (fun q w' => q = .returned (.tuple #[.int .i64 o, .int .i64 i, .int .i64 e]) ∧ Below W.heap.size W w') := by
  have := refExpected_any st k p s sl h xs ys a1 l1 c1 a2 l2 c2 W (h1.out.ext hb) (h2.out.ext hb)
  rw [hr.out] at this
  exact this
theorem below_boxR {w W W' : World} {o : Obj} (hW : W = w.alloc o) (hb : Below W.heap.size W W') : Below w.heap.size w W' := by
  subst hW; exact below_step (below_alloc _ _) hb
theorem rnd_cases {n x : Int} {A q r : Int} (h : rnd n x = A) (hq : n / 1000 = q) (hr : n % 1000 = r) : (x < r ∧ q + 1 = A) ∨ (r ≤ x ∧ A = q) := by
  unfold rnd at h
  subst hq
  subst hr
  split at h <;> omega

set_option maxRecDepth 100000 in
set_option maxHeartbeats 4000000 in
theorem refCase_any (st k p s sl h : Int) (xs ys : List Int) (ws : List (BitVec 64)) (a1 : Option Addr) (l1 c1 : Nat) (a2 : Option Addr) (l2 c2 : Nat) (ao : Option Addr) (len cap : Nat) (w : World) (h1 : Sl w 1 a1 l1 c1 (cs i64v xs)) (h2 : Sl w 1 a2 l2 c2 (cs i64v ys)) (hs : Sl w 1 ao len cap (cs u64 ws)) (hlen : len ≤ 1000000000000) :
    Calls Try.prog 48 #[cntV st a1 l1 c1 a2 l2 c2, .int .i64 k, .int .i64 p, .int .i64 s, .int .i64 sl, .int .i64 h, .slice ao len cap] w (RetLE (caseF (expc st xs ys k p s sl h) ws) w) := by
  unfold cntV
  obtain ⟨⟨o, i, e⟩, hr⟩ : ∃ r, expc st xs ys k p s sl h = r := ⟨_, rfl⟩
  rw [hr]
  obtain ⟨T, hT⟩ : ∃ T, caseF (o, i, e) ws = T := ⟨_, rfl⟩
  rw [hT]
  have HR := Lib.hid hr
  have H1 := Lib.hid h1
  have H2 := Lib.hid h2
  have hcnt := hs.count
  have HS := Lib.hid hs
  clear h1 h2 hs
  by_cases he : e = 0
  · subst he
    obtain ⟨⟨o0, o1⟩, i0, i1⟩ := expc_bounds hr
    clear hr
    obtain ⟨⟨x, u, e1⟩, hx⟩ : ∃ r, below ws 1000 = r := ⟨_, rfl⟩
    by_cases he1 : e1 = 0
    · subst he1
      rw [caseF_2 hx] at hT
      obtain ⟨_, _, u0, u1, _, _⟩ := (below_props hx).1 rfl
      obtain ⟨u, rfl⟩ := Int.eq_ofNat_of_zero_le (show 0 ≤ u by omega)
      rw [Int.toNat_natCast] at hT
      have hul : u ≤ len := by omega
      obtain ⟨A0, A1⟩ := rnd_bounds x o0 o1
      have HX := Lib.hid hx
      obtain ⟨a', hrun, hs'⟩ := slice_from (P := Try.prog) 39 35 Try.underlying39 sizeW HS.out u hul
      have HS' := Lib.hid hs'
      have hcnt2 := hs'.count
      clear hx hs' u1
      obtain ⟨⟨y, v, e2⟩, hy⟩ : ∃ r, below (ws.drop u) 1000 = r := ⟨_, rfl⟩
      by_cases he2 : e2 = 0
      · subst he2
        rw [case2_2 hy] at hT
        obtain ⟨_, _, v0, v1, _, _⟩ := (below_props hy).1 rfl
        obtain ⟨v, rfl⟩ := Int.eq_ofNat_of_zero_le (show 0 ≤ v by omega)
        rw [Int.toNat_natCast, List.drop_drop] at hT
        have huv : u + v ≤ len := by omega
        obtain ⟨B0, B1⟩ := rnd_bounds y i0 i1
        have HY := Lib.hid hy
        clear hy
        obtain ⟨a'', hrun2, hs''⟩ := slice_from (P := Try.prog) 39 35 Try.underlying39 sizeW HS.out (u + v) huv
        have HS'' := Lib.hid hs''
        obtain ⟨A, hA⟩ : ∃ A, rnd o x = A := ⟨_, rfl⟩
        obtain ⟨B, hB⟩ : ∃ B, rnd i y = B := ⟨_, rfl⟩
        rw [hA] at hT A0 A1
        rw [hB] at hT B0 B1
        rw [show ((u + v : Nat) : Int) = (u : Int) + (v : Int) from by omega] at hrun2
        have huv0 : (0 : Int) ≤ (u : Int) := by omega
        have huv1 : (0 : Int) ≤ (v : Int) := by omega
        have huv2 : (u : Int) + (v : Int) ≤ 1000000000000 := by omega
        obtain ⟨q1, hq1⟩ : ∃ q, o / 1000 = q := ⟨_, rfl⟩
        obtain ⟨r1, hr1⟩ : ∃ q, o % 1000 = q := ⟨_, rfl⟩
        obtain ⟨q2, hq2⟩ : ∃ q, i / 1000 = q := ⟨_, rfl⟩
        obtain ⟨r2, hr2⟩ : ∃ q, i % 1000 = q := ⟨_, rfl⟩
        have hrem1 := fun t => i64_rem t o 1000 o0 (by omega) (by omega)
        have hquo1 := fun t => i64_quo t o 1000 o0 (by omega) (by omega)
        have hrem1' : o.tmod 1000 = o % 1000 := Int.tmod_eq_emod_of_nonneg o0
        have hquo1' : o.tdiv 1000 = o / 1000 := Int.tdiv_eq_ediv_of_nonneg o0
        have hrem2 := fun t => i64_rem t i 1000 i0 (by omega) (by omega)
        have hquo2 := fun t => i64_quo t i 1000 i0 (by omega) (by omega)
        have hrem2' : i.tmod 1000 = i % 1000 := Int.tmod_eq_emod_of_nonneg i0
        have hquo2' : i.tdiv 1000 = i / 1000 := Int.tdiv_eq_ediv_of_nonneg i0
        have hA' := rnd_cases hA hq1 hr1
        have hB' := rnd_cases hB hq2 hr2
        have hq1b : 0 ≤ q1 ∧ q1 ≤ 200000000 := by omega
        have hq2b : 0 ≤ q2 ∧ q2 ≤ 200000000 := by omega
        obtain ⟨hq1b, hq1c⟩ := hq1b
        obtain ⟨hq2b, hq2c⟩ := hq2b
        rw [hr1] at hrem1 hrem1'
        rw [hr2] at hrem2 hrem2'
        rw [hq1] at hquo1 hquo1'
        rw [hq2] at hquo2 hquo2'
        clear hq1 hq2 hr1 hr2 hA hB hcnt hcnt2 hs'' v1
        by_cases hAB : 64 < A + B
        · rw [caseB_1 hAB] at hT
          have HT := Lib.hid hT.symm
          clear hT
          rcases hA' with ⟨hx1, hA⟩ | ⟨hx1, rfl⟩ <;> rcases hB' with ⟨hy1, hB⟩ | ⟨hy1, rfl⟩
          all_goals
            go_enter Try.func48, Try.ntmps48
            go_wp2_with fail
            refine (refExpected_s HR H1 H2 (below_alloc _ _)).mono ?_
            rintro er w1 ⟨rfl, hb1⟩
            have HB1 := Lib.hid (below_boxR rfl hb1)
            clear hb1
            go_wp2_with fail
            refine (refBelow_val (HS.out.ext HB1.out) hlen HX).mono ?_
            rintro er w2 ⟨rfl, hb2⟩
            have HB2 := Lib.hid (below_step HB1.out hb2)
            clear hb2
            go_wp2_with fail
            refine (refBelow_val (HS'.out.ext HB2.out) (by omega) HY).mono ?_
            rintro er w3 ⟨rfl, hb3⟩
            have HB3 := Lib.hid (below_step HB2.out hb3)
            clear hb3
            go_wp2_with fail
            go_ret2
            exact retLE_nil HT.out HB3.out
        · obtain ⟨⟨L, e3⟩, hL⟩ : ∃ r, shuffle (ws.drop (u + v)) (A + B) = r := ⟨_, rfl⟩
          rw [caseB_2 hAB hL] at hT
          obtain ⟨len1, len2, len3⟩ := shuffle_len hL
          have he4 := shuffle_err4 (by omega) (by omega) hL
          have HL := Lib.hid hL
          clear hL
          by_cases he3 : e3 = 0
          · subst he3
            rw [if_neg (fun h : (0 : Int) ≠ 0 => h rfl)] at hT
            have HT := Lib.hid hT.symm
            clear hT len2 len3 he4
            rcases hA' with ⟨hx1, hA⟩ | ⟨hx1, rfl⟩ <;> rcases hB' with ⟨hy1, hB⟩ | ⟨hy1, rfl⟩
            all_goals
              go_enter Try.func48, Try.ntmps48
              go_wp2_with fail
              refine (refExpected_s HR H1 H2 (below_alloc _ _)).mono ?_
              rintro er w1 ⟨rfl, hb1⟩
              have HB1 := Lib.hid (below_boxR rfl hb1)
              clear hb1
              go_wp2_with fail
              refine (refBelow_val (HS.out.ext HB1.out) hlen HX).mono ?_
              rintro er w2 ⟨rfl, hb2⟩
              have HB2 := Lib.hid (below_step HB1.out hb2)
              clear hb2
              go_wp2_with fail
              refine (refBelow_val (HS'.out.ext HB2.out) (by omega) HY).mono ?_
              rintro er w3 ⟨rfl, hb3⟩
              have HB3 := Lib.hid (below_step HB2.out hb3)
              clear hb3
              go_wp2_with fail
              refine (refShuffle_val (HS''.out.ext HB3.out) (by omega) HL).mono ?_
              rintro er w4 ⟨ap, m, c, rfl, s4, hm, hb4⟩
              have S4 := Lib.hid s4
              have HM := Lib.hid hm
              have HB4 := Lib.hid (below_step HB3.out hb4)
              have hm' : m ≤ 256 := by omega
              have HCL := Lib.hid s4.count
              clear s4 hm hb4
              go_wp2_with fail
              go_loopw [26, 27] (fun v i wr => ∃ (k : Nat) (S : List Int), k ≤ m ∧ i = .int .i64 k ∧ Hid (S = stepsL A (L.take k)) ∧ wr.ownsRow w4.heap.size 3 1 v k (cs i64v S) ∧ Hid (Below w4.heap.size w4 wr)) (fun _ i _ => m - (intOf i).toNat)
              case atStart => exact ⟨0, [], by omega, rfl, rfl, World.ownsRow_nil _ _ _ _, Lib.hid (Below.refl _ _)⟩
              case round =>
                obtain ⟨k, S, hk, rfl, hS, ho, hb⟩ := hrel
                have hz5 := hb.out.size
                by_cases hkm : k < m
                · have hkm' : (k : Int) < (m : Int) := by omega
                  have hk0 : (0 : Int) ≤ (k : Int) := by omega
                  obtain ⟨b, off, e0, hcell⟩ := (S4.out.ext hb.out).at_ k hkm 0
                  subst e0
                  have hcell' : wr.cell? ⟨b, off + k, none⟩ = some (.int .i64 (L.getD k 0)) := hcell
                  have hnext := stepsL_take (by rw [HCL.out]; exact hkm) hS.out
                  clear hcell hS
                  by_cases hlt : L.getD k 0 < A
                  · rw [stepOf_lt hlt] at hnext
                    have HN := Lib.hid hnext
                    clear hnext
                    generalize L.getD k 0 = q at *
                    go_wp2_with (at_builtin; refine wpList_append_one i64v (fun _ => rfl) _ rfl _ _ 23 rfl w4.heap.size 3 _ (.int .i64 0) 8 Try.underlying23 infoI rfl (.own ho) rfl (-1) rfl (by unfold maxLen; omega) (by omega) (by omega) ?_)
                    intro v2 w2 ho2 hg2 hb2
                    go_wp2
                    go_roundw
                    case rel => exact ⟨k + 1, _, by omega, by go_num, HN.out, ho2, Lib.hid (hb.out.trans hb2)⟩
                    case measure => simp [intOf]; omega
                  · rw [stepOf_ge hlt] at hnext
                    have HN := Lib.hid hnext
                    clear hnext
                    generalize L.getD k 0 = q at *
                    go_wp2_with (at_builtin; refine wpList_append_one i64v (fun _ => rfl) _ rfl _ _ 23 rfl w4.heap.size 3 _ (.int .i64 0) 8 Try.underlying23 infoI rfl (.own ho) rfl 1 rfl (by unfold maxLen; omega) (by omega) (by omega) ?_)
                    intro v2 w2 ho2 hg2 hb2
                    go_wp2
                    go_roundw
                    case rel => exact ⟨k + 1, _, by omega, by go_num, HN.out, ho2, Lib.hid (hb.out.trans hb2)⟩
                    case measure => simp [intOf]; omega
                · have hkm' : ¬ (k : Int) < (m : Int) := by omega
                  have hke : k = m := by omega
                  subst hke
                  have hS' : S = stepsL A L := by rw [hS.out, List.take_of_length_le (by rw [HCL.out]; exact Nat.le_refl _)]
                  subst hS'
                  clear hS
                  go_wp2
                  go_ret2
                  exact ⟨_, k, by rw [HT.out]; rfl, by rw [HT.out]; exact ownsRow_mono ho HB4.out.size, below_step HB4.out hb.out⟩
          · rw [if_pos he3] at hT
            have HT := Lib.hid hT.symm
            obtain rfl := he4 he3
            clear hT len2 len3 he4
            rcases hA' with ⟨hx1, hA⟩ | ⟨hx1, rfl⟩ <;> rcases hB' with ⟨hy1, hB⟩ | ⟨hy1, rfl⟩
            all_goals
              go_enter Try.func48, Try.ntmps48
              go_wp2_with fail
              refine (refExpected_s HR H1 H2 (below_alloc _ _)).mono ?_
              rintro er w1 ⟨rfl, hb1⟩
              have HB1 := Lib.hid (below_boxR rfl hb1)
              clear hb1
              go_wp2_with fail
              refine (refBelow_val (HS.out.ext HB1.out) hlen HX).mono ?_
              rintro er w2 ⟨rfl, hb2⟩
              have HB2 := Lib.hid (below_step HB1.out hb2)
              clear hb2
              go_wp2_with fail
              refine (refBelow_val (HS'.out.ext HB2.out) (by omega) HY).mono ?_
              rintro er w3 ⟨rfl, hb3⟩
              have HB3 := Lib.hid (below_step HB2.out hb3)
              clear hb3
              go_wp2_with fail
              refine (refShuffle_val (HS''.out.ext HB3.out) (by omega) HL).mono ?_
              rintro er w4 ⟨ap, m, c, rfl, s4, hm, hb4⟩
              have HB4 := Lib.hid (below_step HB3.out hb4)
              clear s4 hm hb4
              go_wp2_with fail
              go_ret2
              exact retLE_nil HT.out HB4.out
      · rw [case2_1 hy he2] at hT
        obtain rfl := below_err4 hy he2
        have HY := Lib.hid hy
        have HT := Lib.hid hT.symm
        clear hy hT
        go_enter Try.func48, Try.ntmps48
        go_wp2_with fail
        refine (refExpected_s HR H1 H2 (below_alloc _ _)).mono ?_
        rintro er w1 ⟨rfl, hb1⟩
        have HB1 := Lib.hid (below_boxR rfl hb1)
        clear hb1
        go_wp2_with fail
        refine (refBelow_val (HS.out.ext HB1.out) hlen HX).mono ?_
        rintro er w2 ⟨rfl, hb2⟩
        have HB2 := Lib.hid (below_step HB1.out hb2)
        clear hb2
        go_wp2_with fail
        refine (refBelow_val (HS'.out.ext HB2.out) (by omega) HY).mono ?_
        rintro er w3 ⟨rfl, hb3⟩
        have HB3 := Lib.hid (below_step HB2.out hb3)
        clear hb3
        go_wp2_with fail
        go_ret2
        exact retLE_nil HT.out HB3.out
    · rw [caseF_1 hx he1] at hT
      obtain rfl := below_err4 hx he1
      have HX := Lib.hid hx
      have HT := Lib.hid hT.symm
      clear hx hT
      go_enter Try.func48, Try.ntmps48
      go_wp2_with fail
      refine (refExpected_s HR H1 H2 (below_alloc _ _)).mono ?_
      rintro er w1 ⟨rfl, hb1⟩
      have HB1 := Lib.hid (below_boxR rfl hb1)
      clear hb1
      go_wp2_with fail
      refine (refBelow_val (HS.out.ext HB1.out) hlen HX).mono ?_
      rintro er w2 ⟨rfl, hb2⟩
      have HB2 := Lib.hid (below_step HB1.out hb2)
      clear hb2
      go_wp2_with fail
      go_ret2
      exact retLE_nil HT.out HB2.out
  · rw [caseF_e he] at hT
    have HT := Lib.hid hT.symm
    clear hT hr
    go_enter Try.func48, Try.ntmps48
    go_wp2_with fail
    refine (refExpected_s HR H1 H2 (below_alloc _ _)).mono ?_
    rintro er w1 ⟨rfl, hb1⟩
    have HB1 := Lib.hid (below_boxR rfl hb1)
    clear hb1
    go_wp2_with fail
    go_ret2
    exact retLE_nil HT.out HB1.out
end Go.Proofs.Ytfhmhkpplcbiiaa
