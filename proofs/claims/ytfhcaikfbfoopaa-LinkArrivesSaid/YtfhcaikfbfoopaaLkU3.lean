/-
  LINK, THE LAWS: the world's move, kinds 2 and 4.
-/
import Derived.Test.YtfhcaikfbfoopaaProg
import Derived.Test.YtfhcaikfbfoopaaBase1
import Derived.Test.YtfhcaikfbfoopaaBase2
import Derived.Test.YtfhcaikfbfoopaaBase3
import Derived.Test.YtfhcaikfbfoopaaBase5
import Derived.Test.YtfhcaikfbfoopaaBase6
import Derived.Test.YtfhcaikfbfoopaaBase11
import Derived.Test.YtfhcaikfbfoopaaBase14
import Derived.Test.YtfhcaikfbfoopaaHeld
import Derived.Test.YtfhcaikfbfoopaaFlat
import Derived.Test.YtfhcaikfbfoopaaLkP
import Derived.Test.YtfhcaikfbfoopaaLk1
import Derived.Test.YtfhcaikfbfoopaaLk2
import Derived.Test.YtfhcaikfbfoopaaLk3
import Derived.Test.YtfhcaikfbfoopaaLk4
import Derived.Test.YtfhcaikfbfoopaaLk5
import Derived.Test.YtfhcaikfbfoopaaLk6
import Derived.Test.YtfhcaikfbfoopaaLk7
import Derived.Test.YtfhcaikfbfoopaaLk8
import Derived.Test.YtfhcaikfbfoopaaLk9
import Derived.Test.YtfhcaikfbfoopaaLkT
import Derived.Test.YtfhcaikfbfoopaaLkS
import Derived.Test.YtfhcaikfbfoopaaLkM
import Derived.Test.YtfhcaikfbfoopaaLkV
import Derived.Test.YtfhcaikfbfoopaaLkU
import Derived.BigQuiet
import Derived.Laws.StructEq
import Derived.StillTailTactics
import Derived.RegionTactic
import Derived.BigRegion
import Derived.Deep.RegionHeld3
import Derived.Deep.RegionLaw
import Derived.Deep.LoopGhost
import Derived.Deep.DeepCutAuto
import Derived.Deep.QuietTactic
import Derived.WalkSpells
import Derived.WalkLawsBesides
namespace Go.Proofs.Ytfhcaikfbfoopaa
open Go.RowKit Go.Maps
set_option linter.unusedVariables false

set_option maxRecDepth 100000 in
theorem pick_fix (m : Int) (k : Nat) (hk : 0 < k) (hk2 : (k : Int) ≤ 1000000) : ∃ i : Nat, i < k ∧ ∀ W, Calls Try.prog 37 #[.int .i64 m, .int .i64 (k : Int)] W (fun e W' => e = .returned (.int .i64 (i : Int)) ∧ W' = W) := by
  have hk0 : ¬ (k : Int) = 0 := by omega
  have hlt := Int.tmod_lt_of_pos m (show (0 : Int) < (k : Int) by omega)
  have hgt : -(k : Int) < m.tmod (k : Int) := by
    have := Int.tmod_lt_of_pos (-m) (show (0 : Int) < (k : Int) by omega)
    rw [Int.neg_tmod] at this
    omega
  obtain ⟨R, hR⟩ : ∃ R, m.tmod (k : Int) = R := ⟨_, rfl⟩
  rw [hR] at hlt hgt
  by_cases hneg : R < 0
  · refine ⟨(R + k).toNat, by omega, fun W => ?_⟩
    go_enter Try.func37, Try.ntmps37
    go_wp2
    go_ret
    exact ⟨by go_num, rfl⟩
  · refine ⟨R.toNat, by omega, fun W => ?_⟩
    go_enter Try.func37, Try.ntmps37
    go_wp2
    go_ret
    exact ⟨by go_num, rfl⟩
section
variable {w W : World} {wb g k r b n cnt : Nat} {v u sv ov av : Value} {xs ys : List Bv} {D : DataW Value} {f : Kf} {all : List (List UInt8)} {olds : List FrL} {aks : List Int}
theorem oldAt {oa : Option Addr} {oc A : Nat} (h : Hid (MvW w wb A g v k xs r b u n D ys f sv (.slice oa olds.length oc) av all olds aks W)) (hA : Hid (MvA all k xs ys f olds aks n cnt)) (hp : 0 < olds.length) : ∃ ob oo, oa = some ⟨ob, oo, none⟩ ∧ ∀ i, i < olds.length → ∃ (J : Nat) (z : Bv), J < all.length ∧ z.bs = all.getD J [] ∧ BdOk W w.heap.size z ∧ W.cell? ⟨ob, oo + i * 2, none⟩ = some (.int .i64 (J : Int)) ∧ W.cell? ⟨ob, oo + i * 2 + 1, none⟩ = some (.slice z.a z.bs.length z.c) := by
  obtain ⟨ao, cap, e, hs⟩ := sl_of_own h.out.od
  cases e
  obtain ⟨ob, oo, e, _⟩ := flat_at FrL.zero frA 2 (by decide) (fun _ => rfl) hs rfl 0 hp
  subst e
  refine ⟨ob, oo, rfl, fun i hi => ?_⟩
  obtain ⟨ob', oo', e, hc⟩ := flat_at FrL.zero frA 2 (by decide) (fun _ => rfl) hs rfl i hi
  cases e
  have hm : olds.getD i FrL.zero ∈ olds := by rw [List.getD_eq_getElem?_getD, List.getElem?_eq_getElem hi]; exact List.getElem_mem _
  obtain ⟨J, hJ, e1, e2⟩ := hA.out.old _ hm
  refine ⟨J, (olds.getD i FrL.zero).b, hJ, e2, h.out.ob _ hm, ?_, hc 1 _ rfl⟩
  rw [← e1]
  exact hc 0 _ rfl
set_option maxRecDepth 100000 in
set_option maxHeartbeats 8000000 in
theorem move_old (h : Hid (MvW w wb k g v k xs r b u n D ys f sv ov av all olds aks W)) (hA : MvA all k xs ys f olds aks n cnt) (hc : cnt ≤ 1000) (N : Int) :
    Calls Try.prog 34 #[.pointer (some ⟨wb, 0, none⟩), .agg #[.int .i64 2, .int .i64 N]] W (fun e W' => e = .returned (.bool true) ∧ Hid (MvSt w wb g r b (cnt + 1) W')) := by
  have HA := Lib.hid hA
  have HM1 := mvAlloc (o := .cells #[.int .i64 2, .int .i64 N] 71) h
  have hF : Hid ((W.alloc (.cells #[.int .i64 2, .int .i64 N] 71)).heap[W.heap.size]? = some (.cells #[.int .i64 2, .int .i64 N] 71)) := Lib.hid (hp_new rfl)
  obtain ⟨hsm, hkl, hyl⟩ := mva_sum hA
  have hsz := hA.sz
  have h16 := hA.x16
  have HSZ := Lib.hid (And.intro hsm (And.intro hkl (And.intro hyl hsz)))
  have HSM := Lib.hid (mva_small hA)
  have hk9 : (k : Int) ≤ 1048576 := by omega
  clear hA hsm hkl hyl hsz
  obtain ⟨c0, c1, c2, c3, c4, c5, fz⟩ := mvCells HM1
  go_enter Try.func34, Try.ntmps34
  go_upto_region 1 with (fail)
  generalize W.alloc (.cells #[.int .i64 2, .int .i64 N] 71) = W1 at *
  generalize W.heap.size = mb at *
  clear h
  go_wp2_with fail
  refine (frames_any (lkwS (mvS HM1)) hk9 h16 HSM.out.1).mono ?_
  rintro e w2 ⟨fa, fc, zs, rfl, hz, hf, hb2⟩
  have HM2 := mvBelow HM1 hb2
  have HF2 : Hid (w2.heap[mb]? = some (.cells #[.int .i64 2, .int .i64 N] 71)) := Lib.hid (blk_keepF (L := []) hF.out (Fx.ofBelow hb2) (by simp))
  have HZS := Lib.hid hz
  have HFR := Lib.hid (frW_newR (mvS HM1) hf.out)
  have HW0 := Lib.hid HM1.out.lk.lo.size
  clear c0 c1 c2 c3 c4 c5 fz hF HM1 hz hf hb2 hk9
  obtain ⟨c0, c1, c2, c3, c4, c5, fz⟩ := mvCells HM2
  obtain ⟨d0, d1, _, _⟩ := two_facts ⟨_, HF2.out⟩
  obtain ⟨oa, oc, e, _⟩ := sl_of_own HM2.out.od
  subst e
  by_cases h0 : olds.length = 0
  · have h0' : (olds.length : Int) = 0 := by omega
    go_upto_region 13 with (fail)
    go_quiet (fail)
    go_wp2
    go_ret
    exact ⟨rfl, Lib.hid ⟨v, k, xs, u, n, D, ys, f, sv, _, av, all, olds, aks, (mvBelow HM2 (below_drewN (Below.refl _ _) nq)).out, mva_same HA.out⟩⟩
  · have h0' : ¬ (olds.length : Int) = 0 := by omega
    obtain ⟨ob, oo, e, hol⟩ := oldAt HM2 HA (by omega)
    subst e
    have HOL := Lib.hid hol
    have hon : olds.length ≤ 1000 := by have := HA.out.on; omega
    obtain ⟨i, hi, hpk⟩ := pick_fix N olds.length (by omega) (by omega)
    obtain ⟨J, ⟨za, zc, zb⟩, hJ, hzb, hz, q0, q1⟩ := hol i hi
    dsimp only at q0 q1
    have hi0 : (0 : Int) ≤ (i : Int) := by omega
    have hi9 : (i : Int) < (olds.length : Int) := by omega
    have HJZ := Lib.hid (And.intro hJ (And.intro hzb hz))
    clear hJ hzb hz
    have HWT : Hid (∀ (J : Nat) (z : Bv), J < all.length → z.bs = all.getD J [] → BdOk w2 w.heap.size z → Calls Try.prog 36 #[.pointer (some ⟨wb, 0, none⟩), .agg #[.int .i64 (J : Int), .slice z.a z.bs.length z.c], .bool false] w2.drew (WtRet w w2.drew wb k g v k xs r b u n cnt D ys f sv (.slice (some ⟨ob, oo, none⟩) olds.length oc) av all olds aks J false)) := Lib.hid (fun J z hJ hzb hz => wtake (mvDrew HM2) HA.out J hJ z (hz.keep (L := []) (Fx.ofBelow (below_drew (Below.refl _ _))) (fun j hj => by simp at hj)) hzb false (fun h => by cases h) (by omega))
    clear hol
    go_upto_region 13 with (fail)
    refine wp_region_still_tail 22 (by kernel_rfl) (by kernel_rfl) ?_
    simp only [List.take_succ_cons, List.take_zero, List.drop_succ_cons, List.drop_zero]
    repeat still_step
    still_call (hpk _)
    repeat still_step
    refine wpStill_nil ?_
    go_wp2_with fail
    refine (HWT.out J ⟨za, zc, zb⟩ HJZ.out.1 HJZ.out.2.1 HJZ.out.2.2).mono ?_
    rintro e w4 ⟨rfl, u4, n4, D4, ys4, f4, ov4, olds4, HM4, HA4, _⟩
    go_wp2
    go_ret
    exact ⟨rfl, Lib.hid ⟨v, k, xs, u4, n4, D4, ys4, f4, sv, ov4, av, all, olds4, aks, HM4.out, HA4.out⟩⟩
set_option maxRecDepth 100000 in
set_option maxHeartbeats 8000000 in
theorem move_ack (h : Hid (MvW w wb k g v k xs r b u n D ys f sv ov av all olds aks W)) (hA : MvA all k xs ys f olds aks n cnt) (hc : cnt ≤ 1000) (N : Int) :
    Calls Try.prog 34 #[.pointer (some ⟨wb, 0, none⟩), .agg #[.int .i64 4, .int .i64 N]] W (fun e W' => e = .returned (.bool true) ∧ Hid (MvSt w wb g r b (cnt + 1) W')) := by
  have HA := Lib.hid hA
  have HM1 := mvAlloc (o := .cells #[.int .i64 4, .int .i64 N] 71) h
  have hF : Hid ((W.alloc (.cells #[.int .i64 4, .int .i64 N] 71)).heap[W.heap.size]? = some (.cells #[.int .i64 4, .int .i64 N] 71)) := Lib.hid (hp_new rfl)
  obtain ⟨hsm, hkl, hyl⟩ := mva_sum hA
  have hsz := hA.sz
  have h16 := hA.x16
  have HSZ := Lib.hid (And.intro hsm (And.intro hkl (And.intro hyl hsz)))
  have HSM := Lib.hid (mva_small hA)
  have hk9 : (k : Int) ≤ 1048576 := by omega
  clear hA hsm hkl hyl hsz
  obtain ⟨c0, c1, c2, c3, c4, c5, fz⟩ := mvCells HM1
  go_enter Try.func34, Try.ntmps34
  go_upto_region 1 with (fail)
  generalize W.alloc (.cells #[.int .i64 4, .int .i64 N] 71) = W1 at *
  generalize W.heap.size = mb at *
  clear h
  go_wp2_with fail
  refine (frames_any (lkwS (mvS HM1)) hk9 h16 HSM.out.1).mono ?_
  rintro e w2 ⟨fa, fc, zs, rfl, hz, hf, hb2⟩
  have HM2 := mvBelow HM1 hb2
  have HF2 : Hid (w2.heap[mb]? = some (.cells #[.int .i64 4, .int .i64 N] 71)) := Lib.hid (blk_keepF (L := []) hF.out (Fx.ofBelow hb2) (by simp))
  have HZS := Lib.hid hz
  have HFR := Lib.hid (frW_newR (mvS HM1) hf.out)
  have HW0 := Lib.hid HM1.out.lk.lo.size
  clear c0 c1 c2 c3 c4 c5 fz hF HM1 hz hf hb2 hk9
  obtain ⟨c0, c1, c2, c3, c4, c5, fz⟩ := mvCells HM2
  obtain ⟨d0, d1, _, _⟩ := two_facts ⟨_, HF2.out⟩
  obtain ⟨aa, ac, e, has⟩ := sl_of_own HM2.out.ak
  subst e
  by_cases h0 : aks.length = 0
  · have h0' : ¬ (0 : Int) < (aks.length : Int) := by omega
    go_wp2
    go_ret
    exact ⟨rfl, Lib.hid ⟨v, k, xs, u, n, D, ys, f, sv, ov, _, all, olds, aks, HM2.out, mva_same HA.out⟩⟩
  · have h0' : (0 : Int) < (aks.length : Int) := by omega
    have han : aks.length ≤ 1000 := by have := HA.out.an; omega
    obtain ⟨i, hi, hpk⟩ := pick_fix N aks.length (by omega) (by omega)
    obtain ⟨ab, ao, e, hq⟩ := has.at_ i hi 0
    subst e
    have hmem : aks.getD i 0 ∈ aks := by rw [List.getD_eq_getElem?_getD, List.getElem?_eq_getElem hi]; exact List.getElem_mem _
    obtain ⟨ha0, hak⟩ := HA.out.ak _ hmem
    obtain ⟨q, hqq⟩ : ∃ q, aks.getD i 0 = q := ⟨_, rfl⟩
    rw [hqq] at hq ha0 hak
    unfold i64v at hq
    have hi0 : (0 : Int) ≤ (i : Int) := by omega
    have hi9 : (i : Int) < (aks.length : Int) := by omega
    have HACK := Lib.hid (ack_same (lkwS (mvS (mvDrew HM2))) q ha0 hak (by have := HSZ.out; omega))
    clear hmem hqq ha0 hak has
    go_upto_region 20 with (fail)
    refine wp_region_still_tail 18 (by kernel_rfl) (by kernel_rfl) ?_
    simp only [List.take_succ_cons, List.take_zero, List.drop_succ_cons, List.drop_zero]
    repeat still_step
    still_call (hpk _)
    repeat still_step
    refine wpStill_nil ?_
    go_wp2_with fail
    refine HACK.out.mono ?_
    rintro e w4 ⟨rfl, hb4⟩
    have HM4 := mvBelow (mvDrew HM2) hb4
    go_wp2
    go_ret
    exact ⟨rfl, Lib.hid ⟨v, k, xs, u, n, D, ys, f, sv, ov, _, all, olds, aks, HM4.out, mva_same HA.out⟩⟩
end
end Go.Proofs.Ytfhcaikfbfoopaa
