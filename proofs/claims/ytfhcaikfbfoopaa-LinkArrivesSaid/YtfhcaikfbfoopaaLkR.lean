/-
  LINK, THE LAWS: the world's right.
-/
import Derived.Test.YtfhcaikfbfoopaaProg
import Derived.Test.YtfhcaikfbfoopaaBase1
import Derived.Test.YtfhcaikfbfoopaaBase2
import Derived.Test.YtfhcaikfbfoopaaBase3
import Derived.Test.YtfhcaikfbfoopaaBase5
import Derived.Test.YtfhcaikfbfoopaaBase6
import Derived.Test.YtfhcaikfbfoopaaBase11
import Derived.Test.YtfhcaikfbfoopaaBase14
import Derived.Test.YtfhcaikfbfoopaaHeld
import Derived.Test.YtfhcaikfbfoopaaFlat
import Derived.Test.YtfhcaikfbfoopaaLkP
import Derived.Test.YtfhcaikfbfoopaaLk1
import Derived.Test.YtfhcaikfbfoopaaLk2
import Derived.Test.YtfhcaikfbfoopaaLk3
import Derived.Test.YtfhcaikfbfoopaaLk4
import Derived.Test.YtfhcaikfbfoopaaLk5
import Derived.Test.YtfhcaikfbfoopaaLk6
import Derived.Test.YtfhcaikfbfoopaaLk7
import Derived.Test.YtfhcaikfbfoopaaLk8
import Derived.Test.YtfhcaikfbfoopaaLk9
import Derived.Test.YtfhcaikfbfoopaaLkT
import Derived.Test.YtfhcaikfbfoopaaLkS
import Derived.Test.YtfhcaikfbfoopaaLkM
import Derived.Test.YtfhcaikfbfoopaaLkV
import Derived.Test.YtfhcaikfbfoopaaLkU
import Derived.BigQuiet
import Derived.Laws.StructEq
import Derived.StillTailTactics
import Derived.RegionTactic
import Derived.BigRegion
import Derived.Deep.RegionHeld3
import Derived.Deep.RegionLaw
import Derived.Deep.DeepCutAuto
import Derived.Deep.QuietTactic
import Derived.WalkSpells
import Derived.WalkLawsBesides
namespace Go.Proofs.Ytfhcaikfbfoopaa
open Go.RowKit Go.Maps
set_option linter.unusedVariables false

section
variable {w w1 w2 : World} {a0 a1 a2 a3 : Addr} {v0 v1 v2 v3 : Value}
theorem keepR (hb : Below w1.heap.size w1 w2) (h : w1.cell? a0 = some v0 ∧ w1.cell? a1 = some v1 ∧ w1.cell? a2 = some v2 ∧ w1.cell? a3 = some v3 ∧ Below w.heap.size w w1) : w2.cell? a0 = some v0 ∧ w2.cell? a1 = some v1 ∧ w2.cell? a2 = some v2 ∧ w2.cell? a3 = some v3 ∧ Below w.heap.size w w2 := ⟨cell_keep hb h.1, cell_keep hb h.2.1, cell_keep hb h.2.2.1, cell_keep hb h.2.2.2.1, below_step h.2.2.2.2 hb⟩
theorem keepRD (h : w1.cell? a0 = some v0 ∧ w1.cell? a1 = some v1 ∧ w1.cell? a2 = some v2 ∧ w1.cell? a3 = some v3 ∧ Below w.heap.size w w1) : w1.drew.cell? a0 = some v0 ∧ w1.drew.cell? a1 = some v1 ∧ w1.drew.cell? a2 = some v2 ∧ w1.drew.cell? a3 = some v3 ∧ Below w.heap.size w w1.drew := keepR (below_drew (Below.refl _ _)) h
theorem keepRA (o : Obj) (h : w1.cell? a0 = some v0 ∧ w1.cell? a1 = some v1 ∧ w1.cell? a2 = some v2 ∧ w1.cell? a3 = some v3 ∧ Below w.heap.size w w1) : (w1.alloc o).cell? a0 = some v0 ∧ (w1.alloc o).cell? a1 = some v1 ∧ (w1.alloc o).cell? a2 = some v2 ∧ (w1.alloc o).cell? a3 = some v3 ∧ Below w.heap.size w (w1.alloc o) := keepR (below_alloc _ _) h
end
theorem sizeStr (w : World) : (sizeOf 9).run Try.prog w = .ok 1 w := by kernel_rfl
section
variable {w W : World} {wb g k r b n cnt : Nat} {v u sv ov av : Value} {xs ys : List Bv} {D : DataW Value} {f : Kf} {all : List (List UInt8)} {olds : List FrL} {aks : List Int}
set_option maxRecDepth 100000 in
set_option maxHeartbeats 8000000 in
theorem right_any (h : Hid (MvW w wb k g v k xs r b u n D ys f sv ov av all olds aks W)) (hA : MvA all k xs ys f olds aks n cnt) (hc : cnt ≤ 1000) :
    Calls Try.prog 35 #[.pointer (some ⟨wb, 0, none⟩)] W (RetB (.bool true) W) := by
  obtain ⟨hsm, hkl, hyl⟩ := mva_sum hA
  have hsz := hA.sz
  have h16 := hA.x16
  have hky := hA.kle
  have HSM := Lib.hid (mva_small hA)
  have HA := Lib.hid hA
  obtain ⟨c0, c1, c2, c3, c4, c5, fz⟩ := mvCells h
  go_enter Try.func35, Try.ntmps35
  go_wp2_with fail
  refine (out_any (lkwR (mvS h)) (by omega) HSM.out.2).mono ?_
  rintro e w2 ⟨oa, oc, zs, rfl, hz, ho, hb2⟩
  have HM2 := mvBelow h hb2
  have HO2 := Lib.hid ho.out
  have HZ := Lib.hid hz
  have HB2 := Lib.hid hb2
  clear c0 c1 c2 c3 c4 c5 fz hz ho hb2 h
  obtain ⟨c0, c1, c2, c3, c4, c5, fz⟩ := mvCells HM2
  obtain ⟨sa, sc, e, hst⟩ := sl_of_own HM2.out.st
  subst e
  have hg1 : ¬ (all.length : Int) < (ys.length : Int) := by omega
  have hg2 : ¬ (ys.length : Int) < (k : Int) := by omega
  have hn1 : ¬ all.length < ys.length := by omega
  have hn2 : ¬ ys.length < k := by omega
  have hd1 : decide (all.length < ys.length) = false := decide_eq_false hn1
  have hd2 : decide (ys.length < k) = false := decide_eq_false hn2
  have hd3 : decide ((all.length : Int) < (ys.length : Int)) = false := decide_eq_false hg1
  have hd4 : decide ((ys.length : Int) < (k : Int)) = false := decide_eq_false hg2
  have hw : IntKind.i64.wrap ((all.length : Int) - (k : Int)) = (xs.length : Int) := by rw [IntKind.wrap_i64]; omega
  have HAK : Hid (∀ W', Below w2.heap.size w2 W' → Calls Try.prog 31 #[.pointer (some ⟨r, 0, none⟩)] W' (fun e W'' => e = .returned (.int .i64 (ys.length : Int)) ∧ W'' = W')) := Lib.hid (fun W' hb => acked_any (lkwR (mvS (mvBelow HM2 hb))))
  have HFR : Hid (∀ W', Below w2.heap.size w2 W' → Calls Try.prog 26 #[.pointer (some ⟨g, 0, none⟩)] W' (RetFrs k xs W')) := Lib.hid (fun W' hb => frames_any (lkwS (mvS (mvBelow HM2 hb))) (by omega) h16 HSM.out.1)
  have HST := Lib.hid hst
  have HN := Lib.hid (And.intro hyl (And.intro hsz hc))
  have hS0 : w2.cell? ⟨wb, 0, none⟩ = some (.pointer (some ⟨g, 0, none⟩)) ∧ w2.cell? ⟨wb, 1, none⟩ = some (.pointer (some ⟨r, 0, none⟩)) ∧ w2.cell? ⟨wb, 2, none⟩ = some (.slice sa all.length sc) ∧ w2.cell? ⟨wb, 5, none⟩ = some (.int .i64 (k : Int)) ∧ Below w2.heap.size w2 w2 := ⟨c0, c1, c2, c5, Below.refl _ _⟩
  clear hsm hkl hyl hsz hky hA h16 hst c0 c1 c2 c3 c4 c5 fz
  go_upto_region 2 with (fail)
  go_cut [54] (fun q wx => q = .bool false ∧ Hid (Below w2.heap.size w2 wx))
  case first =>
    go_region_held3 (fun w9 => w9.cell? ⟨wb, 0, none⟩ = some (.pointer (some ⟨g, 0, none⟩)) ∧ w9.cell? ⟨wb, 1, none⟩ = some (.pointer (some ⟨r, 0, none⟩)) ∧ w9.cell? ⟨wb, 2, none⟩ = some (.slice sa all.length sc) ∧ w9.cell? ⟨wb, 5, none⟩ = some (.int .i64 (k : Int)) ∧ Below w2.heap.size w2 w9)
      (repeat (with_reducible first | assumption | refine keepRD ?_ | refine keepRA _ ?_ | (apply keepR; focus assumption)))
      (first
        | (go_at_call 31; (with_reducible refine (HAK.out _ ?_).mono ?_); (focus (first | assumption | exact below_drew (Below.refl _ _))); rintro e w8 ⟨rfl, rfl⟩)
        | (go_at_call 26; (with_reducible refine (HFR.out _ ?_).mono ?_); (focus (first | assumption | exact below_drew (Below.refl _ _))); rintro e w8 ⟨qa, qc, qs, rfl, _, _, hb8⟩))
    all_goals
      go_wp2_with fail
      go_meet
      exact ⟨rfl, by go_split_ands; assumption⟩
  case rest =>
    obtain ⟨rfl, hcut⟩ := hcut
    obtain ⟨w3, hw3⟩ : ∃ W', W' = wc := ⟨_, rfl⟩
    subst hw3
    have HM3 := mvBelow HM2 hcut.out
    have HO3 := Lib.hid (HO2.out.below hcut.out)
    have HB3 := Lib.hid (below_step HB2.out hcut.out)
    have hst3 := HST.out.ext hcut.out
    obtain ⟨c0, c1, c2, c3, c4, c5, fz⟩ := mvCells HM3
    obtain ⟨ta, htr, htl⟩ := slice_to (P := Try.prog) 33 9 Try.underlying33 sizeStr hst3 ys.length HN.out.1
    have hzl : zs.length = ys.length := by have := congrArg List.length HZ.out; simpa using this
    have hos : Sl w3 1 oa ys.length oc (cs bsv zs) := by
      obtain ⟨ao, cap, e, hs⟩ := sl_of_own HO3.out.row
      rw [hzl] at e hs
      cases e
      exact hs
    have htk : all.take ys.length = zs.map Bv.bs := by
      have := HA.out.inv.p.oo
      rw [List.length_map] at this
      rw [HZ.out]
      exact this.symm
    rw [htk] at htl
    have HSAME := Lib.hid (same_yes w3 oa ta ys.length oc _ zs (by have := HN.out; omega) hzl hos (fun y hy => (HO3.out.bds y hy).sl) htl)
    clear hzl hos htl htk hst3 hcut HST hn1 hn2 hd1 hd2 hd3 hd4 hg1 hg2 hw hS0
    go_wp2_with fail
    refine HSAME.out.mono ?_
    rintro e w4 ⟨rfl, hb4⟩
    have HB4 := Lib.hid (below_step HB3.out hb4)
    clear hb4
    go_wp2
    go_ret
    exact ⟨rfl, HB4.out⟩
end
end Go.Proofs.Ytfhcaikfbfoopaa
