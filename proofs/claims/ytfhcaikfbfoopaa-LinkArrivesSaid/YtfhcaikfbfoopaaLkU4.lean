/-
  LINK, THE LAWS: the world's move, kind 3.
-/
import Derived.Test.YtfhcaikfbfoopaaProg
import Derived.Test.YtfhcaikfbfoopaaBase1
import Derived.Test.YtfhcaikfbfoopaaBase2
import Derived.Test.YtfhcaikfbfoopaaBase3
import Derived.Test.YtfhcaikfbfoopaaBase5
import Derived.Test.YtfhcaikfbfoopaaBase6
import Derived.Test.YtfhcaikfbfoopaaBase11
import Derived.Test.YtfhcaikfbfoopaaBase14
import Derived.Test.YtfhcaikfbfoopaaHeld
import Derived.Test.YtfhcaikfbfoopaaFlat
import Derived.Test.YtfhcaikfbfoopaaLkP
import Derived.Test.YtfhcaikfbfoopaaLk1
import Derived.Test.YtfhcaikfbfoopaaLk2
import Derived.Test.YtfhcaikfbfoopaaLk3
import Derived.Test.YtfhcaikfbfoopaaLk4
import Derived.Test.YtfhcaikfbfoopaaLk5
import Derived.Test.YtfhcaikfbfoopaaLk6
import Derived.Test.YtfhcaikfbfoopaaLk7
import Derived.Test.YtfhcaikfbfoopaaLk8
import Derived.Test.YtfhcaikfbfoopaaLk9
import Derived.Test.YtfhcaikfbfoopaaLkT
import Derived.Test.YtfhcaikfbfoopaaLkS
import Derived.Test.YtfhcaikfbfoopaaLkM
import Derived.Test.YtfhcaikfbfoopaaLkV
import Derived.Test.YtfhcaikfbfoopaaLkU
import Derived.BigQuiet
import Derived.Laws.StructEq
import Derived.StillTailTactics
import Derived.RegionTactic
import Derived.BigRegion
import Derived.Deep.RegionHeld3
import Derived.Deep.RegionLaw
import Derived.Deep.LoopGhost
import Derived.Deep.DeepCutAuto
import Derived.Deep.QuietTactic
import Derived.WalkSpells
import Derived.WalkLawsBesides
namespace Go.Proofs.Ytfhcaikfbfoopaa
open Go.RowKit Go.Maps
set_option linter.unusedVariables false

theorem mva_ack {all : List (List UInt8)} {k n cnt : Nat} {xs ys : List Bv} {f : Kf} {olds : List FrL} {aks : List Int} (h : MvA all k xs ys f olds aks n cnt) : MvA all ys.length (xs.drop (ys.length - k)) ys f olds (aks ++ [(ys.length : Int)]) n (cnt + 1) := by
  have hk := h.kle
  refine ⟨Nat.le_refl _, ?_, h.inv, h.len, Nat.le_succ_of_le h.sz, ?_, h.old, fun a ha => ?_, Nat.le_succ_of_le h.n, Nat.le_succ_of_le h.on, ?_⟩
  · rw [List.map_drop, h.xe, List.drop_drop]
    congr 1
    omega
  · rw [List.length_drop]; have := h.x16; omega
  · rcases List.mem_append.1 ha with ha | ha
    · have := h.ak a ha; omega
    · simp at ha; omega
  · rw [List.length_append]; have := h.an; simp; omega
theorem infoI : (Try.prog.info? 3).map (fun i => (i.zero, i.size, i.bytes)) = some (some (.int .i64 0), 1, 8) := by kernel_rfl
theorem int_all (q : Int) : ∀ u ∈ (#[.int .i64 q] : Array Value).toList, u.oneCell' = true := by
  intro u hu
  simp at hu
  subst hu
  rfl
section
variable {w W : World} {wb g k r b n cnt : Nat} {v u sv ov av : Value} {xs ys : List Bv} {D : DataW Value} {f : Kf} {all : List (List UInt8)} {olds : List FrL} {aks : List Int}
set_option maxRecDepth 100000 in
set_option maxHeartbeats 8000000 in
theorem move_acked (h : Hid (MvW w wb k g v k xs r b u n D ys f sv ov av all olds aks W)) (hA : MvA all k xs ys f olds aks n cnt) (hc : cnt ≤ 1000) (N : Int) :
    Calls Try.prog 34 #[.pointer (some ⟨wb, 0, none⟩), .agg #[.int .i64 3, .int .i64 N]] W (fun e W' => e = .returned (.bool true) ∧ Hid (MvSt w wb g r b (cnt + 1) W')) := by
  have HA := Lib.hid hA
  have HM1 := mvAlloc (o := .cells #[.int .i64 3, .int .i64 N] 71) h
  have hF : Hid ((W.alloc (.cells #[.int .i64 3, .int .i64 N] 71)).heap[W.heap.size]? = some (.cells #[.int .i64 3, .int .i64 N] 71)) := Lib.hid (hp_new rfl)
  obtain ⟨hsm, hkl, hyl⟩ := mva_sum hA
  have hsz := hA.sz
  have h16 := hA.x16
  have HSZ := Lib.hid (And.intro hsm (And.intro hkl (And.intro hyl hsz)))
  have HSM := Lib.hid (mva_small hA)
  have hk9 : (k : Int) ≤ 1048576 := by omega
  clear hA hsm hkl hyl hsz
  obtain ⟨c0, c1, c2, c3, c4, c5, fz⟩ := mvCells HM1
  go_enter Try.func34, Try.ntmps34
  go_upto_region 1 with (fail)
  generalize W.alloc (.cells #[.int .i64 3, .int .i64 N] 71) = W1 at *
  generalize W.heap.size = mb at *
  clear h
  go_wp2_with fail
  refine (frames_any (lkwS (mvS HM1)) hk9 h16 HSM.out.1).mono ?_
  rintro e w2 ⟨fa, fc, zs, rfl, hz, hf, hb2⟩
  have HM2 := mvBelow HM1 hb2
  have HF2 : Hid (w2.heap[mb]? = some (.cells #[.int .i64 3, .int .i64 N] 71)) := Lib.hid (blk_keepF (L := []) hF.out (Fx.ofBelow hb2) (by simp))
  have HZS := Lib.hid hz
  have HFR := Lib.hid (frW_newR (mvS HM1) hf.out)
  have HW0 := Lib.hid HM1.out.lk.lo.size
  clear c0 c1 c2 c3 c4 c5 fz hF HM1 hz hf hb2 hk9
  obtain ⟨c0, c1, c2, c3, c4, c5, fz⟩ := mvCells HM2
  obtain ⟨d0, d1, _, _⟩ := two_facts ⟨_, HF2.out⟩
  obtain ⟨aa, ac, e, _⟩ := sl_of_own HM2.out.ak
  subst e
  have han : aks.length ≤ 1000 := by have := HA.out.an; omega
  have f4 := fz 4
  have hwW : w.heap.size ≤ w2.heap.size := HM2.out.lk.lo.size
  have hgW2 : wb < w2.heap.size := (Array.getElem?_eq_some_iff.1 HM2.out.blk).1
  have hgW3 : ¬ wb = w2.heap.size := by omega
  have c4a : ∀ o, (w2.alloc o).cell? ⟨wb, 4, none⟩ = some (.slice aa aks.length ac) := fun o => cell_keep (below_alloc w2 o) c4
  have HAK : Hid (∀ W', Hid (MvW w wb k g v k xs r b u n D ys f sv ov (.slice aa aks.length ac) all olds aks W') → Calls Try.prog 31 #[.pointer (some ⟨r, 0, none⟩)] W' (fun e W'' => e = .returned (.int .i64 (ys.length : Int)) ∧ W'' = W')) := Lib.hid (fun W' h' => acked_any (lkwR (mvS h')))
  have hyl9 : ys.length ≤ 1000 := by have := HSZ.out; omega
  go_upto_region 15 with (fail)
  go_cut [] (fun wx => ∃ (a9 : Option Addr) (n9 : Nat), Hid (MvW w wb k g v k xs r b u n D ys f sv ov (.slice a9 (aks.length + 1) n9) all olds (aks ++ [(ys.length : Int)]) wx))
  case first =>
    go_region_law (first
      | ((rw [if_pos (by simp [Region.wanted])]); go_simp; go_at_call 31; (with_reducible refine (HAK.out _ (mvDrew HM2)).mono ?_); rintro e w5 ⟨rfl, hw5⟩; subst w5)
      | ((refine step_append_row _ rfl (.tmp 108) (.tmp 114) 23 rfl w.heap.size 3 (.int .i64 0) 1 8 Try.underlying23 infoI rfl (by decide) (v := .slice aa aks.length ac) (n := aks.length) (xs := cs i64v aks) (by rfl) (mvAlloc (mvDrew HM2)).out.ak (k := w2.heap.size) (C := #[.int .i64 (ys.length : Int)]) (by rfl) (by (repeat (first | ((with_reducible refine blkNew ?_); focus (simp; done)) | (with_reducible refine blkDrew ?_) | (with_reducible refine blkOld ?_)))) rfl (int_all _) (by unfold maxLen; omega) (by omega) (by first | (simp; done) | (simp; omega)) ?_); intro v9 w9 ho9 hg9 hf9; obtain ⟨a9, n9, e9, _⟩ := sl_of_own ho9; subst e9; have hblk := (mvRow (i := 4) (x' := .int .i64 0) HM2 (below_step (below_drew (Below.refl _ _)) (below_alloc w2.drew (.cells #[.int .i64 (ys.length : Int)] 3))) (mvAlloc (mvDrew HM2)).out.ak hg9 (by decide) (by decide) (by decide) (by decide) (by decide)).2.2.2.2; have c9 : w9.cell? ⟨wb, 4, none⟩ = some (.slice aa aks.length ac) := (by rw [cell_of_row _ _ _ _ _ _ hblk]; rfl); have f9 : w9.frozen? ⟨wb, 4, none⟩ = false := frozen_of_row _ _ _ _ _ hblk; have HO9 := Lib.hid (And.intro ho9 hg9); clear ho9 hg9 hf9 hblk))
    all_goals
      have hmo := mvAck (a := (ys.length : Int)) HM2 (below_step (below_drew (Below.refl _ _)) (below_alloc w2.drew (.cells #[.int .i64 (ys.length : Int)] 3))) HO9.out.1 HO9.out.2
      have HMO := Lib.hid hmo.out
      clear hmo HO9
      go_wp2_with fail
      go_meet
      exact ⟨_, _, Lib.hid HMO.out⟩
  case rest =>
    obtain ⟨a9, n9, HM3⟩ := hcut
    obtain ⟨w3, hw3⟩ : ∃ W', W' = wc := ⟨_, rfl⟩
    subst hw3
    clear c0 c1 c2 c3 c4 c5 fz f4 c4a HAK hgW2 hgW3 hwW d0 d1 HM2 HF2 HFR HZS
    obtain ⟨c0, c1, c2, c3, c4, c5, fz⟩ := mvCells HM3
    have f5 := fz 5
    have hkle : (k : Int) ≤ (ys.length : Int) := by have := HA.out.kle; omega
    obtain ⟨Y, hY⟩ : ∃ Y : Int, (ys.length : Int) = Y := ⟨_, rfl⟩
    obtain ⟨Kk, hK⟩ : ∃ Kk : Int, (k : Int) = Kk := ⟨_, rfl⟩
    have hak := acked_any (lkwR (mvS (mvDrew HM3)))
    rw [hY] at hak hkle
    rw [hK] at c5 hkle
    have hmx : (if Kk < Y then Y else Kk) = Y := by split <;> omega
    have HM4 := mvDrew (mvNum ys.length HM3)
    rw [hY] at HM4
    have HYK := Lib.hid (And.intro hY hK)
    clear hY hK
    go_upto_region 16 with (fail)
    refine wp_region_still_tail 13 (by kernel_rfl) (by kernel_rfl) ?_
    simp only [List.take_succ_cons, List.take_zero, List.drop_succ_cons, List.drop_zero]
    repeat still_step
    still_call hak
    repeat still_step
    refine wpStill_nil ?_
    go_upto_region 17 with (fail)
    generalize (w3.setCell ⟨wb, 5, none⟩ (.int .i64 Y)).drew = w4 at *
    clear c0 c1 c2 c3 c4 c5 fz f5 hak hmx HM3
    obtain ⟨c0, c1, c2, c3, c4, c5, fz⟩ := mvCells HM4
    have hak := acked_any (lkwR (mvS (mvDrew HM4)))
    rw [HYK.out.1] at hak
    have HB := Lib.hid (mva_ack HA.out)
    refine wp_region_still_tail 9 (by kernel_rfl) (by kernel_rfl) ?_
    simp only [List.take_succ_cons, List.take_zero, List.drop_succ_cons, List.drop_zero]
    repeat still_step
    still_call hak
    repeat still_step
    refine wpStill_nil ?_
    by_cases hyk : ys.length = k
    · have HACK := Lib.hid (ack_same (lkwS (mvS (mvDrew HM4))) Y (by have := HYK.out.1; omega) (by have := HYK.out.1; omega) (by have := HSZ.out; omega))
      have HE := Lib.hid hyk
      clear hyk
      go_wp2_with fail
      refine HACK.out.mono ?_
      rintro e w5 ⟨rfl, hb5⟩
      have HM5 := mvBelow (mvDrew HM4) hb5
      have hb := HB.out
      rw [HYK.out.1] at hb
      rw [HE.out, Nat.sub_self, List.drop_zero] at hb
      have hm5 := HM5.out
      rw [HE.out] at hm5
      have HC := Lib.hid (And.intro hm5 hb)
      clear hm5 hb
      go_wp2
      go_ret
      exact ⟨rfl, Lib.hid ⟨v, k, xs, u, n, D, ys, f, sv, ov, _, all, olds, _, HC.out.1, by have := HC.out.2; exact this⟩⟩
    · have hm : k + (ys.length - k) = ys.length := by have := HA.out.kle; omega
      have HACK := Lib.hid (lkwAck (mvS (mvDrew HM4)) (ys.length - k) (by omega) (by have := HSZ.out; omega) (by have := HSZ.out; omega) Y (by have := HYK.out.1; omega))
      have HE := Lib.hid hm
      clear hyk hm
      go_wp2_with fail
      refine HACK.out.mono ?_
      rintro e w5 ⟨rfl, v5, HL5, HT5⟩
      have hm5 := mvSnd (mvDrew HM4) HL5 HT5
      rw [HE.out] at hm5
      clear HL5 HT5
      go_wp2
      go_ret
      exact ⟨rfl, Lib.hid ⟨v5, ys.length, _, u, n, D, ys, f, sv, ov, _, all, olds, _, hm5.out, by have hb := HB.out; rw [HYK.out.1] at hb; exact hb⟩⟩
end
end Go.Proofs.Ytfhcaikfbfoopaa
