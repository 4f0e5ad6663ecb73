/-
  LINK, THE LAWS: the world's move, kinds 1 and 2.
-/
import Derived.Test.YtfhcaikfbfoopaaProg
import Derived.Test.YtfhcaikfbfoopaaBase1
import Derived.Test.YtfhcaikfbfoopaaBase2
import Derived.Test.YtfhcaikfbfoopaaBase3
import Derived.Test.YtfhcaikfbfoopaaBase5
import Derived.Test.YtfhcaikfbfoopaaBase6
import Derived.Test.YtfhcaikfbfoopaaBase11
import Derived.Test.YtfhcaikfbfoopaaBase14
import Derived.Test.YtfhcaikfbfoopaaHeld
import Derived.Test.YtfhcaikfbfoopaaFlat
import Derived.Test.YtfhcaikfbfoopaaLkP
import Derived.Test.YtfhcaikfbfoopaaLk1
import Derived.Test.YtfhcaikfbfoopaaLk2
import Derived.Test.YtfhcaikfbfoopaaLk3
import Derived.Test.YtfhcaikfbfoopaaLk4
import Derived.Test.YtfhcaikfbfoopaaLk5
import Derived.Test.YtfhcaikfbfoopaaLk6
import Derived.Test.YtfhcaikfbfoopaaLk7
import Derived.Test.YtfhcaikfbfoopaaLk8
import Derived.Test.YtfhcaikfbfoopaaLk9
import Derived.Test.YtfhcaikfbfoopaaLkT
import Derived.Test.YtfhcaikfbfoopaaLkS
import Derived.Test.YtfhcaikfbfoopaaLkM
import Derived.Test.YtfhcaikfbfoopaaLkV
import Derived.Test.YtfhcaikfbfoopaaLkU
import Derived.BigQuiet
import Derived.Laws.StructEq
import Derived.StillTailTactics
import Derived.RegionTactic
import Derived.BigRegion
import Derived.Deep.RegionHeld3
import Derived.Deep.RegionLaw
import Derived.Deep.LoopGhost
import Derived.Deep.DeepCutAuto
import Derived.Deep.QuietTactic
import Derived.WalkSpells
import Derived.WalkLawsBesides
namespace Go.Proofs.Ytfhcaikfbfoopaa
open Go.RowKit Go.Maps
set_option linter.unusedVariables false

theorem frame_of {all : List (List UInt8)} {k i : Nat} {xs zs : List Bv} (h1 : zs.map Bv.bs = xs.map Bv.bs) (h2 : xs.map Bv.bs = all.drop k) (hi : i < xs.length) : (zs.getD i nilB).bs = all.getD (k + i) [] := by
  have hl : zs.length = xs.length := by have := congrArg List.length h1; simpa using this
  rw [← getD_map_bs zs i (by omega), h1, h2, List.getD_eq_getElem?_getD, List.getD_eq_getElem?_getD, List.getElem?_drop]
section
variable {w W : World} {wb g k r b n cnt : Nat} {v u sv ov av : Value} {xs ys : List Bv} {D : DataW Value} {f : Kf} {all : List (List UInt8)} {olds : List FrL} {aks : List Int}
set_option maxRecDepth 100000 in
set_option maxHeartbeats 8000000 in
theorem move_frame (h : Hid (MvW w wb k g v k xs r b u n D ys f sv ov av all olds aks W)) (hA : MvA all k xs ys f olds aks n cnt) (hc : cnt ≤ 1000) (N : Int) :
    Calls Try.prog 34 #[.pointer (some ⟨wb, 0, none⟩), .agg #[.int .i64 1, .int .i64 N]] W (fun e W' => e = .returned (.bool true) ∧ Hid (MvSt w wb g r b (cnt + 1) W')) := by
  have HA := Lib.hid hA
  have HM1 := mvAlloc (o := .cells #[.int .i64 1, .int .i64 N] 71) h
  have hF : Hid ((W.alloc (.cells #[.int .i64 1, .int .i64 N] 71)).heap[W.heap.size]? = some (.cells #[.int .i64 1, .int .i64 N] 71)) := Lib.hid (hp_new rfl)
  obtain ⟨hsm, hkl, hyl⟩ := mva_sum hA
  have hsz := hA.sz
  have h16 := hA.x16
  have HSZ := Lib.hid (And.intro hsm (And.intro hkl (And.intro hyl hsz)))
  have HSM := Lib.hid (mva_small hA)
  have hk9 : (k : Int) ≤ 1048576 := by omega
  clear hA hsm hkl hyl hsz
  obtain ⟨c0, c1, c2, c3, c4, c5, fz⟩ := mvCells HM1
  go_enter Try.func34, Try.ntmps34
  go_upto_region 1 with (fail)
  generalize W.alloc (.cells #[.int .i64 1, .int .i64 N] 71) = W1 at *
  generalize W.heap.size = mb at *
  clear h
  go_wp2_with fail
  refine (frames_any (lkwS (mvS HM1)) hk9 h16 HSM.out.1).mono ?_
  rintro e w2 ⟨fa, fc, zs, rfl, hz, hf, hb2⟩
  have HM2 := mvBelow HM1 hb2
  have HF2 : Hid (w2.heap[mb]? = some (.cells #[.int .i64 1, .int .i64 N] 71)) := Lib.hid (blk_keepF (L := []) hF.out (Fx.ofBelow hb2) (by simp))
  have HZS := Lib.hid hz
  have HFR := Lib.hid (frW_newR (mvS HM1) hf.out)
  have HW0 := Lib.hid HM1.out.lk.lo.size
  clear c0 c1 c2 c3 c4 c5 fz hF HM1 hz hf hb2 hk9
  obtain ⟨c0, c1, c2, c3, c4, c5, fz⟩ := mvCells HM2
  obtain ⟨d0, d1, _, _⟩ := two_facts ⟨_, HF2.out⟩
  by_cases h0 : xs.length = 0
  · have h0' : (xs.length : Int) = 0 := by omega
    go_wp2
    go_ret
    exact ⟨rfl, Lib.hid ⟨v, k, xs, u, n, D, ys, f, sv, ov, av, all, olds, aks, HM2.out, mva_same HA.out⟩⟩
  · have h0' : ¬ (xs.length : Int) = 0 := by omega
    go_wp2_with fail
    refine (pick_any N xs.length (by omega) (by omega) _).mono ?_
    rintro e w3 ⟨i, hi, rfl, hw3⟩
    subst w3
    have hzl : zs.length = xs.length := by have := congrArg List.length HZS.out; simpa using this
    obtain ⟨fb, fo, e, hc0, hd0, hbd0⟩ := HFR.out.at_.cells hzl i hi
    subst e
    have hfb := frame_of HZS.out HA.out.xe hi
    generalize zs.getD i nilB = z at *
    obtain ⟨za, zc, zb⟩ := z
    dsimp only at hc0 hd0 hbd0 hfb
    have hJl : k + i < all.length := by have := HSZ.out.1; omega
    have hJy : k + i < ys.length + 16 := by have := HA.out.kle; omega
    obtain ⟨J, hJ⟩ : ∃ J, k + i = J := ⟨_, rfl⟩
    rw [hJ] at hc0 hfb hJl hJy
    have hi' : (i : Int) < (xs.length : Int) := by omega
    have hi0 : (0 : Int) ≤ (i : Int) := by omega
    have HWT := Lib.hid (wtake HM2 HA.out J hJl ⟨za, zc, zb⟩ (hbd0.lower HW0.out) hfb true (fun _ => hJy) (by omega))
    generalize (J : Int) = jj at *
    clear hbd0 hfb hJl hJy hJ HFR HZS
    go_wp2_with fail
    refine HWT.out.mono ?_
    rintro e w4 ⟨rfl, u4, n4, D4, ys4, f4, ov4, olds4, HM4, HA4, _⟩
    go_wp2
    go_ret
    exact ⟨rfl, Lib.hid ⟨v, k, xs, u4, n4, D4, ys4, f4, sv, ov4, av, all, olds4, aks, HM4.out, HA4.out⟩⟩
end
end Go.Proofs.Ytfhcaikfbfoopaa
