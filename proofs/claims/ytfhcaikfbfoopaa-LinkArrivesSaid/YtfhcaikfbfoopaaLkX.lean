/-
  LINK, THE LAWS: LinkOnce.
-/
import Derived.Test.YtfhcaikfbfoopaaProg
import Derived.Test.YtfhcaikfbfoopaaBase1
import Derived.Test.YtfhcaikfbfoopaaBase2
import Derived.Test.YtfhcaikfbfoopaaBase3
import Derived.Test.YtfhcaikfbfoopaaBase5
import Derived.Test.YtfhcaikfbfoopaaBase6
import Derived.Test.YtfhcaikfbfoopaaHeld
import Derived.Test.YtfhcaikfbfoopaaFlat
import Derived.Test.YtfhcaikfbfoopaaLkP
import Derived.Test.YtfhcaikfbfoopaaLk1
import Derived.Test.YtfhcaikfbfoopaaLk9
import Derived.Test.YtfhcaikfbfoopaaLkT
import Derived.Test.YtfhcaikfbfoopaaLkM
import Derived.Test.YtfhcaikfbfoopaaLkU
import Derived.Test.YtfhcaikfbfoopaaLkW
import Derived.Test.YtfhcaikfbfoopaaLkR
import Derived.Test.YtfhcaikfbfoopaaLkA
import Derived.BigQuiet
import Derived.Laws.StructEq
import Derived.StillTailTactics
import Derived.RegionTactic
import Derived.Deep.DeepCutAuto
import Derived.Deep.QuietTactic
import Derived.WalkSpells
import Derived.WalkLawsBesides
namespace Go.Proofs.Ytfhcaikfbfoopaa
open Go.RowKit Go.Maps
set_option linter.unusedVariables false

/-- A move as it lies. -/
structure MovL where
  k : Int
  n : Int
def movA (o : MovL) : Array Value := #[.int .i64 o.k, .int .i64 o.n]
def MovL.zero : MovL := ⟨0, 0⟩
theorem mvStart {w w2 : World} {g r b : Nat} (h : Hid (LkW w g (.slice none 0 0) 0 [] r b (.slice none 0 0) 0 (.map []) [] (fun _ => none) w2)) (hw : w.heap.size ≤ w2.heap.size) : Hid (MvSt w w2.heap.size g r b 0 (w2.alloc (.cells #[.pointer (some ⟨g, 0, none⟩), .pointer (some ⟨r, 0, none⟩), .slice none 0 0, .slice none 0 0, .slice none 0 0, .int .i64 0] 68))) := by
  refine Lib.hid ⟨.slice none 0 0, 0, [], .slice none 0 0, 0, .map [], [], fun _ => none, .slice none 0 0, .slice none 0 0, .slice none 0 0, [], [], [], ⟨(lkwBelow (below_alloc _ _) h).out, hp_new rfl, World.ownsRow_nil _ _ _ _, World.ownsRow_nil _ _ _ _, fun o ho => by simp at ho, World.ownsRow_nil _ _ _ _, hw⟩, ?_⟩
  exact ⟨Nat.le_refl _, rfl, rinv_zero [], fun j => by simp, Nat.le_refl _, by simp, fun o ho => by simp at ho, fun a ha => by simp at ha, Nat.le_refl _, Nat.le_refl _, Nat.le_refl _⟩
theorem mvSt_below {w W W' : World} {wb g r b cnt : Nat} (h : Hid (MvSt w wb g r b cnt W)) (hb : Below W.heap.size W W') : Hid (MvSt w wb g r b cnt W') := by
  obtain ⟨v, k, xs, u, n, D, ys, f, sv, ov, av, all, olds, aks, hM, hA⟩ := h.out
  exact Lib.hid ⟨v, k, xs, u, n, D, ys, f, sv, ov, av, all, olds, aks, (mvBelow (Lib.hid hM) hb).out, hA⟩
theorem mvSt_lo {w W : World} {wb g r b cnt : Nat} (h : Hid (MvSt w wb g r b cnt W)) : Below w.heap.size w W := by
  obtain ⟨v, k, xs, u, n, D, ys, f, sv, ov, av, all, olds, aks, hM, hA⟩ := h.out
  exact hM.lk.lo
theorem right_st {w W : World} {wb g r b cnt : Nat} (h : Hid (MvSt w wb g r b cnt W)) (hc : cnt ≤ 1000) : Calls Try.prog 35 #[.pointer (some ⟨wb, 0, none⟩)] W (RetB (.bool true) W) := by
  obtain ⟨v, k, xs, u, n, D, ys, f, sv, ov, av, all, olds, aks, hM, hA⟩ := h.out
  exact right_any (Lib.hid hM) hA hc
set_option maxRecDepth 100000 in
set_option maxHeartbeats 4000000 in
theorem linkOnce_walk (a : Option Addr) (len cap : Nat) (l : List MovL) (w : World) (hl : l.length = len) (hs : Sl w 2 a len cap (flatV movA l)) : Calls Try.prog 6 #[.slice a len cap] w (RetB (.bool true) w) := by
  by_cases h1 : (120 : Int) < (len : Int)
  · go_enter Try.func6, Try.ntmps6
    go_wp2_with fail
    refine (awake12_any _).mono ?_
    rintro e wz ⟨rfl, hbz⟩
    have HBZ := Lib.hid hbz
    clear hbz
    go_wp2
    go_ret
    exact ⟨rfl, HBZ.out⟩
  · have HS := Lib.hid hs
    have HL := Lib.hid hl
    have hl9 : len ≤ 120 := by omega
    clear hs hl
    go_enter Try.func6, Try.ntmps6
    go_wp2_with fail
    refine (newSender_any _).mono ?_
    rintro e w1 ⟨rfl, hs1, hb1⟩
    go_wp2_with fail
    refine (newReceiver_any _).mono ?_
    rintro e w2 ⟨rfl, hr2, hb2⟩
    have HK := lkwStart hs1 hb1 hr2 hb2
    have HM0 := mvStart HK HK.out.lo.size
    generalize w1.heap.size + 1 = r at *
    generalize w1.heap.size = b at *
    clear hs1 hb1 hr2 hb2 HK
    go_upto_region 5 with (fail)
    go_loopw [4] (fun i wr => ∃ k : Nat, k ≤ len ∧ i = .int .i64 (k : Int) ∧ Hid (MvSt w w2.heap.size w.heap.size r b k wr)) (fun i _ => len - (intOf i).toNat)
    case atStart => exact ⟨0, by omega, rfl, HM0⟩
    case round =>
      obtain ⟨k, hk, rfl, HM⟩ := hrel
      clear HM0
      have hk0 : (0 : Int) ≤ (k : Int) := by omega
      by_cases hkl : k < len
      · have hkl' : (k : Int) < (len : Int) := by omega
        obtain ⟨ob, oo, e, hc⟩ := flat_at MovL.zero movA 2 (by decide) (fun _ => rfl) HS.out HL.out k hkl
        subst e
        generalize l.getD k MovL.zero = o at *
        obtain ⟨K, N⟩ := o
        have p0 : wr.cell? ⟨ob, oo + k * 2, none⟩ = some (.int .i64 K) := cell_keep (mvSt_lo HM) (hc 0 _ rfl)
        have p1 : wr.cell? ⟨ob, oo + k * 2 + 1, none⟩ = some (.int .i64 N) := cell_keep (mvSt_lo HM) (hc 1 _ rfl)
        clear hc
        go_wp2_with fail
        refine (move_any HM (by omega) K N).mono ?_
        rintro e w5 ⟨rfl, HM5⟩
        clear p0 p1
        go_wp2_with fail
        refine (right_st HM5 (by omega)).mono ?_
        rintro e w6 ⟨rfl, hb6⟩
        have HM6 := mvSt_below HM5 hb6
        clear hb6 HM5 HM
        go_wp2
        go_roundw
        case rel => exact ⟨k + 1, by omega, by go_num, HM6⟩
        case measure => simp [intOf]; omega
      · have hkl' : ¬ (k : Int) < (len : Int) := by omega
        have HLO := Lib.hid (mvSt_lo HM)
        go_wp2_with fail
        refine (awake12_any _).mono ?_
        rintro e wz ⟨rfl, hbz⟩
        have HBZ := Lib.hid (below_step HLO.out hbz)
        clear hbz
        go_wp2
        go_ret
        exact ⟨rfl, HBZ.out⟩
end Go.Proofs.Ytfhcaikfbfoopaa
