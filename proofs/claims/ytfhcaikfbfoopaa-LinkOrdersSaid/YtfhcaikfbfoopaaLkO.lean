/-
  LINK, THE LAWS: LinkOrders.
-/
import Derived.Test.YtfhcaikfbfoopaaProg
import Derived.Test.YtfhcaikfbfoopaaBase1
import Derived.Test.YtfhcaikfbfoopaaBase2
import Derived.Test.YtfhcaikfbfoopaaBase3
import Derived.Test.YtfhcaikfbfoopaaBase5
import Derived.Test.YtfhcaikfbfoopaaBase6
import Derived.Test.YtfhcaikfbfoopaaBase10
import Derived.Test.YtfhcaikfbfoopaaBase11
import Derived.Test.YtfhcaikfbfoopaaBase14
import Derived.Test.YtfhcaikfbfoopaaHeld
import Derived.Test.YtfhcaikfbfoopaaLkP
import Derived.Test.YtfhcaikfbfoopaaLk1
import Derived.Test.YtfhcaikfbfoopaaLk2
import Derived.Test.YtfhcaikfbfoopaaLk5
import Derived.Test.YtfhcaikfbfoopaaLk6
import Derived.Test.YtfhcaikfbfoopaaLk7
import Derived.Test.YtfhcaikfbfoopaaLk9
import Derived.Test.YtfhcaikfbfoopaaLkT
import Derived.Test.YtfhcaikfbfoopaaLkS
import Derived.Test.YtfhcaikfbfoopaaLkA
import Derived.BigQuiet
import Derived.Laws.StructEq
import Derived.StillTailTactics
import Derived.RegionTactic
import Derived.Deep.DeepCutAuto
import Derived.Deep.QuietTactic
import Derived.WalkSpells
import Derived.WalkLawsBesides
namespace Go.Proofs.Ytfhcaikfbfoopaa
open Go.RowKit Go.Maps
set_option linter.unusedVariables false

theorem stop_hereO {p : Prop} (h : Hid p) : p := h.out
/-- A receiver, and a row of strings of the call's own. -/
structure OrdW (w : World) (r b : Nat) (u : Value) (n : Nat) (D : DataW Value) (ys : List Bv) (f : Kf) (wv : Value) (strs : List (List UInt8)) (W : World) : Prop where
  rc : RecAt w.heap.size W r u b n D ys f
  st : W.ownsRow w.heap.size 9 1 wv strs.length (cs stb strs)
  dj : ∀ j ∈ own wv, j ∉ rF r b u
  lo : Below w.heap.size w W
section
variable {w W W' : World} {r b n : Nat} {u wv : Value} {D : DataW Value} {ys : List Bv} {f : Kf} {strs : List (List UInt8)}
theorem ordBelow (h : Hid (OrdW w r b u n D ys f wv strs W)) (hb : Below W.heap.size W W') : Hid (OrdW w r b u n D ys f wv strs W') := Lib.hid ⟨h.out.rc.below hb, ownsRow_ext h.out.st hb, h.out.dj, below_step h.out.lo hb⟩
theorem ordTr {u' : Value} {n' : Nat} {D' : DataW Value} {ys' : List Bv} {f' : Kf} (h : Hid (OrdW w r b u n D ys f wv strs W)) (h1 : RecAt w.heap.size W' r u' b n' D' ys' f') (t : Tr (rF r b u) (rF r b u') W W') : Hid (OrdW w r b u' n' D' ys' f' wv strs W') := by
  refine Lib.hid ⟨h1, own_keepF h.out.st t.fx (fun j hj => h.out.dj j (mem_own.2 hj)), fun j hj hj' => ?_, h.out.lo.trans (t.fx.below (fun j hj => (h.out.rc.lt j hj).2) h.out.lo.size)⟩
  rcases t.fresh j hj' with e | e
  · exact h.out.dj j hj e
  · exact absurd (own_ltF h.out.st (mem_own.1 hj)).1 (Nat.not_lt.2 e)
theorem ordApp {wv' : Value} {W2 : World} {bs : List UInt8} (h : Hid (OrdW w r b u n D ys f wv strs W)) (hb : Below W.heap.size W W2) (ho : W'.ownsRow w.heap.size 9 1 wv' (strs.length + 1) (cs stb strs ++ [stb bs])) (hg : W2.grownBy W' wv.ownBlock) (hf : Fresh W2 wv wv') : Hid (OrdW w r b u n D ys f wv' (strs ++ [bs]) W') := by
  have h2 := (ordBelow h hb).out
  have fx : Fx (own wv) W2 W' := Fx.ofGrown hg (fun k e => mem_own.2 e)
  have nu : NoU8 W2 (own wv) := fun j hj C fz e => by
    obtain ⟨_, _, C', fz', e'⟩ := own_ltF h2.st (mem_own.1 hj)
    rw [e'] at e; exact absurd (Obj.cells.inj (Option.some.inj e)).2.1 (by decide)
  refine Lib.hid ⟨h2.rc.keep fx nu (fun j hj hj' => h.out.dj j hj' hj), by rw [List.length_append, cs_append]; exact ho, fun j hj hj' => ?_, h2.lo.trans (fx.below (fun j hj => (own_ltF h2.st (mem_own.1 hj)).2.1) h2.lo.size)⟩
  rcases hf j (mem_own.1 hj) with e | e
  · exact h.out.dj j (mem_own.2 e) hj'
  · exact absurd (h2.rc.lt j hj').1 (Nat.not_lt.2 e)
end
set_option maxRecDepth 100000 in
theorem linkOrders_long (a a2 : Option Addr) (len cap len2 cap2 : Nat) (w : World) (h : (16 : Int) < (len : Int) ∨ (60 : Int) < (len2 : Int)) : Calls Try.prog 8 #[.slice a len cap, .slice a2 len2 cap2] w (RetB (.bool true) w) := by
  by_cases h1 : (16 : Int) < (len : Int)
  · clear h
    go_enter Try.func8, Try.ntmps8
    go_wp2_with fail
    refine (awake12_any _).mono ?_
    rintro e wz ⟨rfl, hbz⟩
    have HBZ := Lib.hid hbz
    clear hbz
    go_wp2
    go_ret
    exact ⟨rfl, HBZ.out⟩
  · have h2 : (60 : Int) < (len2 : Int) := by omega
    clear h
    go_enter Try.func8, Try.ntmps8
    go_wp2_with fail
    refine (awake12_any _).mono ?_
    rintro e wz ⟨rfl, hbz⟩
    have HBZ := Lib.hid hbz
    clear hbz
    go_wp2
    go_ret
    exact ⟨rfl, HBZ.out⟩
set_option maxRecDepth 100000 in
set_option maxHeartbeats 8000000 in
theorem linkOrders_ok (a a2 : Option Addr) (len cap len2 cap2 : Nat) (M : List SlV) (xss : List (List UInt8)) (zs : List Int) (w : World) (h1 : ¬ (16 : Int) < (len : Int)) (h2 : ¬ (60 : Int) < (len2 : Int)) (h0 : 0 < len) (hM : Sl w 1 a len cap (cs slv M)) (hE : Els w M xss) (hz : Sl w 1 a2 len2 cap2 (cs i64v zs)) :
    Calls Try.prog 8 #[.slice a len cap, .slice a2 len2 cap2] w (RetB (.bool true) w) := by
  have HM := Lib.hid hM
  have HE := Lib.hid hE
  have HZ := Lib.hid hz
  have HXL : Hid (xss.length = len) := Lib.hid (by have := hM.count; have := hE.len; omega)
  have hl16 : len ≤ 16 := by omega
  have hl60 : len2 ≤ 60 := by omega
  have hlpos : (0 : Int) < (len : Int) := by omega
  obtain ⟨mb, mo, e, _⟩ := hM.at_ 0 h0 (none, 0, 0)
  subst e
  clear hM hE hz
  go_enter Try.func8, Try.ntmps8
  go_wp2_with fail
  refine (newReceiver_any _).mono ?_
  rintro e w1 ⟨rfl, hr1, hb1⟩
  have HO : Hid (OrdW w (w.heap.size + 1) w.heap.size (.slice none 0 0) 0 (.map []) [] (fun _ => none) (.slice none 0 0) [] w1) := Lib.hid ⟨hr1.out, World.ownsRow_nil _ _ _ _, fun j hj => by simp [own, Value.ownBlock] at hj, hb1⟩
  generalize w.heap.size + 1 = r at *
  obtain ⟨b, hbb⟩ : ∃ b, w.heap.size = b := ⟨_, rfl⟩
  rw [hbb] at HO
  clear hr1 hb1
  go_upto_region 6 with (fail)
  go_loopw [6, 7] (fun wv i wr => ∃ (k : Nat) (wa : Option Addr) (wc : Nat), k ≤ len ∧ i = .int .i64 (k : Int) ∧ wv = .slice wa k wc ∧ Hid (OrdW w r b (.slice none 0 0) 0 (.map []) [] (fun _ => none) (.slice wa k wc) (xss.take k) wr) ∧ Hid (∀ j, j < k → (xss.getD j []).length ≤ 100)) (fun _ i _ => len - (intOf i).toNat)
  case atStart => exact ⟨0, none, 0, by omega, rfl, rfl, HO, Lib.hid (fun j hj => absurd hj (Nat.not_lt_zero j))⟩
  case round =>
    obtain ⟨k, wa, wc, hk, rfl, rfl, HO3, HSM⟩ := hrel
    clear HO
    have hk0 : (0 : Int) ≤ (k : Int) := by omega
    by_cases hkl : k < len
    · have hkl' : (k : Int) < (len : Int) := by omega
      have hMk := (HE.out.el k (by have := HE.out.len; have := HXL.out; omega))
      obtain ⟨ab, ao, e, hc⟩ := HM.out.at_ k hkl (none, 0, 0)
      cases e
      have hcb := cell_keep HO3.out.lo hc
      unfold slv at hcb
      have hsb := hMk.ext HO3.out.lo
      have hcnt := hMk.count
      obtain ⟨bs, hbs⟩ : ∃ bs, xss.getD k [] = bs := ⟨_, rfl⟩
      rw [hbs] at hsb hcnt
      have HBS := Lib.hid hbs
      generalize M.getD k (none, 0, 0) = mk at *
      obtain ⟨ea, en, ec⟩ := mk
      dsimp only at hcb hsb hcnt
      subst hcnt
      have HSB := Lib.hid hsb
      clear hMk hc hsb hbs
      by_cases hbig : (100 : Int) < (bs.length : Int)
      · go_wp2_with fail
        refine (awake12_any _).mono ?_
        rintro e wz ⟨rfl, hbz⟩
        have HBZ := Lib.hid (below_step HO3.out.lo hbz)
        clear hbz
        go_wp2
        go_ret
        exact ⟨rfl, HBZ.out⟩
      · have hcv := run_b2s wr 22 9 5 Try.underlying22 Try.underlying9 Try.underlying5 HSB.out
        have htl : (xss.take k).length = k := by rw [List.length_take]; have := HXL.out; omega
        have hws : w.heap.size ≤ wr.heap.size := HO3.out.lo.size
        go_wp2_with (at_builtin; refine stop_hereO ?_)
        have HO4 := ordBelow HO3 (below_alloc wr (.cells #[.string ⟨bs.toArray⟩] 9))
        refine Lib.hid ?_
        at_builtin
        refine wpList_append_row _ rfl _ _ 33 rfl w.heap.size 9 (.string ⟨#[]⟩) 1 16 Try.underlying33 infoS rfl (by decide) (v := .slice wa k wc) (n := k) (xs := cs stb (xss.take k)) rfl (by have := HO4.out.st; rw [htl] at this; exact this) (k := wr.heap.size) (C := #[.string ⟨bs.toArray⟩]) rfl (blkNew rfl) rfl (stb_all bs) (by unfold maxLen; omega) (by omega) (by simp; omega) ?_
        intro v9 w9 ho9 hg9 hf9
        obtain ⟨a9, n9, e9, _⟩ := sl_of_own ho9
        subst e9
        have HO5 := ordApp (bs := bs) HO3 (below_alloc wr (.cells #[.string ⟨bs.toArray⟩] 9)) (by rw [htl]; exact ho9) hg9 hf9
        have htk : xss.take k ++ [bs] = xss.take (k + 1) := by
          rw [← HBS.out, List.take_add_one, List.getElem?_eq_getElem (by have := HXL.out; omega), List.getD_eq_getElem?_getD, List.getElem?_eq_getElem (by have := HXL.out; omega)]
          rfl
        rw [htk] at HO5
        clear ho9 hg9 hf9 HO3 HO4 hcv htk
        go_wp2
        go_roundw
        case rel => exact ⟨k + 1, a9, n9, by omega, by go_num, rfl, HO5, Lib.hid (fun j hj => by
          by_cases e : j = k
          · subst e; rw [HBS.out]; omega
          · exact HSM.out j (by omega))⟩
        case measure => simp [intOf]; omega
    · have hkl' : ¬ (k : Int) < (len : Int) := by omega
      obtain rfl : k = len := by omega
      have HO6 : Hid (OrdW w r b (.slice none 0 0) 0 (.map []) [] (fun _ => none) (.slice wa k wc) xss wr) := by
        have := HO3.out
        rw [List.take_of_length_le (by have := HXL.out; omega)] at this
        exact Lib.hid this
      clear HO3 hkl hkl' hk
      have HI0 := Lib.hid (rinv_zero xss)
      go_upto_region 12 with (fail)
      go_loopw [8, 9] (fun i _x wr => ∃ (j : Nat) (u : Value) (n : Nat) (D : DataW Value) (ys : List Bv) (f : Kf), j ≤ len2 ∧ i = .int .i64 (j : Int) ∧ Hid (OrdW w r b u n D ys f (.slice wa k wc) xss wr) ∧ Hid (RInv xss (ys.map Bv.bs) (absF f) ∧ n ≤ j)) (fun i _ _ => len2 - (intOf i).toNat)
      case atStart => exact ⟨0, _, 0, _, [], fun _ => none, by omega, rfl, HO6, Lib.hid ⟨HI0.out, Nat.le_refl _⟩⟩
      case round =>
        obtain ⟨j, u, n, D, ys, f, hj, rfl, HO3, HI⟩ := hrel
        clear HO6
        have hj0 : (0 : Int) ≤ (j : Int) := by omega
        by_cases hjl : j < len2
        · have hjl' : (j : Int) < (len2 : Int) := by omega
          obtain ⟨zb, zo, e, hcz⟩ := HZ.out.at_ j hjl 0
          cases e
          have hcz' := cell_keep HO3.out.lo hcz
          generalize zs.getD j 0 = zj at *
          unfold i64v at hcz'
          clear hcz
          go_wp2_with fail
          refine (pick_any zj k (by omega) (by omega) _).mono ?_
          rintro e w5 ⟨i9, hi9, rfl, hw5⟩
          subst w5
          have hi9' : (i9 : Int) < (k : Int) := by omega
          have hi90 : (0 : Int) ≤ (i9 : Int) := by omega
          have hMk := (HE.out.el i9 (by have := HE.out.len; have := HXL.out; omega))
          obtain ⟨ab, ao, e, hc⟩ := HM.out.at_ i9 (by omega) (none, 0, 0)
          cases e
          have hcb := cell_keep HO3.out.lo hc
          unfold slv at hcb
          have hsb := hMk.ext HO3.out.lo
          have hcnt := hMk.count
          obtain ⟨bs, hbs⟩ : ∃ bs, xss.getD i9 [] = bs := ⟨_, rfl⟩
          rw [hbs] at hsb hcnt
          have HBS := Lib.hid hbs
          generalize M.getD i9 (none, 0, 0) = mk at *
          obtain ⟨ea, en, ec⟩ := mk
          dsimp only at hcb hsb hcnt
          subst hcnt
          have HSB := Lib.hid hsb
          clear hMk hc hsb hbs
          obtain ⟨o', q', hta, hinv, hlen9, hgot, hgotk⟩ := take_inv (all := xss) HI.out.1 i9 (by have := HXL.out; omega) (by omega) (by have := HSM.out i9; omega) (by omega)
          rw [HBS.out] at hta
          have HTA := Lib.hid hta
          have HINV := Lib.hid hinv
          have HGOT := Lib.hid (And.intro hlen9 (And.intro hgot hgotk))
          clear hta hinv hlen9 hgot hgotk
          have hbl : bs.length ≤ 100 := by have := HSM.out i9 hi9; rw [HBS.out] at this; exact this
          have hx9 : (ys.length : Int) ≤ 1048576 := by have := HI.out.1.p.le; rw [List.length_map] at this; have := HXL.out; omega
          have HTK : Hid (Calls Try.prog 29 #[.pointer (some ⟨r, 0, none⟩), .agg #[.int .i64 (i9 : Int), .slice ea bs.length ec]] wr (fun e W' => e = .returned (.int .i64 0) ∧ ∃ u' n' D' ys' f', n' ≤ n + 1 ∧ Hid (ys'.map Bv.bs = o' ∧ absF f' = q') ∧ Hid (RecAt w.heap.size W' r u' b n' D' ys' f') ∧ Hid (Tr (rF r b u) (rF r b u') wr W'))) := Lib.hid (recTakeAny (Lib.hid HO3.out.rc) (i9 : Int) ea bs.length ec bs HSB.out hx9 (by have := HI.out.2; omega) (by have := HI.out.1.w; rw [List.length_map] at this; exact key_abs rfl this) o' q' 0 HTA)
          clear hbl hx9
          go_wp2_with fail
          refine HTK.out.mono ?_
          rintro e w6 ⟨rfl, u6, n6, D6, ys6, f6, hn6, ha6, HR6, HT6⟩
          have HO7 := ordTr HO3 HR6.out HT6.out
          have HN6 := Lib.hid hn6
          clear hn6 HTK HO3 hcb HT6 HR6
          go_wp2
          go_roundw
          case rel => exact ⟨j + 1, u6, n6, D6, ys6, f6, by omega, by go_num, HO7, Lib.hid ⟨by rw [ha6.out.1, ha6.out.2]; exact HINV.out, by have := HN6.out; have := HI.out.2; omega⟩⟩
          case measure => simp [intOf]; omega
        · have hjl' : ¬ (j : Int) < (len2 : Int) := by omega
          have HI2 : Hid (RInv xss (ys.map Bv.bs) (absF f) ∧ n ≤ 60) := Lib.hid ⟨HI.out.1, by have := HI.out.2; omega⟩
          clear HI
          go_upto_region 18 with (fail)
          go_loopw [10] (fun i wr => ∃ (m : Nat) (u : Value) (n : Nat) (D : DataW Value) (ys : List Bv) (f : Kf), m ≤ k ∧ i = .int .i64 ((m : Int) - 1) ∧ Hid (OrdW w r b u n D ys f (.slice wa k wc) xss wr) ∧ Hid (RInv xss (ys.map Bv.bs) (absF f) ∧ n + m ≤ 60 + k ∧ ∀ j, m ≤ j → j < k → Got (ys.map Bv.bs) (absF f) j)) (fun i _ => (intOf i + 1).toNat)
          case atStart => exact ⟨k, u, n, D, ys, f, Nat.le_refl _, by go_num, HO3, Lib.hid ⟨HI2.out.1, by have := HI2.out.2; omega, fun j h1 h2 => by omega⟩⟩
          case round =>
            clear HO3 HI2
            obtain ⟨m, u, n, D, ys, f, hm, rfl, HO3, HI⟩ := hrel
            rcases Nat.eq_zero_or_pos m with hm0 | hm0
            · subst hm0
              have hall : ys.map Bv.bs = xss := got_all HI.out.1 (fun j hj => HI.out.2.2 j (Nat.zero_le _) (by have := HXL.out; omega))
              have hyk : ys.length = k := by have := congrArg List.length hall; rw [List.length_map, HXL.out] at this; exact this
              have hbl : ∀ x ∈ ys, x.bs.length ≤ 256 := fun x hx => by
                have hm : x.bs ∈ xss := by rw [← hall]; exact List.mem_map.2 ⟨x, hx, rfl⟩
                obtain ⟨j, hj, e⟩ := List.getElem_of_mem hm
                have := HSM.out j (by have := HXL.out; omega)
                rw [List.getD_eq_getElem?_getD, List.getElem?_eq_getElem hj, Option.getD_some, e] at this
                omega
              have hout := out_any (Lib.hid HO3.out.rc) (by omega) hbl
              unfold RetOut at hout
              rw [hyk, hall] at hout
              have HOUT := Lib.hid hout
              have HACK : Hid (∀ W, Hid (RecAt w.heap.size W r u b n D ys f) → Calls Try.prog 31 #[.pointer (some ⟨r, 0, none⟩)] W (fun e W' => e = .returned (.int .i64 (k : Int)) ∧ W' = W)) := fun W h => by
                have := acked_any h
                rw [hyk] at this
                exact this
              clear hall hyk hbl hout
              go_wp2_with fail
              refine HOUT.out.mono ?_
              rintro e w7 ⟨oa, oc, zs7, rfl, hz7, ho7, hb7⟩
              have HO7 := ordBelow HO3 hb7
              have hzl : zs7.length = k := by have := congrArg List.length hz7; rw [List.length_map, HXL.out] at this; exact this
              have hos : Sl w7 1 oa k oc (cs bsv zs7) := by
                obtain ⟨ao, cap, e, hs⟩ := sl_of_own ho7.out.row
                rw [hzl] at hs
                cases e
                exact hs
              have hws : Sl w7 1 wa k wc (cs stb (zs7.map Bv.bs)) := by
                obtain ⟨ao, cap, e, hs⟩ := sl_of_own HO7.out.st
                rw [HXL.out] at hs
                cases e
                rw [hz7]
                exact hs
              have HSAME := Lib.hid (same_yes w7 oa wa k oc wc zs7 (by omega) hzl hos (fun y hy => (ho7.out.bds y hy).sl) hws)
              clear hz7 ho7 hzl hos hws hb7 HOUT HO3
              go_wp2_with fail
              refine HSAME.out.mono ?_
              rintro e w8 ⟨rfl, hb8⟩
              have HO8 := ordBelow HO7 hb8
              clear hb8 HO7
              go_wp2_with fail
              refine (HACK.out _ (Lib.hid HO8.out.rc)).mono ?_
              rintro e w9 ⟨rfl, hw9⟩
              subst w9
              go_wp2_with fail
              refine (awake12_any _).mono ?_
              rintro e wz ⟨rfl, hbz⟩
              have HBZ := Lib.hid (below_step HO8.out.lo hbz)
              clear hbz
              go_wp2
              go_ret
              exact ⟨rfl, HBZ.out⟩
            · obtain ⟨p, rfl⟩ : ∃ p, m = p + 1 := ⟨m - 1, by omega⟩
              have hpe : (((p + 1 : Nat) : Int) - 1) = (p : Int) := by omega
              rw [hpe]
              have hp : p < k := by omega
              have hp0 : (0 : Int) ≤ (p : Int) := by omega
              have hp' : (p : Int) < (k : Int) := by omega
              clear hpe
              have hMk := (HE.out.el p (by have := HE.out.len; have := HXL.out; omega))
              obtain ⟨ab, ao, e, hc⟩ := HM.out.at_ p hp (none, 0, 0)
              cases e
              have hcb := cell_keep HO3.out.lo hc
              unfold slv at hcb
              have hsb := hMk.ext HO3.out.lo
              have hcnt := hMk.count
              obtain ⟨bs, hbs⟩ : ∃ bs, xss.getD p [] = bs := ⟨_, rfl⟩
              rw [hbs] at hsb hcnt
              have HBS := Lib.hid hbs
              generalize M.getD p (none, 0, 0) = mk at *
              obtain ⟨ea, en, ec⟩ := mk
              dsimp only at hcb hsb hcnt
              subst hcnt
              have HSB := Lib.hid hsb
              clear hMk hc hsb hbs
              obtain ⟨o', q', hta, hinv, hlen9, hgot, hgotk⟩ := take_inv (all := xss) HI.out.1 p (by have := HXL.out; omega) (by omega) (by have := HSM.out p; omega) (by omega)
              rw [HBS.out] at hta
              have HTA := Lib.hid hta
              have HINV := Lib.hid hinv
              have HGOT := Lib.hid (And.intro hlen9 (And.intro hgot hgotk))
              clear hta hinv hlen9 hgot hgotk
              have hbl : bs.length ≤ 100 := by have := HSM.out p hp; rw [HBS.out] at this; exact this
              have hx9 : (ys.length : Int) ≤ 1048576 := by have := HI.out.1.p.le; rw [List.length_map] at this; have := HXL.out; omega
              have HTK : Hid (Calls Try.prog 29 #[.pointer (some ⟨r, 0, none⟩), .agg #[.int .i64 (p : Int), .slice ea bs.length ec]] wr (fun e W' => e = .returned (.int .i64 0) ∧ ∃ u' n' D' ys' f', n' ≤ n + 1 ∧ Hid (ys'.map Bv.bs = o' ∧ absF f' = q') ∧ Hid (RecAt w.heap.size W' r u' b n' D' ys' f') ∧ Hid (Tr (rF r b u) (rF r b u') wr W'))) := Lib.hid (recTakeAny (Lib.hid HO3.out.rc) (p : Int) ea bs.length ec bs HSB.out hx9 (by have := HI.out.2.1; omega) (by have := HI.out.1.w; rw [List.length_map] at this; exact key_abs rfl this) o' q' 0 HTA)
              clear hbl hx9
              go_wp2_with fail
              refine HTK.out.mono ?_
              rintro e w6 ⟨rfl, u6, n6, D6, ys6, f6, hn6, ha6, HR6, HT6⟩
              have HO7 := ordTr HO3 HR6.out HT6.out
              have HN6 := Lib.hid hn6
              clear hn6 HTK HO3 hcb HT6 HR6
              go_wp2
              go_roundw
              case rel => exact ⟨p, u6, n6, D6, ys6, f6, by omega, by go_num, HO7, Lib.hid ⟨by rw [ha6.out.1, ha6.out.2]; exact HINV.out, by have := HN6.out; have := HI.out.2.1; omega, fun j h1 h2 => by
                rw [ha6.out.1, ha6.out.2]
                by_cases e : j = p
                · subst e; exact HGOT.out.2.2
                · exact HGOT.out.2.1 j (HI.out.2.2 j (by omega) h2)⟩⟩
              case measure => first | (simp [intOf]; done) | (simp [intOf]; omega)
set_option maxRecDepth 100000 in
set_option maxHeartbeats 4000000 in
theorem linkOrders_zero (a a2 : Option Addr) (cap len2 cap2 : Nat) (w : World) (h2 : ¬ (60 : Int) < (len2 : Int)) :
    Calls Try.prog 8 #[.slice a 0 cap, .slice a2 len2 cap2] w (RetB (.bool true) w) := by
  go_enter Try.func8, Try.ntmps8
  go_wp2_with fail
  refine (newReceiver_any _).mono ?_
  rintro e w1 ⟨rfl, hr1, hb1⟩
  have HB1 := Lib.hid hb1
  generalize w.heap.size + 1 = r at *
  obtain ⟨b, hbb⟩ : ∃ b, w.heap.size = b := ⟨_, rfl⟩
  rw [hbb] at hr1
  have HBB := Lib.hid hbb
  clear hb1 hbb
  go_upto_region 6 with (fail)
  go_loopw [6, 7] (fun wv i wr => i = .int .i64 0 ∧ wv = .slice none 0 0 ∧ wr = w1) (fun _ i _ => 1)
  case atStart => exact ⟨rfl, rfl, rfl⟩
  case round =>
    obtain ⟨rfl, rfl, hwr⟩ := hrel
    subst wr
    go_upto_region 12 with (fail)
    go_loopw [8, 9] (fun i _x w2 => i = .int .i64 0 ∧ w2 = w1) (fun i _ _ => 1)
    case atStart => exact ⟨rfl, rfl⟩
    case round =>
      obtain ⟨rfl, hwr⟩ := hrel
      subst wr
      by_cases h02 : (0 : Int) < (len2 : Int)
      all_goals
        go_upto_region 18 with (fail)
        go_loopw [10] (fun i w3 => i = .int .i64 (-1) ∧ w3 = w1) (fun i _ => 1)
        case atStart => exact ⟨rfl, rfl⟩
        case round =>
          obtain ⟨rfl, hwr⟩ := hrel
          subst wr
          have hout := out_any hr1 (by simp) (fun x hx => by simp at hx)
          go_wp2_with fail
          refine hout.mono ?_
          rintro e w7 ⟨oa, oc, zs7, rfl, hz7, ho7, hb7⟩
          obtain rfl : zs7 = [] := by simpa using hz7
          have HR7 := Lib.hid (hr1.out.below hb7)
          have hos : Sl w7 1 oa 0 oc (cs bsv []) := by
            obtain ⟨ao, cap, e, hs⟩ := sl_of_own ho7.out.row
            cases e
            exact hs
          have HSAME := Lib.hid (same_yes w7 oa none 0 oc 0 [] (by decide) rfl hos (fun y hy => by simp at hy) (Sl.nil w7 1))
          have HB7 := Lib.hid (HB1.out.trans (hb7.mono HB1.out.size))
          clear hz7 ho7 hos hb7 hout
          go_wp2_with fail
          refine HSAME.out.mono ?_
          rintro e w8 ⟨rfl, hb8⟩
          have HR8 := Lib.hid (HR7.out.below hb8)
          have HB8 := Lib.hid (HB7.out.trans (hb8.mono HB7.out.size))
          clear hb8 HR7 HB7
          go_wp2_with fail
          refine (acked_any HR8).mono ?_
          rintro e w9 ⟨rfl, hw9⟩
          subst w9
          go_wp2_with fail
          refine (awake12_any _).mono ?_
          rintro e wz ⟨rfl, hbz⟩
          have HBZ := Lib.hid (HB8.out.trans (hbz.mono HB8.out.size))
          clear hbz
          go_wp2
          go_ret
          exact ⟨rfl, HBZ.out⟩
theorem linkOrders_walk (a : Option Addr) (len cap : Nat) (a2 : Option Addr) (len2 cap2 : Nat) (M : List SlV) (xss : List (List UInt8)) (zs : List Int) (w : World) (hM : Sl w 1 a len cap (cs slv M)) (hE : Els w M xss) (hz : Sl w 1 a2 len2 cap2 (cs i64v zs)) :
    Calls Try.prog 8 #[.slice a len cap, .slice a2 len2 cap2] w (RetB (.bool true) w) := by
  by_cases h : (16 : Int) < (len : Int) ∨ (60 : Int) < (len2 : Int)
  · exact linkOrders_long a a2 len cap len2 cap2 w h
  · rcases Nat.eq_zero_or_pos len with h0 | h0
    · subst h0
      exact linkOrders_zero a a2 cap len2 cap2 w (fun e => h (.inr e))
    · exact linkOrders_ok a a2 len cap len2 cap2 M xss zs w (fun e => h (.inl e)) (fun e => h (.inr e)) h0 hM hE hz
end Go.Proofs.Ytfhcaikfbfoopaa
