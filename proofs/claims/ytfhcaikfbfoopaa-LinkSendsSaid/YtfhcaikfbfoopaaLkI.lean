/-
  LINK, THE LAWS: LinkSends.
-/
import Derived.Test.YtfhcaikfbfoopaaProg
import Derived.Test.YtfhcaikfbfoopaaBase1
import Derived.Test.YtfhcaikfbfoopaaBase2
import Derived.Test.YtfhcaikfbfoopaaBase3
import Derived.Test.YtfhcaikfbfoopaaBase5
import Derived.Test.YtfhcaikfbfoopaaBase6
import Derived.Test.YtfhcaikfbfoopaaBase11
import Derived.Test.YtfhcaikfbfoopaaBase13
import Derived.Test.YtfhcaikfbfoopaaBase14
import Derived.Test.YtfhcaikfbfoopaaHeld
import Derived.Test.YtfhcaikfbfoopaaFlat
import Derived.Test.YtfhcaikfbfoopaaLkP
import Derived.Test.YtfhcaikfbfoopaaLk1
import Derived.Test.YtfhcaikfbfoopaaLk2
import Derived.Test.YtfhcaikfbfoopaaLk3
import Derived.Test.YtfhcaikfbfoopaaLk6
import Derived.Test.YtfhcaikfbfoopaaLk9
import Derived.Test.YtfhcaikfbfoopaaLk4
import Derived.Test.YtfhcaikfbfoopaaLkS
import Derived.Test.YtfhcaikfbfoopaaLkM
import Derived.Test.YtfhcaikfbfoopaaLkF
import Derived.Test.YtfhcaikfbfoopaaLkG
import Derived.Test.YtfhcaikfbfoopaaLkA
import Derived.Test.YtfhcaikfbfoopaaLkH
import Derived.BigQuiet
import Derived.Laws.StructEq
import Derived.StillTailTactics
import Derived.RegionTactic
import Derived.BigRegion
import Derived.Deep.RegionHeld3
import Derived.Deep.RegionLaw
import Derived.Deep.DeepCutAuto
import Derived.Deep.QuietTactic
import Derived.WalkSpells
import Derived.WalkLawsBesides
namespace Go.Proofs.Ytfhcaikfbfoopaa
open Go.RowKit Go.Maps
set_option linter.unusedVariables false

set_option maxRecDepth 100000 in
set_option maxHeartbeats 8000000 in
theorem linkSends_walk (a : Option Addr) (len cap : Nat) (l : List OpS) (w : World) (hl : l.length = len) (hs : Sl w 3 a len cap (flatV opS l)) (hbd : ∀ o ∈ l, Sl w 1 o.b.a o.b.bs.length o.b.c (cs b8 o.b.bs)) : Calls Try.prog 4 #[.slice a len cap] w (RetB (.bool true) w) := by
  by_cases h1 : (80 : Int) < (len : Int)
  · go_enter Try.func4, Try.ntmps4
    go_wp2_with fail
    refine (awake12_any _).mono ?_
    rintro e wz ⟨rfl, hbz⟩
    have HBZ := Lib.hid hbz
    clear hbz
    go_wp2
    go_ret
    exact ⟨rfl, HBZ.out⟩
  · have HS := Lib.hid hs
    have HL := Lib.hid hl
    have HBD := Lib.hid hbd
    have hl9 : len ≤ 80 := by omega
    clear hs hl hbd
    go_enter Try.func4, Try.ntmps4
    go_wp2_with fail
    refine (newSender_any _).mono ?_
    rintro e w1 ⟨rfl, hs1, hb1⟩
    have HS0 := snsStart hs1 hb1
    go_upto_region 5 with (fail)
    generalize w1.alloc (.cells #[.slice none 0 0, .int .i64 0] 35) = W1 at *
    generalize w1.heap.size = h at *
    generalize w.heap.size = g at *
    clear hs1 hb1
    go_loopw [5] (fun i wr => ∃ k : Nat, k ≤ len ∧ i = .int .i64 (k : Int) ∧ Hid (SnS w g h k wr)) (fun i _ => len - (intOf i).toNat)
    case atStart => exact ⟨0, by omega, rfl, HS0⟩
    case round =>
      obtain ⟨k, hk, rfl, HM⟩ := hrel
      clear HS0
      have hk0 : (0 : Int) ≤ (k : Int) := by omega
      have HLO := Lib.hid (sns_lo HM)
      by_cases hkl : k < len
      · have hkl' : (k : Int) < (len : Int) := by omega
        obtain ⟨ob, oo, e, hc⟩ := flat_at OpS.zero opS 3 (by decide) (fun _ => rfl) HS.out HL.out k hkl
        subst e
        have hbo := HBD.out (l.getD k OpS.zero) (by rw [List.getD_eq_getElem?_getD, List.getElem?_eq_getElem (by rw [HL.out]; exact hkl)]; exact List.getElem_mem _)
        generalize l.getD k OpS.zero = o at *
        obtain ⟨K, N, ba, bc, bs⟩ := o
        dsimp only at hbo
        have HBO := Lib.hid hbo
        have HP : Hid (w.cell? ⟨ob, oo + k * 3, none⟩ = some (.int .i64 K) ∧ w.cell? ⟨ob, oo + k * 3 + 1, none⟩ = some (.int .i64 N) ∧ w.cell? ⟨ob, oo + k * 3 + 2, none⟩ = some (.slice ba bs.length bc)) := Lib.hid ⟨hc 0 _ rfl, hc 1 _ rfl, hc 2 _ rfl⟩
        have p0 := cell_keep HLO.out HP.out.1
        have p1 := cell_keep HLO.out HP.out.2.1
        have p2 := cell_keep HLO.out HP.out.2.2
        clear hc hbo
        by_cases hbig : (400 : Int) < (bs.length : Int)
        · go_wp2_with fail
          refine (awake12_any _).mono ?_
          rintro e wz ⟨rfl, hbz⟩
          have HBZ := Lib.hid (below_step HLO.out hbz)
          clear hbz
          go_wp2
          go_ret
          exact ⟨rfl, HBZ.out⟩
        · obtain ⟨v, ka, xs, sv, all, hM, hA⟩ := HM.out
          have HMM := Lib.hid hM
          have HA := Lib.hid hA
          obtain ⟨sa, sc, e, _⟩ := snForm HMM
          subst e
          clear hM hA HM
          obtain ⟨c0, c1, f0, f1⟩ := snCells HMM
          go_upto_if 40 with (fail)
          go_cut [] (fun wx => Hid (SnS w g h (k + 1) wx))
          case first =>
            by_cases hK : K.tmod 2 = 0
            · obtain ⟨m, er, all', hal, HPUT, HRPUT⟩ := sn_put_any HMM HA (by omega) ba bs bc
              clear c0 c1 f0 f1
              go_wp2_with fail
              refine (HPUT.out _ HMM (HBO.out.ext HLO.out)).mono ?_
              rintro e w3 ⟨rfl, v3, xs3, HM3, HA3⟩
              clear p0 p1 p2
              have p1 := cell_keep HM3.out.lo HP.out.2.1
              have p2 := cell_keep HM3.out.lo HP.out.2.2
              obtain ⟨c0, c1, f0, f1⟩ := snCells HM3
              have HRP : Hid (∀ W', Below w3.heap.size w3 W' → Calls Try.prog 22 #[.agg #[.slice sa all.length sc, .int .i64 (ka : Int)], .slice ba bs.length bc] W' (fun e W'' => ∃ a' c', e = .returned (.tuple #[.agg #[.slice a' all'.length c', .int .i64 (ka : Int)], .int .i64 m, .int .i64 er]) ∧ Hid (W''.ownsRow w.heap.size 9 1 (.slice a' all'.length c') all'.length (cs stb all')) ∧ Below W'.heap.size W' W'')) := Lib.hid (fun W' hb => HRPUT.out W' v3 xs3 (snBelow HM3 hb) (HBO.out.ext (below_step HM3.out.lo hb)))
              clear HPUT HRPUT
              have hz1 := World.block_lt_of_cell? _ _ c0
              have hz2 := World.block_lt_of_cell? _ _ p2
              go_upto_region 11 with (fail)
              go_cut [8, 9, 10] (fun p q r wx => ∃ nb a' c', p = .pointer (some ⟨nb, 0, none⟩) ∧ q = .int .i64 m ∧ r = .int .i64 er ∧ Hid (SnM w g v3 ka xs3 h (.slice sa all.length sc) ka all wx) ∧ Hid (wx.ownsRow w.heap.size 9 1 (.slice a' all'.length c') all'.length (cs stb all')) ∧ Hid (BlkAt wx nb #[.slice a' all'.length c', .int .i64 (ka : Int)]))
              case first =>
                go_region_with (first
                  | (go_at_call 22; (with_reducible refine (HRP.out _ ?_).mono ?_); (focus (repeat (first | (with_reducible exact Below.refl _ _) | (with_reducible refine below_drew ?_) | (with_reducible refine belowA _ ?_)))); rintro e w4 ⟨a4, c4, rfl, ho4, hb4⟩; (try (have hz4 := hp_below hb4 (show (w3.alloc (.cells #[.slice none 0 0, .int .i64 0] 35)).heap[w3.heap.size]? = some (.cells #[.slice none 0 0, .int .i64 0] 35) from hp_new rfl); obtain ⟨z0, z1, y0, y1⟩ := two_facts ⟨_, hz4⟩; have HZ4 := Lib.hid hz4; clear hz4)); have HB4 := Lib.hid hb4; clear hb4))
                all_goals
                  have hbx : Below w3.heap.size w3 w4 := below_step (by (repeat (first | (with_reducible exact Below.refl _ _) | (with_reducible refine below_drew ?_) | (with_reducible refine belowA _ ?_)))) HB4.out
                  go_wp2_with fail
                  go_meet
                  first
                    | exact ⟨_, a4, c4, rfl, rfl, rfl, (sn_leaf1 HM3 hbx ho4).1, (sn_leaf1 HM3 hbx ho4).2.1, (sn_leaf1 HM3 hbx ho4).2.2⟩
                    | exact ⟨_, a4, c4, rfl, rfl, rfl, (sn_leaf2 HM3 hbx (Nat.le_refl _) HZ4.out ho4).1, (sn_leaf2 HM3 hbx (Nat.le_refl _) HZ4.out ho4).2.1, (sn_leaf2 HM3 hbx (Nat.le_refl _) HZ4.out ho4).2.2⟩
                    | fail "leaf"
              case rest =>
                obtain ⟨nb, a', c', rfl, rfl, rfl, HM4, HO4, HN4⟩ := hcut
                clear c0 c1 f0 f1 p1 p2 hz1 hz2
                obtain ⟨c0, c1, f0, f1⟩ := snCells HM4
                obtain ⟨d0, d1, _, _⟩ := two_facts HN4.out
                have HS4 := Lib.hid (snSet (kr' := ka) HM4 HO4.out).out
                go_wp2_with fail
                go_meet
                exact Lib.hid ⟨v3, ka, xs3, _, all', HS4.out, HA3.out⟩
            · obtain ⟨er, k', HACK, HRACK⟩ := sn_ack_any HMM HA (by omega) N
              clear c0 c1 f0 f1
              go_wp2_with fail
              refine (HACK.out _ HMM).mono ?_
              rintro e w3 ⟨rfl, v3, xs3, HM3, HA3⟩
              clear p0 p1 p2
              have p1 := cell_keep HM3.out.lo HP.out.2.1
              have p2 := cell_keep HM3.out.lo HP.out.2.2
              obtain ⟨c0, c1, f0, f1⟩ := snCells HM3
              clear HACK
              have hz1 := World.block_lt_of_cell? _ _ c0
              have hz2 := World.block_lt_of_cell? _ _ p1
              go_upto_region 16 with (fail)
              go_cut [12, 13] (fun p r wx => ∃ nb, p = .pointer (some ⟨nb, 0, none⟩) ∧ r = .int .i64 er ∧ Hid (SnM w g v3 k' xs3 h (.slice sa all.length sc) ka all wx) ∧ Hid (wx.ownsRow w.heap.size 9 1 (.slice sa all.length sc) all.length (cs stb all)) ∧ Hid (BlkAt wx nb #[.slice sa all.length sc, .int .i64 (k' : Int)]))
              case first =>
                go_region_with (first
                  | (go_at_call 24; (with_reducible refine (HRACK.out _).mono ?_); rintro e w4 ⟨rfl, hb4⟩; (try (have hz4 := hp_below hb4 (show (w3.alloc (.cells #[.slice none 0 0, .int .i64 0] 35)).heap[w3.heap.size]? = some (.cells #[.slice none 0 0, .int .i64 0] 35) from hp_new rfl); obtain ⟨z0, z1, y0, y1⟩ := two_facts ⟨_, hz4⟩; have HZ4 := Lib.hid hz4; clear hz4)); have HB4 := Lib.hid hb4; clear hb4))
                all_goals
                  have hbx : Below w3.heap.size w3 w4 := below_step (by (repeat (first | (with_reducible exact Below.refl _ _) | (with_reducible refine below_drew ?_) | (with_reducible refine belowA _ ?_)))) HB4.out
                  have ho4 := Lib.hid (ownsRow_ext HM3.out.st hbx)
                  go_wp2_with fail
                  go_meet
                  first
                    | exact ⟨_, rfl, rfl, (sn_leaf1 HM3 hbx ho4).1, (sn_leaf1 HM3 hbx ho4).2.1, (sn_leaf1 HM3 hbx ho4).2.2⟩
                    | exact ⟨_, rfl, rfl, (sn_leaf2 HM3 hbx (Nat.le_refl _) HZ4.out ho4).1, (sn_leaf2 HM3 hbx (Nat.le_refl _) HZ4.out ho4).2.1, (sn_leaf2 HM3 hbx (Nat.le_refl _) HZ4.out ho4).2.2⟩
                    | fail "leaf"
              case rest =>
                obtain ⟨nb, rfl, rfl, HM4, HO4, HN4⟩ := hcut
                clear c0 c1 f0 f1 p1 p2 hz1 hz2
                obtain ⟨c0, c1, f0, f1⟩ := snCells HM4
                obtain ⟨d0, d1, _, _⟩ := two_facts HN4.out
                have HS4 := Lib.hid (snSet (kr' := k') HM4 HO4.out).out
                go_wp2_with fail
                go_meet
                exact Lib.hid ⟨v3, k', xs3, _, all, HS4.out, HA3.out⟩
          case rest =>
            obtain ⟨W2, hW2⟩ : ∃ W', W' = wc := ⟨_, rfl⟩
            subst hW2
            clear HMM HA HP p0 p1 p2 c0 c1 f0 f1 HBO
            obtain ⟨v2, kb, xs2, sv2, all2, hM2, hA2⟩ := hcut.out
            have HM2 := Lib.hid hM2
            have HA2 := Lib.hid hA2
            obtain ⟨ta, tc, e, _⟩ := snForm HM2
            subst e
            clear hM2 hA2
            obtain ⟨c0, c1, f0, f1⟩ := snCells HM2
            have hle := HA2.out.kle
            have h16 := HA2.out.x16
            have hsz := HA2.out.sz
            have HFR : Hid (∀ W', Below W2.heap.size W2 W' → Calls Try.prog 26 #[.pointer (some ⟨g, 0, none⟩)] W' (RetFrs kb xs2 W')) := Lib.hid (fun W' hb => frames_any (Lib.hid (snBelow HM2 hb).out.sd) (by omega) h16 (sna_small HA2.out))
            have HRF : Hid (∀ W', Below W2.heap.size W2 W' → Calls Try.prog 27 #[.agg #[.slice ta all2.length tc, .int .i64 (kb : Int)]] W' (RetFrR kb all2 xs2.length W')) := Lib.hid (fun W' hb => by
              obtain ⟨_, _, e, hsl⟩ := snForm (snBelow HM2 hb)
              cases e
              have := refFrames_any W' ta all2.length tc kb all2 rfl (by omega) (by omega) HA2.out.len hsl
              rw [show all2.length - kb = xs2.length from by omega] at this
              exact this)
            have HSF : Hid (∀ W' B1 B2 a1 c1 a2 c2 ys zs, Hid (FrsAt B1 W' (.slice a1 xs2.length c1) kb ys) → Hid (FrsR B2 W' (.slice a2 xs2.length c2) kb zs) → ys.map Bv.bs = xs2.map Bv.bs → zs.map Bv.bs = all2.drop kb → Calls Try.prog 25 #[.slice a1 xs2.length c1, .slice a2 xs2.length c2] W' (fun e W'' => e = .returned (.bool true) ∧ Below W'.heap.size W' W'')) := Lib.hid (fun W' B1 B2 a1 c1 a2 c2 ys zs h1 h2 hy hz => by
              have hyl : ys.length = xs2.length := by have := congrArg List.length hy; simpa using this
              obtain ⟨_, _, e1, s1⟩ := sl_of_own h1.out.row
              obtain ⟨_, _, e2, s2⟩ := sl_of_own h2.out.row
              have hzl : zs.length = xs2.length := by have := congrArg List.length hz; rw [List.length_map, List.length_drop] at this; omega
              rw [hyl] at e1 s1
              rw [hzl] at e2 s2
              cases e1
              cases e2
              exact sameFrames_yes W' a1 a2 xs2.length c1 c2 kb ys zs (by omega) hyl (by rw [hz, hy, HA2.out.xe]) s1 (fun y hy => (h1.out.bds y hy).sl) s2 (fun y hy => (h2.out.bds y hy).1))
            have hS0 : W2.cell? ⟨h, 0, none⟩ = some (.slice ta all2.length tc) ∧ W2.cell? ⟨h, 1, none⟩ = some (.int .i64 (kb : Int)) ∧ Below W2.heap.size W2 W2 := ⟨c0, c1, Below.refl _ _⟩
            clear c0 c1 f0 f1 HM2 HA2 hle h16 hsz
            go_upto_region 20 with (fail)
            go_region_held3 (fun w9 => w9.cell? ⟨h, 0, none⟩ = some (.slice ta all2.length tc) ∧ w9.cell? ⟨h, 1, none⟩ = some (.int .i64 (kb : Int)) ∧ Below W2.heap.size W2 w9)
              (repeat (with_reducible first | assumption | refine keep3D ?_ | refine keep3A _ ?_ | (apply keep3; focus assumption)))
              (first
                | (go_at_call 26; (with_reducible refine (HFR.out _ ?_).mono ?_); (focus (repeat (first | (with_reducible assumption) | (with_reducible exact Below.refl _ _) | (with_reducible refine below_drew ?_)))); rintro e w5 ⟨a5, c5, ys5, rfl, hz5, hf5, hb5⟩; (try (have hR := Lib.hid (hf6.out.below hb5))); have hL := hf5; have hx5 : Below W2.heap.size W2 w5 := below_step (by (repeat (first | (with_reducible assumption) | (with_reducible exact Below.refl _ _) | (with_reducible refine below_drew ?_)))) hb5)
                | (go_at_call 27; (with_reducible refine (HRF.out _ ?_).mono ?_); (focus (repeat (first | (with_reducible assumption) | (with_reducible exact Below.refl _ _) | (with_reducible refine below_drew ?_)))); rintro e w6 ⟨a6, c6, ys6, rfl, hz6, hf6, hb6⟩; (try (have hL := Lib.hid (hf5.out.below hb6))); have hR := hf6; have hx6 : Below W2.heap.size W2 w6 := below_step (by (repeat (first | (with_reducible assumption) | (with_reducible exact Below.refl _ _) | (with_reducible refine below_drew ?_)))) hb6)
                | (go_at_call 25; (with_reducible refine (HSF.out _ _ _ _ _ _ _ _ _ hL hR hz5 hz6).mono ?_); rintro e w7 ⟨rfl, hb7⟩))
            all_goals
              go_split_ands
              have HNX : Hid (SnS w g h (k + 1) w7) := sns_below hcut (by assumption)
              go_wp2
              go_roundw
              case rel => exact ⟨k + 1, by omega, by go_num, HNX⟩
              case measure => simp [intOf]; omega
      · have hkl' : ¬ (k : Int) < (len : Int) := by omega
        go_wp2_with fail
        refine (awake12_any _).mono ?_
        rintro e wz ⟨rfl, hbz⟩
        have HBZ := Lib.hid (below_step HLO.out hbz)
        clear hbz
        go_wp2
        go_ret
        exact ⟨rfl, HBZ.out⟩
end Go.Proofs.Ytfhcaikfbfoopaa
