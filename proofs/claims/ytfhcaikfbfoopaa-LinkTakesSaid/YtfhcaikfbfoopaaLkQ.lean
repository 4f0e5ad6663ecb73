/-
  LINK, THE LAWS: LinkTakes.
-/
import Derived.Test.YtfhcaikfbfoopaaProg
import Derived.Test.YtfhcaikfbfoopaaBase1
import Derived.Test.YtfhcaikfbfoopaaBase2
import Derived.Test.YtfhcaikfbfoopaaBase3
import Derived.Test.YtfhcaikfbfoopaaBase5
import Derived.Test.YtfhcaikfbfoopaaBase6
import Derived.Test.YtfhcaikfbfoopaaBase11
import Derived.Test.YtfhcaikfbfoopaaBase13
import Derived.Test.YtfhcaikfbfoopaaBase14
import Derived.Test.YtfhcaikfbfoopaaHeld
import Derived.Test.YtfhcaikfbfoopaaFlat
import Derived.Test.YtfhcaikfbfoopaaLkP
import Derived.Test.YtfhcaikfbfoopaaLk1
import Derived.Test.YtfhcaikfbfoopaaLk2
import Derived.Test.YtfhcaikfbfoopaaLk3
import Derived.Test.YtfhcaikfbfoopaaLk6
import Derived.Test.YtfhcaikfbfoopaaLk9
import Derived.Test.YtfhcaikfbfoopaaLk5
import Derived.Test.YtfhcaikfbfoopaaLkS
import Derived.Test.YtfhcaikfbfoopaaLkM
import Derived.Test.YtfhcaikfbfoopaaLkF
import Derived.Test.YtfhcaikfbfoopaaLkG
import Derived.Test.YtfhcaikfbfoopaaLkA
import Derived.Test.YtfhcaikfbfoopaaLkJ
import Derived.Test.YtfhcaikfbfoopaaLkC
import Derived.Test.YtfhcaikfbfoopaaLkD
import Derived.Test.YtfhcaikfbfoopaaLkE
import Derived.BigQuiet
import Derived.Laws.StructEq
import Derived.StillTailTactics
import Derived.RegionTactic
import Derived.BigRegion
import Derived.Deep.RegionHeld3
import Derived.Deep.RegionLaw
import Derived.Deep.DeepCutAuto
import Derived.Deep.QuietTactic
import Derived.WalkSpells
import Derived.WalkLawsBesides
namespace Go.Proofs.Ytfhcaikfbfoopaa
open Go.RowKit Go.Maps
set_option linter.unusedVariables false

/-- The law's state between two frames. -/
def RtS (w : World) (r b h cnt : Nat) (W : World) : Prop := ∃ (u : Value) (n : Nat) (D : DataW Value) (ys : List Bv) (f : Kf) (ov : Value) (o : List (List UInt8)) (kv : Value) (K : List FrL), n ≤ cnt ∧ RtM w r b u n D ys f h ov o kv K W ∧ KI o (absF f) K cnt ∧ ys.map Bv.bs = o
theorem rtsStart {w w1 : World} (h1 : Hid (RecAt w.heap.size w1 (w.heap.size + 1) (.slice none 0 0) w.heap.size 0 (.map []) [] (fun _ => none))) (hb1 : Below w.heap.size w w1) : Hid (RtS w (w.heap.size + 1) w.heap.size w1.heap.size 0 (w1.alloc (.cells #[.slice none 0 0, .slice none 0 0] 54))) :=
  Lib.hid ⟨.slice none 0 0, 0, .map [], [], fun _ => none, .slice none 0 0, [], .slice none 0 0, [], Nat.le_refl _, ⟨h1.out.below (below_alloc _ _), World.ownsRow_nil _ _ _ _, World.ownsRow_nil _ _ _ _, fun x hx => by simp at hx, hp_new rfl, below_step hb1 (below_alloc _ _), hb1.size⟩, ki_zero, rfl⟩
theorem rts_below {w W W' : World} {r b h cnt : Nat} (s : Hid (RtS w r b h cnt W)) (hb : Below W.heap.size W W') : Hid (RtS w r b h cnt W') := by
  obtain ⟨u, n, D, ys, f, ov, o, kv, K, hn, hM, hI, hy⟩ := s.out
  exact Lib.hid ⟨u, n, D, ys, f, ov, o, kv, K, hn, (rtBelow (Lib.hid hM) hb).out, hI, hy⟩
theorem rts_lo {w W : World} {r b h cnt : Nat} (s : Hid (RtS w r b h cnt W)) : Below w.heap.size w W := by
  obtain ⟨u, n, D, ys, f, ov, o, kv, K, hn, hM, hI, hy⟩ := s.out
  exact hM.lo
section
variable {w W W' : World} {r b n h : Nat} {u ov kv : Value} {D : DataW Value} {ys : List Bv} {f : Kf} {o : List (List UInt8)} {K : List FrL}
theorem rt_leaf1 {ov' kv' : Value} {o' : List (List UInt8)} {K' : List FrL} {w4 : World} (s : Hid (RtM w r b u n D ys f h ov o kv K W)) (hb : Below W.heap.size W w4) (ho : Hid (w4.ownsRow w.heap.size 9 1 ov' o'.length (cs stb o'))) (hk : Hid (w4.ownsRow w.heap.size 56 2 kv' K'.length (flatV frA K'))) (hbd : Hid (∀ x ∈ K', BdR w4 x.b)) :
    Hid (RtM w r b u n D ys f h ov o kv K (w4.alloc (.cells #[ov', kv'] 54))) ∧ Hid ((w4.alloc (.cells #[ov', kv'] 54)).ownsRow w.heap.size 9 1 ov' o'.length (cs stb o')) ∧ Hid ((w4.alloc (.cells #[ov', kv'] 54)).ownsRow w.heap.size 56 2 kv' K'.length (flatV frA K')) ∧ Hid (∀ x ∈ K', BdR (w4.alloc (.cells #[ov', kv'] 54)) x.b) ∧ Hid (BlkAt (w4.alloc (.cells #[ov', kv'] 54)) w4.heap.size #[ov', kv']) :=
  ⟨rtBelow s (below_step hb (below_alloc _ _)), Lib.hid (ownsRow_ext ho.out (below_alloc _ _)), Lib.hid (ownsRow_ext hk.out (below_alloc _ _)), Lib.hid (fun x hx => (hbd.out x hx).keep (L := []) (Fx.ofBelow (below_alloc _ _)) (fun j hj => by simp at hj)), Lib.hid (blkNew rfl)⟩
theorem rt_leaf2 {ov' kv' x y : Value} {o' : List (List UInt8)} {K' : List FrL} {w4 : World} {nb : Nat} (s : Hid (RtM w r b u n D ys f h ov o kv K W)) (hb : Below W.heap.size W w4) (hnb : W.heap.size ≤ nb) (hz : w4.heap[nb]? = some (.cells #[x, y] 54)) (ho : Hid (w4.ownsRow w.heap.size 9 1 ov' o'.length (cs stb o'))) (hk : Hid (w4.ownsRow w.heap.size 56 2 kv' K'.length (flatV frA K'))) (hbd : Hid (∀ x ∈ K', BdR w4 x.b)) :
    Hid (RtM w r b u n D ys f h ov o kv K ((w4.setCell ⟨nb, 0, none⟩ ov').setCell ⟨nb, 1, none⟩ kv')) ∧ Hid (((w4.setCell ⟨nb, 0, none⟩ ov').setCell ⟨nb, 1, none⟩ kv').ownsRow w.heap.size 9 1 ov' o'.length (cs stb o')) ∧ Hid (((w4.setCell ⟨nb, 0, none⟩ ov').setCell ⟨nb, 1, none⟩ kv').ownsRow w.heap.size 56 2 kv' K'.length (flatV frA K')) ∧ Hid (∀ x ∈ K', BdR ((w4.setCell ⟨nb, 0, none⟩ ov').setCell ⟨nb, 1, none⟩ kv') x.b) ∧ Hid (BlkAt ((w4.setCell ⟨nb, 0, none⟩ ov').setCell ⟨nb, 1, none⟩ kv') nb #[ov', kv']) := by
  have fx : Fx [nb] w4 ((w4.setCell ⟨nb, 0, none⟩ ov').setCell ⟨nb, 1, none⟩ kv') := ((Fx.refl [nb] w4).setCell (by simp)).setCell (by simp)
  have nt : ∀ e', 54 ≠ e' → NoTy e' w4 [nb] := fun e' he => noTy_blk hz he
  refine ⟨rtBelow s ((hb.setCell (p := ⟨nb, 0, none⟩) hnb _).setCell (p := ⟨nb, 1, none⟩) hnb _), Lib.hid (own_keepT ho.out fx (nt _ (by decide))), Lib.hid (own_keepT hk.out fx (nt _ (by decide))), Lib.hid (fun x hx => (hbd.out x hx).keep fx (nt _ (by decide))), Lib.hid ⟨54, ?_⟩⟩
  have h1 := heap_setCell_same w4 nb 0 _ _ ov' hz
  have h2 := heap_setCell_same _ nb 1 _ _ kv' h1
  simpa using h2
end
set_option maxRecDepth 100000 in
set_option maxHeartbeats 8000000 in
theorem linkTakes_walk (a : Option Addr) (len cap : Nat) (l : List FrL) (w : World) (hl : l.length = len) (hs : Sl w 2 a len cap (flatV frA l)) (hbd : ∀ o ∈ l, Sl w 1 o.b.a o.b.bs.length o.b.c (cs b8 o.b.bs)) : Calls Try.prog 5 #[.slice a len cap] w (RetB (.bool true) w) := by
  by_cases h1 : (80 : Int) < (len : Int)
  · go_enter Try.func5, Try.ntmps5
    go_wp2_with fail
    refine (awake12_any _).mono ?_
    rintro e wz ⟨rfl, hbz⟩
    have HBZ := Lib.hid hbz
    clear hbz
    go_wp2
    go_ret
    exact ⟨rfl, HBZ.out⟩
  · have HS := Lib.hid hs
    have HL := Lib.hid hl
    have HBD := Lib.hid hbd
    have hl9 : len ≤ 80 := by omega
    clear hs hl hbd
    go_enter Try.func5, Try.ntmps5
    go_wp2_with fail
    refine (newReceiver_any _).mono ?_
    rintro e w1 ⟨rfl, hs1, hb1⟩
    have HS0 := rtsStart hs1 hb1
    go_upto_region 5 with (fail)
    generalize w1.alloc (.cells #[.slice none 0 0, .slice none 0 0] 54) = W1 at *
    generalize w1.heap.size = h at *
    generalize w.heap.size + 1 = r at *
    generalize w.heap.size = b at *
    clear hs1 hb1
    go_loopw [5] (fun i wr => ∃ k : Nat, k ≤ len ∧ i = .int .i64 (k : Int) ∧ Hid (RtS w r b h k wr)) (fun i _ => len - (intOf i).toNat)
    case atStart => exact ⟨0, by omega, rfl, HS0⟩
    case round =>
      obtain ⟨k, hk, rfl, HM⟩ := hrel
      clear HS0
      have hk0 : (0 : Int) ≤ (k : Int) := by omega
      have HLO := Lib.hid (rts_lo HM)
      by_cases hkl : k < len
      · have hkl' : (k : Int) < (len : Int) := by omega
        obtain ⟨ob, oo, e, hc⟩ := flat_at FrL.zero frA 2 (by decide) (fun _ => rfl) HS.out HL.out k hkl
        subst e
        have hbo := HBD.out (l.getD k FrL.zero) (by rw [List.getD_eq_getElem?_getD, List.getElem?_eq_getElem (by rw [HL.out]; exact hkl)]; exact List.getElem_mem _)
        generalize l.getD k FrL.zero = o at *
        obtain ⟨S, ba, bc, bs⟩ := o
        dsimp only at hbo
        have HBO := Lib.hid hbo
        have HP : Hid (w.cell? ⟨ob, oo + k * 2, none⟩ = some (.int .i64 S) ∧ w.cell? ⟨ob, oo + k * 2 + 1, none⟩ = some (.slice ba bs.length bc)) := Lib.hid ⟨hc 0 _ rfl, hc 1 _ rfl⟩
        have p0 := cell_keep HLO.out HP.out.1
        have p1 := cell_keep HLO.out HP.out.2
        clear hc hbo
        by_cases hbig : (400 : Int) < (bs.length : Int)
        · go_wp2_with fail
          refine (awake12_any _).mono ?_
          rintro e wz ⟨rfl, hbz⟩
          have HBZ := Lib.hid (below_step HLO.out hbz)
          clear hbz
          go_wp2
          go_ret
          exact ⟨rfl, HBZ.out⟩
        · obtain ⟨u, n, D, ys, f, ov, o, kv, K, hn, hM, hI, hy⟩ := HM.out
          have HMM := Lib.hid hM
          obtain ⟨oa, oc, ka, kc, e1, e2⟩ := rtForm HMM
          subst e1
          subst e2
          obtain ⟨er, o', q', HTK, HRTK⟩ := rt_take_any HMM (Lib.hid ⟨hI, hy⟩) hn (by omega) S ba bc bs
          clear hM hI hy HM
          go_wp2_with fail
          refine (HTK.out _ HMM (HBO.out.ext HLO.out)).mono ?_
          rintro e w3 ⟨rfl, u3, n3, D3, ys3, f3, hn3, HA3, HM3⟩
          clear p0 p1 HTK
          have p0 := cell_keep HM3.out.lo HP.out.1
          have p1 := cell_keep HM3.out.lo HP.out.2
          obtain ⟨c0, c1, f0, f1⟩ := rtCells HM3
          have HRP : Hid (∀ W', Below w3.heap.size w3 W' → Calls Try.prog 30 #[.agg #[.slice oa o.length oc, .slice ka K.length kc], .agg #[.int .i64 S, .slice ba bs.length bc]] W' (RtNew w k o' q' er W')) := Lib.hid (fun W' hb => HRTK.out W' u3 n3 D3 ys3 f3 (rtBelow HM3 hb) (HBO.out.ext (below_step HM3.out.lo hb)))
          have hz1 := World.block_lt_of_cell? _ _ c0
          have hz2 := World.block_lt_of_cell? _ _ p0
          clear HRTK HMM
          go_upto_region 10 with (fail)
          go_cut [7, 8] (fun p q wx => ∃ nb oa' oc' ka' kc' K', p = .pointer (some ⟨nb, 0, none⟩) ∧ q = .int .i64 er ∧ Hid (KI o' q' K' (k + 1)) ∧ Hid (RtM w r b u3 n3 D3 ys3 f3 h (.slice oa o.length oc) o (.slice ka K.length kc) K wx) ∧ Hid (wx.ownsRow w.heap.size 9 1 (.slice oa' o'.length oc') o'.length (cs stb o')) ∧ Hid (wx.ownsRow w.heap.size 56 2 (.slice ka' K'.length kc') K'.length (flatV frA K')) ∧ Hid (∀ x ∈ K', BdR wx x.b) ∧ Hid (BlkAt wx nb #[.slice oa' o'.length oc', .slice ka' K'.length kc']))
          case first =>
            go_region_with (first
              | (go_at_call 30; (with_reducible refine (HRP.out _ ?_).mono ?_); (focus (repeat (first | (with_reducible exact Below.refl _ _) | (with_reducible refine below_drew ?_) | (with_reducible refine belowA _ ?_)))); rintro e w4 ⟨oa4, oc4, ka4, kc4, K4, rfl, hki4, ho4, hk4, hbd4, hb4⟩; (try (have hz4 := hp_below hb4 (show (w3.alloc (.cells #[.slice none 0 0, .slice none 0 0] 54)).heap[w3.heap.size]? = some (.cells #[.slice none 0 0, .slice none 0 0] 54) from hp_new rfl); obtain ⟨z0, z1, y0, y1⟩ := two_facts ⟨_, hz4⟩; have HZ4 := Lib.hid hz4; clear hz4)); have HB4 := Lib.hid hb4; clear hb4))
            all_goals
              have hbx : Below w3.heap.size w3 w4 := below_step (by (repeat (first | (with_reducible exact Below.refl _ _) | (with_reducible refine below_drew ?_) | (with_reducible refine belowA _ ?_)))) HB4.out
              go_wp2_with fail
              go_meet
              first
                | exact ⟨_, oa4, oc4, ka4, kc4, K4, rfl, rfl, hki4, (rt_leaf1 HM3 hbx ho4 hk4 hbd4).1, (rt_leaf1 HM3 hbx ho4 hk4 hbd4).2.1, (rt_leaf1 HM3 hbx ho4 hk4 hbd4).2.2.1, (rt_leaf1 HM3 hbx ho4 hk4 hbd4).2.2.2.1, (rt_leaf1 HM3 hbx ho4 hk4 hbd4).2.2.2.2⟩
                | exact ⟨_, oa4, oc4, ka4, kc4, K4, rfl, rfl, hki4, (rt_leaf2 HM3 hbx (Nat.le_refl _) HZ4.out ho4 hk4 hbd4).1, (rt_leaf2 HM3 hbx (Nat.le_refl _) HZ4.out ho4 hk4 hbd4).2.1, (rt_leaf2 HM3 hbx (Nat.le_refl _) HZ4.out ho4 hk4 hbd4).2.2.1, (rt_leaf2 HM3 hbx (Nat.le_refl _) HZ4.out ho4 hk4 hbd4).2.2.2.1, (rt_leaf2 HM3 hbx (Nat.le_refl _) HZ4.out ho4 hk4 hbd4).2.2.2.2⟩
                | fail "leaf"
          case rest =>
            obtain ⟨nb, oa', oc', ka', kc', K', rfl, rfl, HKI, HM4, HO4, HK4, HBD4, HN4⟩ := hcut
            obtain ⟨W4, hW4⟩ : ∃ W', W' = wc := ⟨_, rfl⟩
            subst hW4
            clear c0 c1 f0 f1 p0 p1 hz1 hz2 HRP
            obtain ⟨c0, c1, f0, f1⟩ := rtCells HM4
            obtain ⟨d0, d1, _, _⟩ := two_facts HN4.out
            have HS4 := rtSet HM4 HO4.out HK4.out HBD4.out
            go_upto_region 12 with (fail)
            generalize (W4.setCell ⟨h, 0, none⟩ (.slice oa' o'.length oc')).setCell ⟨h, 1, none⟩ (.slice ka' K'.length kc') = W5 at *
            clear c0 c1 f0 f1 d0 d1 HM4 HO4 HK4 HBD4 HN4
            obtain ⟨c0, c1, _, _⟩ := rtCells HS4
            have hyl : ys3.length = o'.length := by have := congrArg List.length HA3.out.1; simpa using this
            have hsm : ∀ x ∈ ys3, x.bs.length ≤ 256 := fun x hx => HKI.out.lo x.bs (by rw [← HA3.out.1]; exact List.mem_map.2 ⟨x, hx, rfl⟩)
            have hcc := HKI.out.c
            have HAK : Hid (∀ W', Below W5.heap.size W5 W' → Calls Try.prog 31 #[.pointer (some ⟨r, 0, none⟩)] W' (fun e W'' => e = .returned (.int .i64 (o'.length : Int)) ∧ W'' = W')) := Lib.hid (fun W' hb => by
              have := acked_any (Lib.hid (rtBelow HS4 hb).out.rc)
              rw [hyl] at this
              exact this)
            have HOUT : Hid (∀ W', Below W5.heap.size W5 W' → Calls Try.prog 33 #[.pointer (some ⟨r, 0, none⟩)] W' (fun e W'' => ∃ a c zs, e = .returned (.slice a o'.length c) ∧ zs.map Bv.bs = o' ∧ Hid (OutAt W'.heap.size W'' (.slice a o'.length c) zs) ∧ Below W'.heap.size W' W'')) := Lib.hid (fun W' hb => by
              refine (out_any (Lib.hid (rtBelow HS4 hb).out.rc) (by omega) hsm).mono ?_
              rintro e W'' ⟨a, c, zs, rfl, hz, ho, hb'⟩
              rw [hyl] at ho ⊢
              exact ⟨a, c, zs, rfl, by rw [hz]; exact HA3.out.1, ho, hb'⟩)
            have HSB : Hid (∀ W' B a c zs, Below W5.heap.size W5 W' → Hid (OutAt B W' (.slice a o'.length c) zs) → zs.map Bv.bs = o' → Calls Try.prog 32 #[.slice a o'.length c, .slice oa' o'.length oc'] W' (fun e W'' => e = .returned (.bool true) ∧ Below W'.heap.size W' W'')) := Lib.hid (fun W' B a c zs hb ho hz => by
              have hzl : zs.length = o'.length := by have := congrArg List.length hz; simpa using this
              obtain ⟨_, _, e1, s1⟩ := sl_of_own ho.out.row
              obtain ⟨_, _, e2, s2⟩ := sl_of_own (rtBelow HS4 hb).out.o
              rw [hzl] at e1 s1
              cases e1
              cases e2
              exact same_yes W' a oa' o'.length c oc' zs (by omega) hzl s1 (fun y hy => (ho.out.bds y hy).sl) (by rw [hz]; exact s2))
            have hS0 : W5.cell? ⟨h, 0, none⟩ = some (.slice oa' o'.length oc') ∧ W5.cell? ⟨h, 1, none⟩ = some (.slice ka' K'.length kc') ∧ Below W5.heap.size W5 W5 := ⟨c0, c1, Below.refl _ _⟩
            have HNX0 : Hid (RtS w r b h (k + 1) W5) := Lib.hid ⟨u3, n3, D3, ys3, f3, _, o', _, K', hn3, HS4.out, by rw [HA3.out.2]; exact HKI.out, HA3.out.1⟩
            clear c0 c1 hyl hsm hcc HS4
            go_region_held3 (fun w9 => w9.cell? ⟨h, 0, none⟩ = some (.slice oa' o'.length oc') ∧ w9.cell? ⟨h, 1, none⟩ = some (.slice ka' K'.length kc') ∧ Below W5.heap.size W5 w9)
              (repeat (with_reducible first | assumption | refine keep3D ?_ | refine keep3A _ ?_ | (apply keep3; focus assumption)))
              (first
                | (go_at_call 31; (with_reducible refine (HAK.out _ ?_).mono ?_); (focus (repeat (first | (with_reducible assumption) | (with_reducible exact Below.refl _ _) | (with_reducible refine below_drew ?_)))); rintro e w8 ⟨rfl, hw8⟩; subst w8)
                | (go_at_call 33; (with_reducible refine (HOUT.out _ ?_).mono ?_); (focus (repeat (first | (with_reducible assumption) | (with_reducible exact Below.refl _ _) | (with_reducible refine below_drew ?_)))); rintro e w6 ⟨a6, c6, zs6, rfl, hz6, ho6, hb6⟩; have hx6 : Below W5.heap.size W5 w6 := below_step (by (repeat (first | (with_reducible assumption) | (with_reducible exact Below.refl _ _) | (with_reducible refine below_drew ?_)))) hb6)
                | (go_at_call 32; (with_reducible refine (HSB.out _ _ _ _ _ hx6 ho6 hz6).mono ?_); rintro e w7 ⟨rfl, hb7⟩))
            all_goals
              go_split_ands
              have HNX : Hid (RtS w r b h (k + 1) w7) := rts_below HNX0 (by assumption)
              clear HNX0
              go_wp2
              go_roundw
              case rel => exact ⟨k + 1, by omega, by go_num, HNX⟩
              case measure => simp [intOf]; omega
      · have hkl' : ¬ (k : Int) < (len : Int) := by omega
        go_wp2_with fail
        refine (awake12_any _).mono ?_
        rintro e wz ⟨rfl, hbz⟩
        have HBZ := Lib.hid (below_step HLO.out hbz)
        clear hbz
        go_wp2
        go_ret
        exact ⟨rfl, HBZ.out⟩
end Go.Proofs.Ytfhcaikfbfoopaa
