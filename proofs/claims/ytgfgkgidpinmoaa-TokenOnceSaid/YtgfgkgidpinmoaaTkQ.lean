/-
  TOKENS, THE LAWS: TokenOnce, the walk.
-/
import Derived.Test.YtgfgkgidpinmoaaProg
import Derived.Test.YtgfgkgidpinmoaaBase1
import Derived.Test.YtgfgkgidpinmoaaBase2
import Derived.Test.YtgfgkgidpinmoaaBase3
import Derived.Test.YtgfgkgidpinmoaaBase5
import Derived.Test.YtgfgkgidpinmoaaBase6
import Derived.Test.YtgfgkgidpinmoaaBase7
import Derived.Test.YtgfgkgidpinmoaaBase15
import Derived.Test.YtgfgkgidpinmoaaMacP
import Derived.Test.YtgfgkgidpinmoaaTokP
import Derived.Test.YtgfgkgidpinmoaaTkP
import Derived.Test.YtgfgkgidpinmoaaTok1
import Derived.Test.YtgfgkgidpinmoaaTok2
import Derived.Test.YtgfgkgidpinmoaaWire1
import Derived.Test.YtgfgkgidpinmoaaWire2
import Derived.Test.YtgfgkgidpinmoaaWire5
import Derived.Test.YtgfgkgidpinmoaaBase14
import Derived.Test.YtgfgkgidpinmoaaTok3
import Derived.Test.YtgfgkgidpinmoaaTkA
import Derived.Test.YtgfgkgidpinmoaaTkO
import Derived.Test.YtgfgkgidpinmoaaTkN
import Derived.Test.YtgfgkgidpinmoaaShell5
import Derived.Test.YtgfgkgidpinmoaaHeld
import Derived.BigQuiet
import Derived.Laws.StructEq
import Derived.StillTailTactics
import Derived.RegionTactic
import Derived.BigRegion
import Derived.Deep.RegionHeld3
import Derived.Deep.AppendSrc
import Derived.Deep.DeepCutAuto
import Derived.Deep.QuietTactic
import Derived.WalkSpells
import Derived.WalkLawsBesides
namespace Go.Proofs.Ytgfgkgidpinmoaa
open Go.RowKit
set_option linter.unusedVariables false

theorem sl_one7 {W : World} {k : Nat} {x0 x1 x2 x3 x4 x5 x6 : Value} (h : BlkAt W k #[x0, x1, x2, x3, x4, x5, x6]) : Sl W 7 (some ⟨k, 0, none⟩) 1 1 [x0, x1, x2, x3, x4, x5, x6] := by
  obtain ⟨E, h⟩ := h
  refine ⟨rfl, Nat.le_refl _, by unfold maxLen; omega, (fun h => by cases h), fun j u hj => ⟨k, 0, rfl, ?_⟩⟩
  rw [Nat.zero_add, cell_of_row _ _ _ _ _ _ h]
  simpa using hj
theorem own_ltQ {W : World} {e : TypeId} {B N n : Nat} {u : Value} {xs : List Value} {k : Nat} (h : W.ownsRow B e N u n xs) (hk : u.ownBlock = some k) : k < W.heap.size := by
  rcases h.2 with ⟨hv, _⟩ | ⟨j, cap, cur, hv, hB, hj, _⟩
  · rw [hv] at hk; cases hk
  · rw [hv] at hk
    simp [Value.ownBlock] at hk
    subst hk
    exact (Array.getElem?_eq_some_iff.1 hj).1
theorem own_newQ {W : World} {e : TypeId} {B N n : Nat} {u : Value} {xs : List Value} (h : W.ownsRow B e N u n xs) : some W.heap.size ≠ u.ownBlock := fun e' => Nat.lt_irrefl _ (own_ltQ h e'.symm)
theorem blk_ltQ {W : World} {k : Nat} {C : Array Value} (h : BlkAt W k C) : k < W.heap.size := h.elim fun E h => (Array.getElem?_eq_some_iff.1 h).1
theorem blk_grownQ {C D : World} {g : Nat} {A : Array Value} {r : Option Nat} (h : BlkAt C g A) (hg : C.grownBy D r) (hr : some g ≠ r) : BlkAt D g A := h.elim fun E h => ⟨E, by rw [hg.block g (Array.getElem?_eq_some_iff.1 h).1 hr]; exact h⟩
theorem tokA_oneQ (x : TokL) : ∀ u ∈ (tokA x).toList, u.oneCell' = true := by
  intro u hu
  simp [tokA] at hu
  rcases hu with rfl | rfl | rfl | rfl | rfl | rfl | rfl <;> rfl
theorem blkAboveQ {W W' : World} {k B : Nat} {C : Array Value} (h : BlkAt W k C) (hk : k < B) (hb : Below B W W') : BlkAt W' k C := h.elim fun E h => ⟨E, by rw [hb.block k hk]; exact h⟩
theorem used_snoc {us : List TokL} {lst : Int} {T : TokL} (h : ∀ u ∈ us, u.n ≤ lst) (hn : lst < T.n) : ∀ u ∈ us ++ [T], u.n ≤ T.n := fun u hu => by
  rcases List.mem_append.1 hu with hu | hu
  · have := h u hu
    omega
  · simp at hu
    subst hu
    exact Int.le_refl _
theorem stop_hereQ {p : Prop} (h : Hid p) : p := h.out
theorem blk_frozenQ {W : World} {k i : Nat} {C : Array Value} (h : BlkAt W k C) : W.frozen? ⟨k, i, none⟩ = false := h.elim fun E h => frozen_of_row _ _ _ _ _ h
/-- The world of a round: the attempt and the token lie besides. -/
structure OnT (w : World) (x y : BitVec 64) (us : List TokL) (v : Value) (xb tb : Nat) (kk : Int) (iss : Bool) (lo hi : Int) (T : Array Value) (W : World) : Prop where
  q : OnW w x y us v W
  a : BlkAt W xb #[.int .i64 kk, .bool iss, .int .i64 lo, .int .i64 hi]
  t : BlkAt W tb T
  nv : some tb ≠ v.ownBlock
  hk : w.heap.size < tb
  hx : xb ≠ tb
theorem onT_step {w W W' : World} {x y : BitVec 64} {us : List TokL} {v : Value} {xb tb : Nat} {kk : Int} {iss : Bool} {lo hi : Int} {T : Array Value} (h : Hid (OnT w x y us v xb tb kk iss lo hi T W)) (hb : Below W.heap.size W W') : Hid (OnT w x y us v xb tb kk iss lo hi T W') := ⟨(on_step (Lib.hid h.out.q) hb).out, blkBelow hb h.out.a, blkBelow hb h.out.t, h.out.nv, h.out.hk, h.out.hx⟩
theorem own_setQ {W : World} {e : TypeId} {B size n nb i : Nat} {u x : Value} {xs : List Value} (h : W.ownsRow B e size u n xs) (hk : some nb ≠ u.ownBlock) : (W.setCell ⟨nb, i, none⟩ x).ownsRow B e size u n xs := by
  refine ⟨h.1, ?_⟩
  rcases h.2 with hn | ⟨k, cap, cur, hv, hB, hkk, rest⟩
  · exact .inl hn
  · exact .inr ⟨k, cap, cur, hv, hB, by rw [heap_setCell_other _ _ _ _ (show k ≠ nb from fun e => hk (by rw [hv, e]; rfl))]; exact hkk, rest⟩
theorem blkX_otherQ {W : World} {k : Nat} {C : Array Value} {a : Addr} {v : Value} (h : BlkAt W k C) (hk : k ≠ a.block) : BlkAt (W.setCell a v) k C := h.elim fun E h => ⟨E, by rw [heap_setCell_other _ _ _ _ hk]; exact h⟩
theorem blkX_setQ {W : World} {k i : Nat} {C : Array Value} {v : Value} (h : BlkAt W k C) : BlkAt (W.setCell ⟨k, i, none⟩ v) k (C.setIfInBounds i v) := h.elim fun E h => ⟨E, heap_setCell_same W k i _ E v h⟩
theorem onT_set {w W : World} {x y : BitVec 64} {us : List TokL} {v : Value} {xb tb : Nat} {kk : Int} {iss : Bool} {lo hi : Int} {T : Array Value} (h : OnT w x y us v xb tb kk iss lo hi T W) (i : Nat) (u : Value) : OnT w x y us v xb tb kk iss lo hi (T.setIfInBounds i u) (W.setCell ⟨tb, i, none⟩ u) := ⟨⟨blkX_otherQ h.q.k (Nat.ne_of_lt h.hk), own_setQ h.q.o h.nv, h.q.lo.setCell (p := ⟨tb, i, none⟩) (Nat.le_of_lt h.hk) _⟩, blkX_otherQ h.a h.hx, blkX_setQ h.t, h.nv, h.hk, h.hx⟩
theorem onT_set7 {w W : World} {x y : BitVec 64} {us : List TokL} {v : Value} {xb tb : Nat} {kk : Int} {iss : Bool} {lo hi : Int} {y0 y1 y2 y3 y4 y5 y6 : Value} (h : Hid (OnT w x y us v xb tb kk iss lo hi #[y0, y1, y2, y3, y4, y5, y6] W)) (x0 x1 x2 x3 x4 x5 x6 : Value) : Hid (OnT w x y us v xb tb kk iss lo hi #[x0, x1, x2, x3, x4, x5, x6] (((((((W.setCell ⟨tb, 0, none⟩ x0).setCell ⟨tb, 1, none⟩ x1).setCell ⟨tb, 2, none⟩ x2).setCell ⟨tb, 3, none⟩ x3).setCell ⟨tb, 4, none⟩ x4).setCell ⟨tb, 5, none⟩ x5).setCell ⟨tb, 6, none⟩ x6)) := by
  have e := onT_set (onT_set (onT_set (onT_set (onT_set (onT_set (onT_set h.out 0 x0) 1 x1) 2 x2) 3 x3) 4 x4) 5 x5) 6 x6
  rw [show (((((((#[y0, y1, y2, y3, y4, y5, y6] : Array Value).setIfInBounds 0 x0).setIfInBounds 1 x1).setIfInBounds 2 x2).setIfInBounds 3 x3).setIfInBounds 4 x4).setIfInBounds 5 x5).setIfInBounds 6 x6 = #[x0, x1, x2, x3, x4, x5, x6] from by simp] at e
  exact e
theorem usedRow {w W : World} {x y : BitVec 64} {us : List TokL} {ua : Option Addr} {uc : Nat} (h : Hid (OnW w x y us (.slice ua us.length uc) W)) (q : Nat) (hq : q < us.length) : ∃ b o, ua = some ⟨b, o, none⟩ ∧ ∀ j v, (tokA (us.getD q TokL.zero))[j]? = some v → W.cell? ⟨b, o + q * 7 + j, none⟩ = some v := by
  obtain ⟨ao, cap, e, hs⟩ := sl_of_own h.out.o
  cases e
  exact flat_at TokL.zero tokA 7 (by decide) (fun _ => rfl) hs rfl q hq
set_option maxRecDepth 100000 in
set_option maxHeartbeats 4000000 in
theorem tokenOnce_ok (x y : BitVec 64) (bike : Int) (ta : Option Addr) (tl tc : Nat) (l : List TokL) (ra : Option Addr) (rl rc : Nat) (m : List TryL) (w : World) (h1 : ¬ (20 : Int) < (tl : Int)) (h2 : ¬ (60 : Int) < (rl : Int)) (hl : l.length = tl) (hs : Sl w 7 ta tl tc (flatV tokA l)) (hm : m.length = rl) (hr : Sl w 4 ra rl rc (flatV tryA m)) : Calls Try.prog 6 #[.agg #[u64 x, u64 y], .int .i64 bike, .slice ta tl tc, .slice ra rl rc] w (RetB (.bool true) w) := by
  have HQ : Hid (OnW w x y [] (.slice none 0 0) (w.alloc (.cells #[u64 x, u64 y] 32))) := ⟨blkNew rfl, World.ownsRow_nil _ _ _ _, below_alloc _ _⟩
  have HS := Lib.hid hs
  have HL := Lib.hid hl
  have HR := Lib.hid hr
  have HM := Lib.hid hm
  clear hs hl hr hm
  go_enter Try.func6, Try.ntmps6
  go_upto_region 6 with (fail)
  clear h1
  go_loopw [9, 10, 11, 12, 13, 14] (fun la uv i _p _q _n wr => ∃ (k : Nat) (lst : Int) (us : List TokL) (ua : Option Addr) (uc : Nat), k ≤ rl ∧ la = .int .i64 lst ∧ uv = .slice ua us.length uc ∧ i = .int .i64 (k : Int) ∧ Hid (OnW w x y us (.slice ua us.length uc) wr) ∧ Hid (∀ u ∈ us, u.n ≤ lst) ∧ us.length ≤ k) (fun _ _ i _ _ _ _ => rl - (intOf i).toNat)
  case atStart => exact ⟨0, 0, [], none, 0, by omega, rfl, rfl, rfl, HQ, Lib.hid (fun u hu => by simp at hu), by simp⟩
  case round =>
    obtain ⟨k, lst, us, ua, uc, hk, rfl, rfl, rfl, HO, HUS2, hul⟩ := hrel
    clear HQ
    have hk0 : (0 : Int) ≤ (k : Int) := by omega
    by_cases hkl : k < rl
    · have hkl' : (k : Int) < (rl : Int) := by omega
      obtain ⟨b, o, e, hc0⟩ := flat_at TryL.zero tryA 4 (by decide) (fun _ => rfl) HR.out HM.out k hkl
      subst e
      generalize m.getD k TryL.zero = ob at *
      obtain ⟨kk, iss, lo, hi⟩ := ob
      have hcc : ∀ j u, (tryA ⟨kk, iss, lo, hi⟩)[j]? = some u → wr.cell? ⟨b, o + k * 4 + j, none⟩ = some u := fun j u hj => cell_keep HO.out.lo (hc0 j u hj)
      have p0 : wr.cell? ⟨b, o + k * 4, none⟩ = some (.int .i64 kk) := hcc 0 _ rfl
      have p1 : wr.cell? ⟨b, o + k * 4 + 1, none⟩ = some (.bool iss) := hcc 1 _ rfl
      have p2 : wr.cell? ⟨b, o + k * 4 + 2, none⟩ = some (.int .i64 lo) := hcc 2 _ rfl
      have p3 : wr.cell? ⟨b, o + k * 4 + 3, none⟩ = some (.int .i64 hi) := hcc 3 _ rfl
      clear hcc hc0
      go_upto_region 9 with (fail)
      have HO1 := on_step HO (below_alloc wr (.cells #[.int .i64 kk, .bool iss, .int .i64 lo, .int .i64 hi] 49))
      have HX1 : Hid (BlkAt (wr.alloc (.cells #[.int .i64 kk, .bool iss, .int .i64 lo, .int .i64 hi] 49)) wr.heap.size #[.int .i64 kk, .bool iss, .int .i64 lo, .int .i64 hi]) := blkNew rfl
      generalize wr.alloc (.cells #[.int .i64 kk, .bool iss, .int .i64 lo, .int .i64 hi] 49) = W1 at *
      generalize wr.heap.size = xb at *
      clear p0 p1 p2 p3 HO
      obtain ⟨x0, x1, x2, x3⟩ := four_on HX1.out
      by_cases hneg : kk < 0
      · go_wp2
        go_roundw
        case rel => exact ⟨k + 1, lst, us, ua, uc, by omega, rfl, rfl, by go_num, HO1, HUS2, by omega⟩
        case measure => simp [intOf]; omega
      · by_cases hge : (tl : Int) ≤ kk
        · go_wp2
          go_roundw
          case rel => exact ⟨k + 1, lst, us, ua, uc, by omega, rfl, rfl, by go_num, HO1, HUS2, by omega⟩
          case measure => simp [intOf]; omega
        · obtain ⟨q, rfl⟩ : ∃ q : Nat, kk = (q : Int) := ⟨kk.toNat, by omega⟩
          have hq : q < tl := by omega
          have hq' : (q : Int) < (tl : Int) := by omega
          have hq0 : (0 : Int) ≤ (q : Int) := by omega
          obtain ⟨tb0, tof, e, hc0⟩ := flat_at TokL.zero tokA 7 (by decide) (fun _ => rfl) HS.out HL.out q hq
          subst e
          generalize l.getD q TokL.zero = tk at *
          obtain ⟨tB, tR, tD, tF, tT, tN, tG⟩ := tk
          have hcc : ∀ j u, (tokA ⟨tB, tR, tD, tF, tT, tN, tG⟩)[j]? = some u → W1.cell? ⟨tb0, tof + q * 7 + j, none⟩ = some u := fun j u hj => cell_keep HO1.out.lo (hc0 j u hj)
          have c0 : W1.cell? ⟨tb0, tof + q * 7, none⟩ = some (.int .i64 tB) := hcc 0 _ rfl
          have c1 : W1.cell? ⟨tb0, tof + q * 7 + 1, none⟩ = some (.int .i64 tR) := hcc 1 _ rfl
          have c2 : W1.cell? ⟨tb0, tof + q * 7 + 2, none⟩ = some (.int .i64 tD) := hcc 2 _ rfl
          have c3 : W1.cell? ⟨tb0, tof + q * 7 + 3, none⟩ = some (.int .i64 tF) := hcc 3 _ rfl
          have c4 : W1.cell? ⟨tb0, tof + q * 7 + 4, none⟩ = some (.int .i64 tT) := hcc 4 _ rfl
          have c5 : W1.cell? ⟨tb0, tof + q * 7 + 5, none⟩ = some (.int .i64 tN) := hcc 5 _ rfl
          have c6 : W1.cell? ⟨tb0, tof + q * 7 + 6, none⟩ = some (Ytgfgkgidpinmoaa.u64 tG) := hcc 6 _ rfl
          clear hcc hc0
          go_upto_region 11 with (fail)
          have HX2 : Hid (OnT w x y us (.slice ua us.length uc) xb W1.heap.size (q : Int) iss lo hi #[.int .i64 tB, .int .i64 tR, .int .i64 tD, .int .i64 tF, .int .i64 tT, .int .i64 tN, Ytgfgkgidpinmoaa.u64 tG] (W1.alloc (.cells #[.int .i64 tB, .int .i64 tR, .int .i64 tD, .int .i64 tF, .int .i64 tT, .int .i64 tN, Ytgfgkgidpinmoaa.u64 tG] 36))) := ⟨(on_step HO1 (below_alloc _ _)).out, blkOld HX1.out, blkNew rfl, own_newQ HO1.out.o, blk_ltQ HO1.out.k, Nat.ne_of_lt (blk_ltQ HX1.out)⟩
          generalize W1.alloc (.cells #[.int .i64 tB, .int .i64 tR, .int .i64 tD, .int .i64 tF, .int .i64 tT, .int .i64 tN, Ytgfgkgidpinmoaa.u64 tG] 36) = W2 at *
          generalize W1.heap.size = tb at *
          clear c0 c1 c2 c3 c4 c5 c6 x0 x1 x2 x3 HO1 HX1 hneg hge
          obtain ⟨x0, x1, x2, x3⟩ := four_on HX2.out.a
          cases iss
          · go_upto_region 13 with (fail)
            clear x0 x1 x2 x3
            obtain ⟨k0, k1⟩ := key_cells2 HX2.out.q.k
            obtain ⟨x0, x1, x2, x3⟩ := four_on HX2.out.a
            obtain ⟨c0, c1, c2, c3, c4, c5, c6⟩ := tok_cells (w := w) (E := 0) HX2.out.t
            obtain ⟨U, hU⟩ : ∃ U, usable x y tB tR tD tF tT tN tG bike lo hi lst = U := ⟨_, rfl⟩
            have hsay := use_says (ka := x) (kb := y) (b := tB) (r := tR) (d := tD) (f := tF) (t := tT) (n := tN) (g := tG) (bike := bike) (lo := lo) (hi := hi) (last := lst)
            rw [hU] at hsay
            have HSAY := Lib.hid hsay
            have hus : ∀ W, Calls Try.prog 33 #[.agg #[Ytgfgkgidpinmoaa.u64 x, Ytgfgkgidpinmoaa.u64 y], .agg #[.int .i64 tB, .int .i64 tR, .int .i64 tD, .int .i64 tF, .int .i64 tT, .int .i64 tN, Ytgfgkgidpinmoaa.u64 tG], .int .i64 bike, .agg #[.int .i64 lo, .int .i64 hi], .int .i64 lst] W (RetB (.int .i64 U) W) := fun W => by rw [← hU]; exact usable_any x y tB tR tD tF tT tN tG bike lo hi lst W
            have HUS := Lib.hid hus
            have HGU : Hid (∀ W, gen x y tB tR tD tF tT tN tG = true → Calls Try.prog 30 #[.agg #[Ytgfgkgidpinmoaa.u64 x, Ytgfgkgidpinmoaa.u64 y], .agg #[.int .i64 tB, .int .i64 tR, .int .i64 tD, .int .i64 tF, .int .i64 tT, .int .i64 tN, Ytgfgkgidpinmoaa.u64 tG]] W (RetB (.bool true) W)) := fun W hg => by rw [← hg]; exact genuine_any x y tB tR tD tF tT tN tG W
            clear hU hsay hus
            go_wp2_with fail
            refine (HUS.out _).mono ?_
            rintro e w4 ⟨rfl, hb4⟩
            have HX4 := onT_step HX2 hb4
            clear hb4 HUS
            by_cases hU0 : U = 0
            · subst hU0
              obtain ⟨hg, hbk, hn, hf, ht, hlh⟩ := HSAY.out rfl
              subst hbk
              have HG : Hid (∀ W, Calls Try.prog 30 #[.agg #[Ytgfgkgidpinmoaa.u64 x, Ytgfgkgidpinmoaa.u64 y], .agg #[.int .i64 tB, .int .i64 tR, .int .i64 tD, .int .i64 tF, .int .i64 tT, .int .i64 tN, Ytgfgkgidpinmoaa.u64 tG]] W (RetB (.bool true) W)) := fun W => HGU.out W hg
              clear k0 k1 x0 x1 x2 x3 c0 c1 c2 c3 c4 c5 c6 hg HGU HSAY
              obtain ⟨k0, k1⟩ := key_cells2 HX4.out.q.k
              obtain ⟨c0, c1, c2, c3, c4, c5, c6⟩ := tok_cells (w := w) (E := 0) HX4.out.t
              go_wp2_with fail
              refine (HG.out _).mono ?_
              rintro e w5 ⟨rfl, hb5⟩
              have HX5 := onT_step HX4 hb5
              clear hb5 k0 k1 c0 c1 c2 c3 c4 c5 c6 HX4 HG
              obtain ⟨x0, x1, x2, x3⟩ := four_on HX5.out.a
              obtain ⟨c0, c1, c2, c3, c4, c5, c6⟩ := tok_cells (w := w) (E := 0) HX5.out.t
              have g1 : ¬ tN ≤ lst := by omega
              have g2 : ¬ lo < tF := by omega
              have g3 : ¬ hi < lo := by omega
              have g4 : ¬ tT ≤ hi := by omega
              have HNL := Lib.hid hn
              clear hn hf ht hlh
              go_upto_region 17 with (fail)
              clear x0 x1 x2 x3 c0 c1 c2 c3 c4 c5 c6 g1 g2 g3 g4
              go_loopw [14] (fun qi wi => ∃ q' : Nat, q' ≤ us.length ∧ qi = .int .i64 (q' : Int) ∧ Hid (OnT w x y us (.slice ua us.length uc) xb tb (q : Int) false lo hi #[.int .i64 tB, .int .i64 tR, .int .i64 tD, .int .i64 tF, .int .i64 tT, .int .i64 tN, Ytgfgkgidpinmoaa.u64 tG] wi)) (fun qi _ => us.length - (intOf qi).toNat)
              case atStart => exact ⟨0, by omega, rfl, HX5⟩
              case round =>
                obtain ⟨q', hq, rfl, HI⟩ := hrel
                clear HX5
                have hq0 : (0 : Int) ≤ (q' : Int) := by omega
                by_cases hqn : q' < us.length
                · have hqn' : (q' : Int) < (us.length : Int) := by omega
                  obtain ⟨ub, uo, e, hc⟩ := usedRow (Lib.hid HI.out.q) q' hqn
                  subst e
                  have hle := HUS2.out (us.getD q' TokL.zero) (by rw [List.getD_eq_getElem?_getD, List.getElem?_eq_getElem hqn]; exact List.getElem_mem _)
                  have hne : ¬ (us.getD q' TokL.zero).n = tN := by have := HNL.out; omega
                  generalize us.getD q' TokL.zero = uq at *
                  obtain ⟨ub', ur, ud, uf, ut, un, ug⟩ := uq
                  dsimp only at hne hle
                  clear hle
                  have z0 : wr.cell? ⟨ub, uo + q' * 7, none⟩ = some (.int .i64 ub') := hc 0 _ rfl
                  have z1 : wr.cell? ⟨ub, uo + q' * 7 + 1, none⟩ = some (.int .i64 ur) := hc 1 _ rfl
                  have z2 : wr.cell? ⟨ub, uo + q' * 7 + 2, none⟩ = some (.int .i64 ud) := hc 2 _ rfl
                  have z3 : wr.cell? ⟨ub, uo + q' * 7 + 3, none⟩ = some (.int .i64 uf) := hc 3 _ rfl
                  have z4 : wr.cell? ⟨ub, uo + q' * 7 + 4, none⟩ = some (.int .i64 ut) := hc 4 _ rfl
                  have z5 : wr.cell? ⟨ub, uo + q' * 7 + 5, none⟩ = some (.int .i64 un) := hc 5 _ rfl
                  have z6 : wr.cell? ⟨ub, uo + q' * 7 + 6, none⟩ = some (Ytgfgkgidpinmoaa.u64 ug) := hc 6 _ rfl
                  clear hc
                  obtain ⟨c0, c1, c2, c3, c4, c5, c6⟩ := tok_cells (w := w) (E := 0) HI.out.t
                  have heq := tok_ne (b1 := ub') (r1 := ur) (d1 := ud) (f1 := uf) (t1 := ut) (b2 := tB) (r2 := tR) (d2 := tD) (f2 := tF) (t2 := tT) ug (tG) hne
                  clear hne
                  go_wp2
                  go_quiet (fail)
                  go_wp2
                  go_roundw
                  case rel => exact ⟨q' + 1, by omega, by go_num, by first | exact HI | exact onT_step HI (below_drewN (Below.refl _ _) _) | exact onT_step HI (below_drew (Below.refl _ _))⟩
                  case measure => simp [intOf]; omega
                · have hqn' : ¬ (q' : Int) < (us.length : Int) := by omega
                  obtain ⟨c0, c1, c2, c3, c4, c5, c6⟩ := tok_cells (w := w) (E := 0) HI.out.t
                  go_wp2_with (at_builtin; refine stop_hereQ ?_)
                  have HA := onT_step HI (below_alloc wr (.cells #[.int .i64 tB, .int .i64 tR, .int .i64 tD, .int .i64 tF, .int .i64 tT, .int .i64 tN, Ytgfgkgidpinmoaa.u64 tG] 36))
                  have HS1 : Hid (Sl (wr.alloc (.cells #[.int .i64 tB, .int .i64 tR, .int .i64 tD, .int .i64 tF, .int .i64 tT, .int .i64 tN, Ytgfgkgidpinmoaa.u64 tG] 36)) 7 (some ⟨wr.heap.size, 0, none⟩) 1 1 (tokA ⟨tB, tR, tD, tF, tT, tN, tG⟩).toList) := Lib.hid (sl_one7 (blkNew rfl))
                  clear c0 c1 c2 c3 c4 c5 c6
                  refine Lib.hid ?_
                  at_builtin
                  refine wpList_append_src _ rfl _ _ 46 46 rfl (w.heap.size + 1) 36 (.agg #[.int .i64 0, .int .i64 0, .int .i64 0, .int .i64 0, .int .i64 0, .int .i64 0, .int .u64 0]) 7 56 Try.underlying46 infoTk rfl (by decide) (n := us.length) (xs := flatV tokA us) HA.out.q.o rfl (src_sl _ Try.underlying46 HS1.out (tokA_oneQ ⟨tB, tR, tD, tF, tT, tN, tG⟩)) rfl (by unfold maxLen; omega) (by omega) (by have := HA.out.q.lo.size; have := blk_ltQ HA.out.q.k; omega) ?_
                  intro v2 w2 ho2 hg2 hb2
                  rw [if_pos (by decide)] at hg2
                  have HT2 := Lib.hid (blk_grownQ HA.out.t hg2 HA.out.nv)
                  have HB2 := Lib.hid (HA.out.q.lo.trans (hb2.mono (Nat.le_succ _)))
                  have HK2 := Lib.hid (blkAboveQ HA.out.q.k (Nat.lt_succ_self _) hb2)
                  obtain ⟨ua2, uc2, hv2, _⟩ := sl_of_own ho2
                  subst hv2
                  have HON : Hid (OnW w x y (us ++ [⟨tB, tR, tD, tF, tT, tN, tG⟩]) (.slice ua2 (us.length + 1) uc2) w2) := ⟨HK2.out, by rw [flatV_append, show (us ++ [(⟨tB, tR, tD, tF, tT, tN, tG⟩ : TokL)]).length = us.length + 1 from by simp]; exact (by have := ho2; rw [show (tokA ⟨tB, tR, tD, tF, tT, tN, tG⟩).toList = flatV tokA [⟨tB, tR, tD, tF, tT, tN, tG⟩] from by simp [flatV]] at this; exact this), HB2.out⟩
                  clear ho2 hg2 hb2 HA HS1 HI
                  obtain ⟨c0, c1, c2, c3, c4, c5, c6⟩ := tok_cells (w := w) (E := 0) HT2.out
                  go_wp2
                  go_roundw
                  case rel => exact ⟨k + 1, tN, us ++ [⟨tB, tR, tD, tF, tT, tN, tG⟩], ua2, uc2, by omega, rfl, by simp, by go_num, Lib.hid (by rw [show (us ++ [(⟨tB, tR, tD, tF, tT, tN, tG⟩ : TokL)]).length = us.length + 1 from by simp]; exact HON.out), Lib.hid (used_snoc (T := ⟨tB, tR, tD, tF, tT, tN, tG⟩) HUS2.out HNL.out), by simp; omega⟩
                  case measure => simp [intOf]; omega
            · clear HGU HSAY
              go_wp2
              go_roundw
              case rel => exact ⟨k + 1, lst, us, ua, uc, by omega, rfl, rfl, by go_num, Lib.hid HX4.out.q, HUS2, by omega⟩
              case measure => simp [intOf]; omega
          · obtain ⟨k0, k1⟩ := key_cells2 HX2.out.q.k
            obtain ⟨c0, c1, c2, c3, c4, c5, c6⟩ := tok_cells (w := w) (E := 0) HX2.out.t
            by_cases hbad : Tok.bad ⟨tB, tR, tD, tF, tT, tN⟩
            · have hiss := fun W => issue_bad x y tB tR tD tF tT tN tG W (chk_bad hbad)
              have HIS := Lib.hid hiss
              clear hiss hbad
              go_wp2_with fail
              refine (HIS.out _).mono ?_
              rintro e w3 ⟨rfl, hb3⟩
              have HX3 := onT_step HX2 hb3
              have fz0 := blk_frozenQ (i := 0) HX3.out.t
              have fz1 := blk_frozenQ (i := 1) HX3.out.t
              have fz2 := blk_frozenQ (i := 2) HX3.out.t
              have fz3 := blk_frozenQ (i := 3) HX3.out.t
              have fz4 := blk_frozenQ (i := 4) HX3.out.t
              have fz5 := blk_frozenQ (i := 5) HX3.out.t
              have fz6 := blk_frozenQ (i := 6) HX3.out.t
              have HX4 := onT_set7 HX3 (.int .i64 0) (.int .i64 0) (.int .i64 0) (.int .i64 0) (.int .i64 0) (.int .i64 0) (.int .u64 0)
              clear hb3 HX2 HIS k0 k1 c0 c1 c2 c3 c4 c5 c6 x0 x1 x2 x3
              obtain ⟨c0, c1, c2, c3, c4, c5, c6⟩ := tok_cells (w := w) (E := 0) HX3.out.t
              go_upto_region 13 with (fail)
              generalize (((((((w3.setCell ⟨tb, 0, none⟩ (.int .i64 0)).setCell ⟨tb, 1, none⟩ (.int .i64 0)).setCell ⟨tb, 2, none⟩ (.int .i64 0)).setCell ⟨tb, 3, none⟩ (.int .i64 0)).setCell ⟨tb, 4, none⟩ (.int .i64 0)).setCell ⟨tb, 5, none⟩ (.int .i64 0)).setCell ⟨tb, 6, none⟩ (.int .u64 0)) = W4 at *
              clear c0 c1 c2 c3 c4 c5 c6 fz0 fz1 fz2 fz3 fz4 fz5 fz6 HX3
              obtain ⟨k0, k1⟩ := key_cells2 HX4.out.q.k
              obtain ⟨x0, x1, x2, x3⟩ := four_on HX4.out.a
              obtain ⟨c0, c1, c2, c3, c4, c5, c6⟩ := tok_cells (w := w) (E := 0) HX4.out.t
              obtain ⟨U, hU⟩ : ∃ U, usable x y 0 0 0 0 0 0 0 bike lo hi lst = U := ⟨_, rfl⟩
              have hU0 : ¬ U = 0 := fun e => by
                have := use_says (hU.trans e)
                rw [gen_bad (by unfold Tok.bad; right; right; left; decide)] at this
                exact absurd this.1 (by decide)
              have hus : ∀ W, Calls Try.prog 33 #[.agg #[Ytgfgkgidpinmoaa.u64 x, Ytgfgkgidpinmoaa.u64 y], .agg #[.int .i64 0, .int .i64 0, .int .i64 0, .int .i64 0, .int .i64 0, .int .i64 0, .int .u64 0], .int .i64 bike, .agg #[.int .i64 lo, .int .i64 hi], .int .i64 lst] W (RetB (.int .i64 U) W) := fun W => by rw [← hU]; exact usable_any x y 0 0 0 0 0 0 0 bike lo hi lst W
              have HUS := Lib.hid hus
              clear hU hus
              go_wp2_with fail
              refine (HUS.out _).mono ?_
              rintro e w4 ⟨rfl, hb4⟩
              have HX5 := onT_step HX4 hb4
              clear hb4 HUS
              go_wp2
              go_roundw
              case rel => exact ⟨k + 1, lst, us, ua, uc, by omega, rfl, rfl, by go_num, Lib.hid HX5.out.q, HUS2, by omega⟩
              case measure => simp [intOf]; omega
            · have hiss := fun W => issue_ok x y tB tR tD tF tT tN tG W hbad
              have HIS := Lib.hid hiss
              clear hiss hbad
              generalize tagOf x y tB tR tD tF tT tN = G at *
              go_wp2_with fail
              refine (HIS.out _).mono ?_
              rintro e w3 ⟨rfl, hb3⟩
              have HX3 := onT_step HX2 hb3
              have fz0 := blk_frozenQ (i := 0) HX3.out.t
              have fz1 := blk_frozenQ (i := 1) HX3.out.t
              have fz2 := blk_frozenQ (i := 2) HX3.out.t
              have fz3 := blk_frozenQ (i := 3) HX3.out.t
              have fz4 := blk_frozenQ (i := 4) HX3.out.t
              have fz5 := blk_frozenQ (i := 5) HX3.out.t
              have fz6 := blk_frozenQ (i := 6) HX3.out.t
              have HX4c := onT_set7 HX3 (.int .i64 tB) (.int .i64 tR) (.int .i64 tD) (.int .i64 tF) (.int .i64 tT) (.int .i64 tN) (Ytgfgkgidpinmoaa.u64 G)
              clear hb3 HX2 HIS k0 k1 c0 c1 c2 c3 c4 c5 c6 x0 x1 x2 x3
              obtain ⟨c0, c1, c2, c3, c4, c5, c6⟩ := tok_cells (w := w) (E := 0) HX3.out.t
              go_upto_region 13 with (fail)
              generalize (((((((w3.setCell ⟨tb, 0, none⟩ (.int .i64 tB)).setCell ⟨tb, 1, none⟩ (.int .i64 tR)).setCell ⟨tb, 2, none⟩ (.int .i64 tD)).setCell ⟨tb, 3, none⟩ (.int .i64 tF)).setCell ⟨tb, 4, none⟩ (.int .i64 tT)).setCell ⟨tb, 5, none⟩ (.int .i64 tN)).setCell ⟨tb, 6, none⟩ (Ytgfgkgidpinmoaa.u64 G)) = W4 at *
              clear c0 c1 c2 c3 c4 c5 c6 fz0 fz1 fz2 fz3 fz4 fz5 fz6 HX3
              obtain ⟨k0, k1⟩ := key_cells2 HX4c.out.q.k
              obtain ⟨x0, x1, x2, x3⟩ := four_on HX4c.out.a
              obtain ⟨c0, c1, c2, c3, c4, c5, c6⟩ := tok_cells (w := w) (E := 0) HX4c.out.t
              obtain ⟨U, hU⟩ : ∃ U, usable x y tB tR tD tF tT tN G bike lo hi lst = U := ⟨_, rfl⟩
              have hsay := use_says (ka := x) (kb := y) (b := tB) (r := tR) (d := tD) (f := tF) (t := tT) (n := tN) (g := G) (bike := bike) (lo := lo) (hi := hi) (last := lst)
              rw [hU] at hsay
              have HSAY := Lib.hid hsay
              have hus : ∀ W, Calls Try.prog 33 #[.agg #[Ytgfgkgidpinmoaa.u64 x, Ytgfgkgidpinmoaa.u64 y], .agg #[.int .i64 tB, .int .i64 tR, .int .i64 tD, .int .i64 tF, .int .i64 tT, .int .i64 tN, Ytgfgkgidpinmoaa.u64 G], .int .i64 bike, .agg #[.int .i64 lo, .int .i64 hi], .int .i64 lst] W (RetB (.int .i64 U) W) := fun W => by rw [← hU]; exact usable_any x y tB tR tD tF tT tN G bike lo hi lst W
              have HUS := Lib.hid hus
              have HGU : Hid (∀ W, gen x y tB tR tD tF tT tN G = true → Calls Try.prog 30 #[.agg #[Ytgfgkgidpinmoaa.u64 x, Ytgfgkgidpinmoaa.u64 y], .agg #[.int .i64 tB, .int .i64 tR, .int .i64 tD, .int .i64 tF, .int .i64 tT, .int .i64 tN, Ytgfgkgidpinmoaa.u64 G]] W (RetB (.bool true) W)) := fun W hg => by rw [← hg]; exact genuine_any x y tB tR tD tF tT tN G W
              clear hU hsay hus
              go_wp2_with fail
              refine (HUS.out _).mono ?_
              rintro e w4 ⟨rfl, hb4⟩
              have HX4 := onT_step HX4c hb4
              clear hb4 HUS
              by_cases hU0 : U = 0
              · subst hU0
                obtain ⟨hg, hbk, hn, hf, ht, hlh⟩ := HSAY.out rfl
                subst hbk
                have HG : Hid (∀ W, Calls Try.prog 30 #[.agg #[Ytgfgkgidpinmoaa.u64 x, Ytgfgkgidpinmoaa.u64 y], .agg #[.int .i64 tB, .int .i64 tR, .int .i64 tD, .int .i64 tF, .int .i64 tT, .int .i64 tN, Ytgfgkgidpinmoaa.u64 G]] W (RetB (.bool true) W)) := fun W => HGU.out W hg
                clear k0 k1 x0 x1 x2 x3 c0 c1 c2 c3 c4 c5 c6 hg HGU HSAY
                obtain ⟨k0, k1⟩ := key_cells2 HX4.out.q.k
                obtain ⟨c0, c1, c2, c3, c4, c5, c6⟩ := tok_cells (w := w) (E := 0) HX4.out.t
                go_wp2_with fail
                refine (HG.out _).mono ?_
                rintro e w5 ⟨rfl, hb5⟩
                have HX5 := onT_step HX4 hb5
                clear hb5 k0 k1 c0 c1 c2 c3 c4 c5 c6 HX4 HG
                obtain ⟨x0, x1, x2, x3⟩ := four_on HX5.out.a
                obtain ⟨c0, c1, c2, c3, c4, c5, c6⟩ := tok_cells (w := w) (E := 0) HX5.out.t
                have g1 : ¬ tN ≤ lst := by omega
                have g2 : ¬ lo < tF := by omega
                have g3 : ¬ hi < lo := by omega
                have g4 : ¬ tT ≤ hi := by omega
                have HNL := Lib.hid hn
                clear hn hf ht hlh
                go_upto_region 17 with (fail)
                clear x0 x1 x2 x3 c0 c1 c2 c3 c4 c5 c6 g1 g2 g3 g4
                go_loopw [14] (fun qi wi => ∃ q' : Nat, q' ≤ us.length ∧ qi = .int .i64 (q' : Int) ∧ Hid (OnT w x y us (.slice ua us.length uc) xb tb (q : Int) true lo hi #[.int .i64 tB, .int .i64 tR, .int .i64 tD, .int .i64 tF, .int .i64 tT, .int .i64 tN, Ytgfgkgidpinmoaa.u64 G] wi)) (fun qi _ => us.length - (intOf qi).toNat)
                case atStart => exact ⟨0, by omega, rfl, HX5⟩
                case round =>
                  obtain ⟨q', hq, rfl, HI⟩ := hrel
                  clear HX5
                  have hq0 : (0 : Int) ≤ (q' : Int) := by omega
                  by_cases hqn : q' < us.length
                  · have hqn' : (q' : Int) < (us.length : Int) := by omega
                    obtain ⟨ub, uo, e, hc⟩ := usedRow (Lib.hid HI.out.q) q' hqn
                    subst e
                    have hle := HUS2.out (us.getD q' TokL.zero) (by rw [List.getD_eq_getElem?_getD, List.getElem?_eq_getElem hqn]; exact List.getElem_mem _)
                    have hne : ¬ (us.getD q' TokL.zero).n = tN := by have := HNL.out; omega
                    generalize us.getD q' TokL.zero = uq at *
                    obtain ⟨ub', ur, ud, uf, ut, un, ug⟩ := uq
                    dsimp only at hne hle
                    clear hle
                    have z0 : wr.cell? ⟨ub, uo + q' * 7, none⟩ = some (.int .i64 ub') := hc 0 _ rfl
                    have z1 : wr.cell? ⟨ub, uo + q' * 7 + 1, none⟩ = some (.int .i64 ur) := hc 1 _ rfl
                    have z2 : wr.cell? ⟨ub, uo + q' * 7 + 2, none⟩ = some (.int .i64 ud) := hc 2 _ rfl
                    have z3 : wr.cell? ⟨ub, uo + q' * 7 + 3, none⟩ = some (.int .i64 uf) := hc 3 _ rfl
                    have z4 : wr.cell? ⟨ub, uo + q' * 7 + 4, none⟩ = some (.int .i64 ut) := hc 4 _ rfl
                    have z5 : wr.cell? ⟨ub, uo + q' * 7 + 5, none⟩ = some (.int .i64 un) := hc 5 _ rfl
                    have z6 : wr.cell? ⟨ub, uo + q' * 7 + 6, none⟩ = some (Ytgfgkgidpinmoaa.u64 ug) := hc 6 _ rfl
                    clear hc
                    obtain ⟨c0, c1, c2, c3, c4, c5, c6⟩ := tok_cells (w := w) (E := 0) HI.out.t
                    have heq := tok_ne (b1 := ub') (r1 := ur) (d1 := ud) (f1 := uf) (t1 := ut) (b2 := tB) (r2 := tR) (d2 := tD) (f2 := tF) (t2 := tT) ug (G) hne
                    clear hne
                    go_wp2
                    go_quiet (fail)
                    go_wp2
                    go_roundw
                    case rel => exact ⟨q' + 1, by omega, by go_num, by first | exact HI | exact onT_step HI (below_drewN (Below.refl _ _) _) | exact onT_step HI (below_drew (Below.refl _ _))⟩
                    case measure => simp [intOf]; omega
                  · have hqn' : ¬ (q' : Int) < (us.length : Int) := by omega
                    obtain ⟨c0, c1, c2, c3, c4, c5, c6⟩ := tok_cells (w := w) (E := 0) HI.out.t
                    go_wp2_with (at_builtin; refine stop_hereQ ?_)
                    have HA := onT_step HI (below_alloc wr (.cells #[.int .i64 tB, .int .i64 tR, .int .i64 tD, .int .i64 tF, .int .i64 tT, .int .i64 tN, Ytgfgkgidpinmoaa.u64 G] 36))
                    have HS1 : Hid (Sl (wr.alloc (.cells #[.int .i64 tB, .int .i64 tR, .int .i64 tD, .int .i64 tF, .int .i64 tT, .int .i64 tN, Ytgfgkgidpinmoaa.u64 G] 36)) 7 (some ⟨wr.heap.size, 0, none⟩) 1 1 (tokA ⟨tB, tR, tD, tF, tT, tN, G⟩).toList) := Lib.hid (sl_one7 (blkNew rfl))
                    clear c0 c1 c2 c3 c4 c5 c6
                    refine Lib.hid ?_
                    at_builtin
                    refine wpList_append_src _ rfl _ _ 46 46 rfl (w.heap.size + 1) 36 (.agg #[.int .i64 0, .int .i64 0, .int .i64 0, .int .i64 0, .int .i64 0, .int .i64 0, .int .u64 0]) 7 56 Try.underlying46 infoTk rfl (by decide) (n := us.length) (xs := flatV tokA us) HA.out.q.o rfl (src_sl _ Try.underlying46 HS1.out (tokA_oneQ ⟨tB, tR, tD, tF, tT, tN, G⟩)) rfl (by unfold maxLen; omega) (by omega) (by have := HA.out.q.lo.size; have := blk_ltQ HA.out.q.k; omega) ?_
                    intro v2 w2 ho2 hg2 hb2
                    rw [if_pos (by decide)] at hg2
                    have HT2 := Lib.hid (blk_grownQ HA.out.t hg2 HA.out.nv)
                    have HB2 := Lib.hid (HA.out.q.lo.trans (hb2.mono (Nat.le_succ _)))
                    have HK2 := Lib.hid (blkAboveQ HA.out.q.k (Nat.lt_succ_self _) hb2)
                    obtain ⟨ua2, uc2, hv2, _⟩ := sl_of_own ho2
                    subst hv2
                    have HON : Hid (OnW w x y (us ++ [⟨tB, tR, tD, tF, tT, tN, G⟩]) (.slice ua2 (us.length + 1) uc2) w2) := ⟨HK2.out, by rw [flatV_append, show (us ++ [(⟨tB, tR, tD, tF, tT, tN, G⟩ : TokL)]).length = us.length + 1 from by simp]; exact (by have := ho2; rw [show (tokA ⟨tB, tR, tD, tF, tT, tN, G⟩).toList = flatV tokA [⟨tB, tR, tD, tF, tT, tN, G⟩] from by simp [flatV]] at this; exact this), HB2.out⟩
                    clear ho2 hg2 hb2 HA HS1 HI
                    obtain ⟨c0, c1, c2, c3, c4, c5, c6⟩ := tok_cells (w := w) (E := 0) HT2.out
                    go_wp2
                    go_roundw
                    case rel => exact ⟨k + 1, tN, us ++ [⟨tB, tR, tD, tF, tT, tN, G⟩], ua2, uc2, by omega, rfl, by simp, by go_num, Lib.hid (by rw [show (us ++ [(⟨tB, tR, tD, tF, tT, tN, G⟩ : TokL)]).length = us.length + 1 from by simp]; exact HON.out), Lib.hid (used_snoc (T := ⟨tB, tR, tD, tF, tT, tN, G⟩) HUS2.out HNL.out), by simp; omega⟩
                    case measure => simp [intOf]; omega
              · clear HGU HSAY
                go_wp2
                go_roundw
                case rel => exact ⟨k + 1, lst, us, ua, uc, by omega, rfl, rfl, by go_num, Lib.hid HX4.out.q, HUS2, by omega⟩
                case measure => simp [intOf]; omega
    · have hkl' : ¬ (k : Int) < (rl : Int) := by omega
      have HLO := Lib.hid HO.out.lo
      clear HO HUS2
      go_wp2_with fail
      refine (awake15_any _).mono ?_
      rintro e wz ⟨rfl, hbz⟩
      have HBZ := Lib.hid (below_step HLO.out hbz)
      clear hbz
      go_wp2
      go_ret
      exact ⟨rfl, HBZ.out⟩
theorem tokenOnce_walk (x y : BitVec 64) (bike : Int) (l : List TokL) (ta : Option Addr) (tl tc : Nat) (m : List TryL) (ra : Option Addr) (rl rc : Nat) (w : World) (hs : Sl w 7 ta tl tc (flatV tokA l)) (hl : l.length = tl) (hr : Sl w 4 ra rl rc (flatV tryA m)) (hm : m.length = rl) : Calls Try.prog 6 #[.agg #[u64 x, u64 y], .int .i64 bike, .slice ta tl tc, .slice ra rl rc] w (RetB (.bool true) w) := by
  by_cases h : (20 : Int) < (tl : Int) ∨ (60 : Int) < (rl : Int)
  · exact tokenOnce_long x y bike ta tl tc ra rl rc w h
  · exact tokenOnce_ok x y bike ta tl tc l ra rl rc m w (fun e => h (.inl e)) (fun e => h (.inr e)) hl hs hm hr
end Go.Proofs.Ytgfgkgidpinmoaa
