/-
  LEVELS AND SCENARIOS, THE WALKS: Moves of one station, and the example.
-/
import Derived.Test.YtjfakdbgcinpcaaTdT
import Derived.Test.YtjfakdbgcinpcaaHeld
import Derived.Test.YtjfakdbgcinpcaaBase14
import Derived.BigQuiet
import Derived.BigRegion
import Derived.Deep.RegionHeld3
import Derived.Laws.StructEq
import Derived.StillTailTactics
import Derived.RegionTactic
import Derived.Deep.DeepCutAuto
import Derived.Deep.QuietTactic
import Derived.WalkSpells
import Derived.WalkLawsBesides
namespace Go.Proofs.Ytjfakdbgcinpcaa
open Go.RowKit
set_option linter.unusedVariables false

theorem one_cell9 {W : World} {k : Nat} {x : Value} (h : BlkAt W k #[x]) : W.cell? ⟨k, 0, none⟩ = some x := by
  obtain ⟨E, h⟩ := h
  rw [cell_of_row _ _ _ _ _ _ h]
  rfl
def RetOne (v : Int) (W : World) (e : Ending) (W' : World) : Prop := ∃ g, e = .returned (.tuple #[.slice (some ⟨g, 0, none⟩) 1 1, .int .i64 0]) ∧ Hid (W'.cell? ⟨g, 0, none⟩ = some (.int .i64 v)) ∧ Below W.heap.size W W'
/-- What Moves reads. -/
structure MovW (w : World) (p q r : Nat) (D b : Int) (cv : Value) (W : World) : Prop where
  d : W.cell? ⟨p, 0, none⟩ = some (.int .i64 D)
  n : W.cell? ⟨q, 0, none⟩ = some (.int .i64 b)
  c : W.cell? ⟨r, 0, none⟩ = some cv
  lo : Below w.heap.size w W
  hp : p < w.heap.size ∧ q < w.heap.size ∧ r < w.heap.size
theorem movBelow {w W W' : World} {p q r : Nat} {D b : Int} {cv : Value} (h : Hid (MovW w p q r D b cv W)) (hb : Below W.heap.size W W') : Hid (MovW w p q r D b cv W') := ⟨cell_keep hb h.out.d, cell_keep hb h.out.n, cell_keep hb h.out.c, below_step h.out.lo hb, h.out.hp⟩
theorem movSet {w W : World} {p q r i : Nat} {D b : Int} {cv v : Value} (h : Hid (MovW w p q r D b cv W)) : Hid (MovW w p q r D b cv (W.setCell ⟨w.heap.size, i, none⟩ v)) := by
  obtain ⟨h1, h2, h3⟩ := h.out.hp
  exact Lib.hid ⟨cell_far (by show p ≠ w.heap.size; omega) h.out.d, cell_far (by show q ≠ w.heap.size; omega) h.out.n, cell_far (by show r ≠ w.heap.size; omega) h.out.c, h.out.lo.setCell (Nat.le_refl _) _, h.out.hp⟩
theorem blkLt {W : World} {k : Nat} {C : Array Value} (h : BlkAt W k C) : k < W.heap.size := h.elim fun E h => (Array.getElem?_eq_some_iff.1 h).1
set_option maxRecDepth 100000 in
set_option maxHeartbeats 4000000 in
theorem moves_one (D : Nat) (a : Option Addr) (n c : Nat) (xss : List Cv) (p q r : Nat) (w : World) (bk : Nat) (hbk : bestN (costsL D (xss.map Cv.zs)) (D + 1) = bk) (hbD : bk ≤ D) (hp : BlkAt w p #[.int .i64 (D : Int)]) (hq : BlkAt w q #[.int .i64 (bk : Int)]) (hr : BlkAt w r #[.slice a n c]) (hs : Sl w 1 a n c (cs csv xss)) (hx : ∀ x ∈ xss, CvOk w x) (d0 : 1 ≤ D) (d1 : D ≤ 32) (hn : n ≤ 32) :
    Calls Try.prog 11 #[.slice (some ⟨p, 0, none⟩) 1 1, .slice (some ⟨q, 0, none⟩) 1 1, .slice (some ⟨r, 0, none⟩) 1 1] w (RetOne 0 w) := by
  have HBS : Hid (∀ W', Below w.heap.size w W' → Calls Try.prog 9 #[.int .i64 (D : Int), .slice a n c] W' (RetB (.tuple #[.int .i64 (bk : Int), .int .i64 0]) W')) := Lib.hid (fun W' hb => by
    have := best_ok D a n c xss W' (hs.ext hb) (fun x h => (hx x h).below hb) d0 d1 hn
    rw [hbk] at this
    exact this)
  have HM : Hid (MovW w p q r (D : Int) (bk : Int) (.slice a n c) w) := Lib.hid ⟨one_cell9 hp, one_cell9 hq, one_cell9 hr, Below.refl _ _, blkLt hp, blkLt hq, blkLt hr⟩
  have hb0 : (0 : Int) ≤ (bk : Int) := by omega
  have hbD' : (bk : Int) ≤ (D : Int) := by omega
  clear hs hx hp hq hr hbk
  go_enter Try.func11, Try.ntmps11
  go_wp2_with (refine wpList_make_typed i64v 0 _ rfl _ _ 34 rfl 3 (.int .i64 0) 8 Try.underlying34 infoI rfl .i64 .i64 1 1 1 rfl rfl (by omega) (by omega) (by omega) (by unfold maxLen; omega) ?_)
  intro w1 ho1 hb1
  have HO1 := Lib.hid ho1
  have HM1 := movBelow HM hb1
  clear ho1 hb1 HM
  go_wp2_with fail
  go_loopw [33] (fun i wr => ∃ (k : Nat) (v : Int), k ≤ 1 ∧ i = .int .i64 (k : Int) ∧ Hid (k = 1 → v = 0) ∧ Hid (wr.ownsRow w.heap.size 3 1 (.slice (some ⟨w.heap.size, 0, none⟩) 1 1) 1 (cs i64v [v])) ∧ Hid (MovW w p q r (D : Int) (bk : Int) (.slice a n c) wr)) (fun i _ => 1 - (intOf i).toNat)
  case atStart => exact ⟨0, 0, by omega, rfl, Lib.hid (fun h => rfl), HO1, HM1⟩
  case round =>
    obtain ⟨k, v, hk, rfl, HV, HO, HM⟩ := hrel
    clear HO1 HM1
    by_cases hk0 : k = 0
    · subst hk0
      go_upto_region 9 with (fail)
      have hS0 : wr.cell? ⟨p, 0, none⟩ = some (.int .i64 (D : Int)) ∧ wr.cell? ⟨r, 0, none⟩ = some (.slice a n c) ∧ Below w.heap.size w wr := ⟨HM.out.d, HM.out.c, HM.out.lo⟩
      go_region_held3 (fun w9 => w9.cell? ⟨p, 0, none⟩ = some (.int .i64 (D : Int)) ∧ w9.cell? ⟨r, 0, none⟩ = some (.slice a n c) ∧ Below w.heap.size w w9)
        (repeat (with_reducible first | assumption | refine keep3D ?_ | refine keep3A _ ?_ | (apply keep3; focus assumption)))
        ((go_at_call 9; (with_reducible refine (HBS.out _ ?_).mono ?_); (focus (first | exact below_drew hS0.2.2 | exact hS0.2.2)); rintro e w5 ⟨rfl, hb5⟩))
      all_goals
        have hb6 := below_step (below_drew (Below.refl wr.heap.size wr)) hb5
        have HM5 := movBelow HM hb6
        have HO5 := Lib.hid (ownsRow_ext HO.out hb6)
        obtain ⟨cc, cf, _, _⟩ := own_cell HO5.out 0 (by decide) 0
        change w5.cell? ⟨w.heap.size, 0, none⟩ = some (.int .i64 v) at cc
        have q0 := HM5.out.n
        have HO6 : Hid ((w5.setCell ⟨w.heap.size, 0, none⟩ (.int .i64 0)).ownsRow w.heap.size 3 1 (.slice (some ⟨w.heap.size, 0, none⟩) 1 1) 1 (cs i64v [0])) := Lib.hid (own_set HO5.out 0 0)
        have HM6 : Hid (MovW w p q r (D : Int) (bk : Int) (.slice a n c) (w5.setCell ⟨w.heap.size, 0, none⟩ (.int .i64 0))) := movSet HM5
        have hsub : (bk : Int) - (bk : Int) = 0 := by omega
        clear hb5 hb6 HM HO HV hS0 HM5 HO5
        go_wp2_with fail
        go_roundw
        case rel => exact ⟨1, 0, by omega, by go_num, Lib.hid (fun _ => rfl), HO6, HM6⟩
        case measure => simp [intOf]
    · obtain rfl : k = 1 := by omega
      obtain rfl : v = 0 := HV.out rfl
      have p0 := HM.out.d
      have q0 := HM.out.n
      go_wp2_with fail
      go_loopw [63] (fun i wx => ∃ k : Nat, k ≤ 1 ∧ i = .int .i64 (k : Int) ∧ Hid (wx.ownsRow w.heap.size 3 1 (.slice (some ⟨w.heap.size, 0, none⟩) 1 1) 1 (cs i64v [0])) ∧ Hid (MovW w p q r (D : Int) (bk : Int) (.slice a n c) wx)) (fun i _ => 1 - (intOf i).toNat)
      case atStart => exact ⟨0, by omega, rfl, HO, HM⟩
      case round =>
        clear HO HM p0 q0
        obtain ⟨k, hk, rfl, HO, HM⟩ := hrel
        by_cases hk0 : k = 0
        · subst hk0
          have p0 := HM.out.d
          have q0 := HM.out.n
          have hd1 : decide ((bk : Int) < 0) = false := decide_eq_false (by omega)
          have hd2 : decide ((D : Int) < (bk : Int)) = false := decide_eq_false (by omega)
          go_wp2_with fail
          go_quiet (fail)
          go_wp2_with fail
          go_roundw
          case rel => exact ⟨1, by omega, by go_num, by exact Lib.hid (ownsRow_ext HO.out (below_drewN (Below.refl _ _) _)), by exact movBelow HM (below_drewN (Below.refl _ _) _)⟩
          case measure => simp [intOf]
        · obtain rfl : k = 1 := by omega
          obtain ⟨cc, _, _, _⟩ := own_cell HO.out 0 (by decide) 0
          have HC : Hid (wr.cell? ⟨w.heap.size, 0, none⟩ = some (.int .i64 0)) := Lib.hid cc
          have HLO := Lib.hid HM.out.lo
          clear cc HO HM
          go_wp2
          go_ret2
          exact ⟨w.heap.size, rfl, HC, HLO.out⟩
theorem sl_case {W : World} {b : Nat} (h : BlkAt W b #[.int .i64 (-1), .int .i64 (-1)]) : CvOk W ⟨some ⟨b, 0, none⟩, 2, [-1, -1]⟩ := by
  obtain ⟨E, h⟩ := h
  refine ⟨⟨rfl, Nat.le_refl _, by unfold maxLen; show 2 ≤ _; omega, (fun h => by cases h), fun j u hj => ⟨b, 0, rfl, ?_⟩⟩, fun s hs => ?_, (by show 2 ≤ 64; omega)⟩
  · rw [Nat.zero_add, cell_of_row _ _ _ _ _ _ h]
    change [Value.int IntKind.i64 (-1), Value.int IntKind.i64 (-1)][j]? = some u at hj
    simpa using hj
  · simp at hs
    exact .inr hs
theorem sl_cases1 {W : World} {b : Nat} {x : Cv} (h : BlkAt W b #[csv x]) : Sl W 1 (some ⟨b, 0, none⟩) 1 1 (cs csv [x]) := by
  obtain ⟨E, h⟩ := h
  refine ⟨rfl, Nat.le_refl _, by unfold maxLen; omega, (fun h => by cases h), fun j u hj => ⟨b, 0, rfl, ?_⟩⟩
  rw [Nat.zero_add, cell_of_row _ _ _ _ _ _ h]
  change [csv x][j]? = some u at hj
  simpa using hj
theorem aw_best : bestN (costsL 5 [[-1, -1]]) 6 = 2 := by decide
theorem aw_lost : lostN 5 1 [-1, -1] = 1 := by decide
theorem aw_bestC (W : World) (b c : Nat) (h1 : BlkAt W b #[.int .i64 (-1), .int .i64 (-1)]) (h2 : BlkAt W c #[.slice (some ⟨b, 0, none⟩) 2 2]) : Calls Try.prog 9 #[.int .i64 5, .slice (some ⟨c, 0, none⟩) 1 1] W (RetB (.tuple #[.int .i64 2, .int .i64 0]) W) := by
  have := best_ok 5 (some ⟨c, 0, none⟩) 1 1 [⟨some ⟨b, 0, none⟩, 2, [-1, -1]⟩] W (sl_cases1 h2) (fun x hx => by simp at hx; subst hx; exact sl_case h1) (by decide) (by decide) (by decide)
  have e : List.map Cv.zs [(⟨some ⟨b, 0, none⟩, 2, [-1, -1]⟩ : Cv)] = [[-1, -1]] := rfl
  rw [e, aw_best] at this
  exact this
theorem aw_lostC (W : World) (b : Nat) (h : BlkAt W b #[.int .i64 (-1), .int .i64 (-1)]) : Calls Try.prog 10 #[.int .i64 5, .int .i64 1, .slice (some ⟨b, 0, none⟩) 2 2] W (fun e W' => e = .returned (.tuple #[.int .i64 1, .int .i64 0]) ∧ W' = W) := by
  have := lost_ok 5 1 ⟨some ⟨b, 0, none⟩, 2, [-1, -1]⟩ W (sl_case h) (by decide) (by decide) (by decide) (by decide)
  dsimp only at this
  rw [aw_lost] at this
  exact this
set_option maxRecDepth 100000 in
set_option maxHeartbeats 2000000 in
theorem demandAwake_any (w : World) : Calls Try.prog 4 #[] w (RetB (.bool true) w) := by
  go_enter Try.func4, Try.ntmps4
  go_wp2_with fail
  refine (aw_bestC _ w.heap.size (w.heap.size + 1) (blkOld (blkNew rfl)) (blkNew (by simp))).mono ?_
  rintro e w2 ⟨rfl, hb2⟩
  have HB2 := Lib.hid (below_step (below_step (below_alloc w _) (below_alloc _ _)) hb2)
  clear hb2
  go_wp2_with fail
  refine (aw_lostC _ _ (blkNew rfl)).mono ?_
  rintro e w3 ⟨rfl, hw3⟩
  subst w3
  have HB3 := Lib.hid (below_step HB2.out (below_alloc w2 (.cells #[.int .i64 (-1), .int .i64 (-1)] 3)))
  go_wp2
  go_ret
  exact ⟨rfl, HB3.out⟩
end Go.Proofs.Ytjfakdbgcinpcaa
