/-
  DRAW, THE WALKS: Same, SameWords, awake.
-/
import Derived.Test.YtfhmhkpplcbiiaaProg
import Derived.Test.YtfhmhkpplcbiiaaBase3
import Derived.Test.YtfhmhkpplcbiiaaBase5
import Derived.Test.YtfhmhkpplcbiiaaBase6
import Derived.Test.YtfhmhkpplcbiiaaBase7
import Derived.Test.YtfhmhkpplcbiiaaDrawP
import Derived.Test.YtfhmhkpplcbiiaaDraw2
import Derived.Test.YtfhmhkpplcbiiaaDraw6
import Derived.Test.YtfhmhkpplcbiiaaDraw7
import Derived.Test.YtfhmhkpplcbiiaaHeld
import Derived.Test.YtfhmhkpplcbiiaaDrawL0
import Derived.Lib.SmallJoins
import Derived.BigQuiet
import Derived.Laws.StructEq
import Derived.StillTailTactics
import Derived.RegionTactic
import Derived.Deep.DeepCutAuto
import Derived.Deep.QuietTactic
import Derived.WalkSpells
import Derived.WalkLawsBesides
namespace Go.Proofs.Ytfhmhkpplcbiiaa
open Go.RowKit
set_option linter.unusedVariables false

set_option maxRecDepth 100000 in
set_option maxHeartbeats 1000000 in
theorem same11_any (xs ys : List Int) (ao bo : Option Addr) (la ca lb cb : Nat) (w : World) (ha : Sl w 1 ao la ca (cs i64v xs)) (hb : Sl w 1 bo lb cb (cs i64v ys)) (hla : la ≤ 1000000000000) :
    Calls Try.prog 39 #[.slice ao la ca, .slice bo lb cb] w (RetB (.bool (decide (xs = ys))) w) := by
  have c1 := ha.count
  have c2 := hb.count
  by_cases hl : la = lb
  · subst hl
    have C1 := Lib.hid c1
    have C2 := Lib.hid c2
    clear c1 c2
    go_enter Try.func39, Try.ntmps39
    go_wp2
    go_loopw [5] (fun i wr => ∃ k : Nat, k ≤ la ∧ i = .int .i64 k ∧ Hid (∀ j, j < k → xs.getD j 0 = ys.getD j 0) ∧ Below w.heap.size w wr) (fun i _ => la - (intOf i).toNat)
    case atStart => exact ⟨0, by omega, rfl, fun j hj => by omega, Below.refl _ _⟩
    case round =>
      obtain ⟨k, hk, rfl, hall, hbel⟩ := hrel
      by_cases hkl : k < la
      · obtain ⟨b1, o1, e1, hc1⟩ := (ha.ext hbel).at_ k hkl 0
        obtain ⟨b2, o2, e2, hc2⟩ := (hb.ext hbel).at_ k hkl 0
        subst e1; subst e2
        have hc1' : wr.cell? ⟨b1, o1 + k, none⟩ = some (.int .i64 (xs.getD k 0)) := hc1
        have hc2' : wr.cell? ⟨b2, o2 + k, none⟩ = some (.int .i64 (ys.getD k 0)) := hc2
        clear hc1 hc2
        have hkl' : (k : Int) < (la : Int) := by omega
        have hk0 : (0 : Int) ≤ (k : Int) := by omega
        by_cases hxy : xs.getD k 0 = ys.getD k 0
        · generalize hx : xs.getD k 0 = x at *
          subst hxy
          go_wp2
          go_quiet (fail)
          go_wp2
          go_roundw
          case rel => exact ⟨k + 1, by omega, by go_num, fun j hj => by
            by_cases hjk : j = k
            · subst hjk; exact hx
            · exact hall.out j (by omega), by exact below_drewN hbel _⟩
          case measure => simp [intOf]; omega
        · have hne : ¬ xs = ys := fun h => hxy (by rw [h])
          have HN := Lib.hid hne
          clear hne
          generalize xs.getD k 0 = x at *
          generalize ys.getD k 0 = y at *
          go_wp2
          go_quiet (fail)
          go_wp2
          go_ret
          exact ⟨congrArg (fun b => Ending.returned (.bool b)) (by rw [decide_eq_false HN.out]), by exact below_drewN hbel _⟩
      · have hkl' : ¬ (k : Int) < (la : Int) := by omega
        have hee : xs = ys := by
          apply List.ext_getElem (by rw [C1.out, C2.out])
          intro i h1 h2
          have := hall.out i (by have := C1.out; omega)
          simpa [List.getD, h1, h2] using this
        have HN := Lib.hid hee
        clear hee
        go_wp2
        go_ret
        exact ⟨congrArg (fun b => Ending.returned (.bool b)) (by rw [decide_eq_true HN.out]), hbel⟩
  · have hne : ¬ xs = ys := fun h => hl (by rw [← c1, ← c2, h])
    have HN := Lib.hid hne
    clear hne c1 c2
    have hl' : ¬ (la : Int) = (lb : Int) := by omega
    go_enter Try.func39, Try.ntmps39
    go_wp2
    go_ret
    exact ⟨congrArg (fun b => Ending.returned (.bool b)) (by rw [decide_eq_false HN.out]), Below.refl _ _⟩

set_option maxRecDepth 100000 in
set_option maxHeartbeats 1000000 in
theorem sameWords_any (xs ys : List (BitVec 64)) (ao bo : Option Addr) (la ca lb cb : Nat) (w : World) (ha : Sl w 1 ao la ca (cs u64 xs)) (hb : Sl w 1 bo lb cb (cs u64 ys)) (hla : la ≤ 1000000000000) :
    Calls Try.prog 32 #[.slice ao la ca, .slice bo lb cb] w (RetB (.bool (decide (xs = ys))) w) := by
  have c1 := ha.count
  have c2 := hb.count
  by_cases hl : la = lb
  · subst hl
    have C1 := Lib.hid c1
    have C2 := Lib.hid c2
    clear c1 c2
    go_enter Try.func32, Try.ntmps32
    go_wp2
    go_loopw [5] (fun i wr => ∃ k : Nat, k ≤ la ∧ i = .int .i64 k ∧ Hid (∀ j, j < k → xs.getD j 0 = ys.getD j 0) ∧ Below w.heap.size w wr) (fun i _ => la - (intOf i).toNat)
    case atStart => exact ⟨0, by omega, rfl, fun j hj => by omega, Below.refl _ _⟩
    case round =>
      obtain ⟨k, hk, rfl, hall, hbel⟩ := hrel
      by_cases hkl : k < la
      · obtain ⟨b1, o1, e1, hc1⟩ := (ha.ext hbel).at_ k hkl 0
        obtain ⟨b2, o2, e2, hc2⟩ := (hb.ext hbel).at_ k hkl 0
        subst e1; subst e2
        have hkl' : (k : Int) < (la : Int) := by omega
        have hk0 : (0 : Int) ≤ (k : Int) := by omega
        by_cases hxy : xs.getD k 0 = ys.getD k 0
        · generalize hx : xs.getD k 0 = x at *
          rw [← hxy] at hc2
          go_wp2
          go_quiet (fail)
          go_wp2
          go_roundw
          case rel => exact ⟨k + 1, by omega, by go_num, fun j hj => by
            by_cases hjk : j = k
            · subst hjk; rw [hx]; exact hxy
            · exact hall.out j (by omega), by exact below_drewN hbel _⟩
          case measure => simp [intOf]; omega
        · have hne : ¬ xs = ys := fun h => hxy (by rw [h])
          have HN := Lib.hid hne
          clear hne
          generalize xs.getD k 0 = x at *
          generalize ys.getD k 0 = y at *
          go_wp2
          go_quiet (fail)
          go_wp2
          go_ret
          exact ⟨congrArg (fun b => Ending.returned (.bool b)) (by rw [decide_eq_false HN.out]), by exact below_drewN hbel _⟩
      · have hkl' : ¬ (k : Int) < (la : Int) := by omega
        have hee : xs = ys := by
          apply List.ext_getElem (by rw [C1.out, C2.out])
          intro i h1 h2
          have := hall.out i (by have := C1.out; omega)
          simpa [List.getD, h1, h2] using this
        have HN := Lib.hid hee
        clear hee
        go_wp2
        go_ret
        exact ⟨congrArg (fun b => Ending.returned (.bool b)) (by rw [decide_eq_true HN.out]), hbel⟩
  · have hne : ¬ xs = ys := fun h => hl (by rw [← c1, ← c2, h])
    have HN := Lib.hid hne
    clear hne c1 c2
    have hl' : ¬ (la : Int) = (lb : Int) := by omega
    go_enter Try.func32, Try.ntmps32
    go_wp2
    go_ret
    exact ⟨congrArg (fun b => Ending.returned (.bool b)) (by rw [decide_eq_false HN.out]), Below.refl _ _⟩


theorem aw_total : total [2, 0, 3] = (5, 0) := by decide +kernel
theorem aw_pick2 : pick [2, 0, 3] 2 = (2, 0) := by decide +kernel
theorem aw_pick5 : pick [2, 0, 3] 5 = (0, 1) := by decide +kernel
theorem aw_below12 : below [7#64, 12#64] 5 = (4, 2, 0) := by decide +kernel
theorem aw_below13 : below [7#64, 13#64] 5 = (0, 0, 4) := by decide +kernel
theorem aw_shuf : shuffle [1#64, 0#64] 3 = ([2, 0, 1], 0) := by decide +kernel
theorem aw_words : words 0#64 0#64 5 2 = [wordAt 0#64 0#64 5 0, wordAt 0#64 0#64 5 1] := by unfold words; rw [if_neg (by decide)]; rfl
theorem aw_ne : wordAt 0#64 0#64 5 0 ≠ wordAt 0#64 0#64 5 1 := by decide +kernel
theorem same_aw {w w1 : World} {a : Option Addr} {n c g : Nat} {p q : Addr} {u v : Value} (H : Hid (Sl w 1 a n c (cs i64v [2, 0, 1]) ∧ n ≤ 10)) (hS : w1.cell? p = some u ∧ w1.cell? q = some v ∧ Below w.heap.size w w1) (h : BlkAt w1 g #[.int .i64 2, .int .i64 0, .int .i64 1]) :
    Calls Try.prog 39 #[.slice a n c, .slice (some ⟨g, 0, none⟩) 3 3] w1 (RetB (.bool true) w1) :=
  same11_any [2, 0, 1] [2, 0, 1] a _ n c 3 3 w1 (H.out.1.ext hS.2.2) (sl_blk h rfl 3 rfl (by decide)) (by have := H.out.2; omega)

set_option maxRecDepth 100000 in
set_option maxHeartbeats 4000000 in
theorem awake11_any (w : World) : Calls Try.prog 27 #[] w (RetB (.bool true) w) := by
  have sA := fun w : World => sl_lit (f := i64v) w 3 [2, 0, 3] #[.int .i64 2, .int .i64 0, .int .i64 3] rfl 3 rfl (by decide)
  have sB := fun w : World => sl_lit (f := u64) w 35 [7#64, 12#64] #[.int .u64 7, .int .u64 12] rfl 2 rfl (by decide)
  have sC := fun w : World => sl_lit (f := u64) w 35 [7#64, 13#64] #[.int .u64 7, .int .u64 13] rfl 2 rfl (by decide)
  have sD := fun w : World => sl_lit (f := u64) w 35 [1#64, 0#64] #[.int .u64 1, .int .u64 0] rfl 2 rfl (by decide)
  have HA := Lib.hid sA
  have HB := Lib.hid sB
  have HC := Lib.hid sC
  have HD := Lib.hid sD
  clear sA sB sC sD
  go_enter Try.func27, Try.ntmps27
  go_wp2_with fail
  refine (total_val (HA.out _) (Lib.hid aw_total)).mono ?_
  rintro e w1 ⟨rfl, hw1⟩
  have B1 : Hid (Below w.heap.size w w1) := by rw [← hw1]; exact below_alloc _ _
  clear hw1
  go_wp2_with fail
  refine (pick_any [2, 0, 3] 2 _ 3 3 _ (HA.out _)).mono ?_
  rw [aw_pick2]
  rintro e w2 ⟨rfl, hw2⟩
  have B2 : Hid (Below w.heap.size w w2) := by rw [← hw2]; exact below_step B1.out (below_alloc _ _)
  clear hw2 B1
  go_wp2_with fail
  refine (pick_any [2, 0, 3] 5 _ 3 3 _ (HA.out _)).mono ?_
  rw [aw_pick5]
  rintro e w3 ⟨rfl, hw3⟩
  have B3 : Hid (Below w.heap.size w w3) := by rw [← hw3]; exact below_step B2.out (below_alloc _ _)
  clear hw3 B2
  go_wp2_with fail
  refine (below_val (HB.out _) (by decide) (Lib.hid aw_below12)).mono ?_
  rintro e w4 ⟨rfl, hb4⟩
  have B4 := Lib.hid (below_step (below_step B3.out (below_alloc _ _)) hb4)
  clear hb4 B3
  go_wp2_with fail
  refine (below_val (HC.out _) (by decide) (Lib.hid aw_below13)).mono ?_
  rintro e w5 ⟨rfl, hb5⟩
  have B5 := Lib.hid (below_step (below_step B4.out (below_alloc _ _)) hb5)
  clear hb5 B4
  go_wp2_with fail
  refine (shuffle_any [1#64, 0#64] 3 _ 2 2 _ (HD.out _) (by decide)).mono ?_
  rw [aw_shuf]
  rintro e w6 ⟨v6, n6, rfl, ho6, hb6⟩
  obtain ⟨a6, c6, rfl, s6⟩ := sl_of_own ho6
  have hn6 : n6 ≤ 10 := by have := s6.count; simp at this; omega
  have B6 := Lib.hid (below_step (below_step B5.out (below_alloc _ _)) hb6)
  have S6 := Lib.hid s6
  clear hb6 B5 ho6 s6
  go_wp2_with fail
  refine (words_any 0#64 0#64 5 2 _).mono ?_
  rw [aw_words]
  rintro e w7 ⟨v7, n7, rfl, ho7, hb7⟩
  have hn7 : n7 = 2 := by have := ho7.1; simp [cs_length] at this; omega
  subst hn7
  obtain ⟨g, cap, rfl⟩ : ∃ g cap, v7 = .slice (some ⟨g, 0, none⟩) 2 cap := Joins.ownsRow_form ho7 (by omega)
  obtain ⟨d0, _, _, _⟩ := own_cell ho7 0 (by omega) 0
  obtain ⟨d1, _, _, _⟩ := own_cell ho7 1 (by omega) 0
  have d0' : w7.cell? ⟨g, 0, none⟩ = some (u64 (wordAt 0#64 0#64 5 0)) := d0
  have d1' : w7.cell? ⟨g, 1, none⟩ = some (u64 (wordAt 0#64 0#64 5 1)) := d1
  have hne := aw_ne
  have B7 := Lib.hid (below_step B6.out hb7)
  have S7 : Hid (Sl w7 1 a6 n6 c6 (cs i64v [2, 0, 1]) ∧ n6 ≤ 10) := ⟨S6.out.ext hb7, hn6⟩
  clear hb7 B6 ho7 d0 d1 S6 HA HB HC HD
  generalize wordAt 0#64 0#64 5 0 = x0 at *
  generalize wordAt 0#64 0#64 5 1 = x1 at *
  have k0 := And.intro d0' (And.intro d1' (Below.refl w7.heap.size w7))
  go_wp2_with fail
  go_region_held3 (fun w' => w'.cell? ⟨g, 0, none⟩ = some (u64 x0) ∧ w'.cell? ⟨g, 1, none⟩ = some (u64 x1) ∧ Below w7.heap.size w7 w')
    (repeat (with_reducible first | assumption | refine keep3D ?_ | refine keep3A _ ?_ | (apply keep3; focus assumption)))
    (first
      | (go_at_call 39; (with_reducible refine (same_aw S7 (by assumption) ?_).mono ?_); (repeat (first | ((with_reducible refine blkNew ?_); focus (simp; done)) | (with_reducible assumption) | (with_reducible refine blkDrew ?_) | ((with_reducible apply blkBelow); focus (with_reducible assumption)) | (with_reducible refine blkOld ?_))); rintro e w8 ⟨rfl, hb8⟩))
  all_goals
    go_split_ands
    go_wp2
    go_ret
    exact ⟨rfl, below_step B7.out (by assumption)⟩
end Go.Proofs.Ytfhmhkpplcbiiaa
