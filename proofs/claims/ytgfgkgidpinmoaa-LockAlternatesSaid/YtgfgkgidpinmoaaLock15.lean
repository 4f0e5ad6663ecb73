/-
  LOCKS, THE EXAMPLES: awake.
-/
import Derived.Test.YtgfgkgidpinmoaaProg
import Derived.Test.YtgfgkgidpinmoaaBase3
import Derived.Test.YtgfgkgidpinmoaaBase5
import Derived.Test.YtgfgkgidpinmoaaBase6
import Derived.Test.YtgfgkgidpinmoaaBase7
import Derived.Test.YtgfgkgidpinmoaaBase14
import Derived.Test.YtgfgkgidpinmoaaTok1
import Derived.Test.YtgfgkgidpinmoaaTok3
import Derived.Test.YtgfgkgidpinmoaaLockP
import Derived.Test.YtgfgkgidpinmoaaLock1
import Derived.Test.YtgfgkgidpinmoaaLock2
import Derived.Test.YtgfgkgidpinmoaaLock3
import Derived.Test.YtgfgkgidpinmoaaLock4
import Derived.Test.YtgfgkgidpinmoaaLock5
import Derived.Test.YtgfgkgidpinmoaaLock6
import Derived.Test.YtgfgkgidpinmoaaLock8
import Derived.Test.YtgfgkgidpinmoaaLock14
import Derived.Test.YtgfgkgidpinmoaaHeld
import Derived.BigQuiet
import Derived.Laws.StructEq
import Derived.StillTailTactics
import Derived.RegionTactic
import Derived.BigRegion
import Derived.Deep.RegionHeld3
import Derived.Deep.DeepCutAuto
import Derived.Deep.QuietTactic
import Derived.WalkSpells
import Derived.WalkLawsBesides
namespace Go.Proofs.Ytgfgkgidpinmoaa
open Go.RowKit
set_option linter.unusedVariables false


theorem aw_new {w0 W : World} {kb : Nat} (hk : BlkAt W kb #[.int .u64 1, .int .u64 2]) (lo : Below w0.heap.size w0 W) : Calls Try.prog 41 #[.int .i64 5, .agg #[.int .u64 1, .int .u64 2]] W (fun e W' => ∃ g, e = .returned (.tuple #[.pointer (some ⟨g, 0, none⟩), .int .i64 0]) ∧ Hid (LockAt W' g (.slice none 0 0) (awS 1 0 0) ∧ BlkAt W' kb #[.int .u64 1, .int .u64 2] ∧ Below w0.heap.size w0 W' ∧ kb < g ∧ w0.heap.size ≤ g ∧ g < W'.heap.size)) := by
  refine (new_ok 5 1#64 2#64 W (by decide) (by decide)).mono ?_
  rintro e W' ⟨rfl, hl, hb⟩
  have hlt : kb < W.heap.size := hk.elim fun E hE => (Array.getElem?_eq_some_iff.1 hE).1
  exact ⟨_, rfl, hl.out, blkBelow hb hk, below_step lo hb, by omega, by have := lo.size; omega, hl.out.lt.1⟩
theorem aw_state0 {W : World} {g : Nat} (h : Hid (LockAt W g (.slice none 0 0) (awS 1 0 0))) : Calls Try.prog 45 #[.pointer (some ⟨g, 0, none⟩)] W (fun e' W' => e' = .returned (.int .i64 1) ∧ W' = W) := state_any W h
theorem awS_len (a b : Int) (n : Nat) : (awS a b n).reps.length ≤ 512 := by
  have : (awS a b n).reps.length ≤ 4 := by show (awL.take n).length ≤ 4; rw [List.length_take]; exact Nat.min_le_right _ _
  omega
theorem aw_same {W : World} {a : Option Addr} {c k : Nat} (h : Hid (Sl W 6 a 4 c (rcs awL))) (hb : BlkAt W k #[.int .i64 1, .int .i64 100, .int .i64 3, .int .i64 0, .int .i64 3, .int .i64 8, .int .i64 2, .int .i64 160, .int .i64 5, .int .i64 0, .int .i64 0, .int .i64 0, .int .i64 3, .int .i64 200, .int .i64 6, .int .i64 0, .int .i64 0, .int .i64 0, .int .i64 4, .int .i64 300, .int .i64 2, .int .i64 7, .int .i64 0, .int .i64 0]) :
    Calls Try.prog 49 #[.slice a 4 c, .slice (some ⟨k, 0, none⟩) 4 4] W (RetB (.bool true) W) := by
  have hs : Sl W 6 (some ⟨k, 0, none⟩) 4 4 (rcs awL) := by
    obtain ⟨E, h⟩ := hb
    refine ⟨rfl, Nat.le_refl _, by unfold maxLen; omega, (fun h => by cases h), fun j u hj => ⟨k, 0, rfl, ?_⟩⟩
    rw [Nat.zero_add, cell_of_row _ _ _ _ _ _ h]
    rw [← hj]
    simp [rcs, awL, repA]
  exact same16_any awL awL a (some ⟨k, 0, none⟩) 4 c 4 4 W h.out hs rfl rfl (by omega)
set_option maxRecDepth 100000 in
set_option maxHeartbeats 2000000 in
theorem awake16_any (w : World) : Calls Try.prog 46 #[] w (RetB (.bool true) w) := by
  have hA0 : BlkAt (w.alloc (.cells #[.int .u64 1, .int .u64 2] 32)) w.heap.size #[.int .u64 1, .int .u64 2] := blkNew rfl
  have HA0 := Lib.hid (And.intro hA0 (below_alloc w (.cells #[.int .u64 1, .int .u64 2] 32)))
  clear hA0
  go_enter Try.func46, Try.ntmps46
  go_wp2_with fail
  refine (aw_new HA0.out.1 HA0.out.2).mono ?_
  rintro e w1 ⟨g, rfl, HN⟩
  clear HA0
  go_wp2_with fail
  refine (aw_state0 HN.out.1).mono ?_
  rintro e w1' ⟨rfl, hw⟩
  subst w1'
  go_upto_region 6 with (fail)
  have HA : Hid (AwW w g w.heap.size w1.heap.size (awS 1 0 0) (w1.alloc (.cells #[.int .i64 100, .int .i64 200] 43))) :=
    ⟨⟨_, HN.out.1.below (below_alloc _ _), by simp [Value.ownBlock]⟩, blkOld HN.out.2.1, blkNew rfl, HN.out.2.2.2.1, HN.out.2.2.2.2.2, below_step HN.out.2.2.1 (below_alloc _ _), HN.out.2.2.2.2.1⟩
  generalize w1.alloc (.cells #[.int .i64 100, .int .i64 200] 43) = W at *
  generalize w1.heap.size = sb at *
  clear HN
  go_cut [5, 6, 7, 8] (fun a b c d wx => a = .int .i64 0 ∧ b = .int .i64 0 ∧ c = .int .i64 0 ∧ d = .int .i64 0 ∧ Hid (AwW w g w.heap.size sb (awS 1 1 4) wx))
  case first =>
    have hk0 := awCells HA
    go_region_held3 (fun w9 => w9.cell? ⟨w.heap.size, 0, none⟩ = some (.int .u64 1) ∧ w9.cell? ⟨w.heap.size, 1, none⟩ = some (.int .u64 2) ∧ w9.cell? ⟨sb, 0, none⟩ = some (.int .i64 100) ∧ w9.cell? ⟨sb, 1, none⟩ = some (.int .i64 200) ∧ Below w.heap.size w w9)
      (repeat (with_reducible first | assumption | refine keepQD ?_ | refine keepQA _ ?_ | (apply awCells; focus assumption)))
      (first
        | (go_at_call 54; (with_reducible refine (aw_ticket (w0 := w) (g := g) (kb := w.heap.size) (sb := sb) (s := awS 1 0 0) ?_).mono ?_); (repeat (first | (with_reducible assumption) | (with_reducible refine awDrew ?_) | (with_reducible refine awAlloc ?_))); rintro e w1 ⟨rfl, ha1⟩)
        | (go_at_call 52; (with_reducible refine (aw_unlock (w0 := w) (g := g) (kb := w.heap.size) (sb := sb) ?_ (awS_len _ _ _) aw_t1).mono ?_); (repeat (first | (with_reducible assumption) | (with_reducible refine awDrew ?_) | (with_reducible refine awAlloc ?_))); rintro e w1 ⟨rfl, ha1⟩)
        | (go_at_call 55; (with_reducible refine (aw_pause (w0 := w) (g := g) (kb := w.heap.size) (sb := sb) ?_ (awS_len _ _ _) aw_t2).mono ?_); (repeat (first | (with_reducible assumption) | (with_reducible refine awDrew ?_) | (with_reducible refine awAlloc ?_))); rintro e w1 ⟨rfl, ha1⟩)
        | (go_at_call 56; (with_reducible refine (aw_resume (w0 := w) (g := g) (kb := w.heap.size) (sb := sb) ?_ (awS_len _ _ _) aw_t3).mono ?_); (repeat (first | (with_reducible assumption) | (with_reducible refine awDrew ?_) | (with_reducible refine awAlloc ?_))); rintro e w1 ⟨rfl, ha1⟩)
        | (go_at_call 53; (with_reducible refine (aw_close (w0 := w) (g := g) (kb := w.heap.size) (sb := sb) ?_ (awS_len _ _ _) aw_t4).mono ?_); (repeat (first | (with_reducible assumption) | (with_reducible refine awDrew ?_) | (with_reducible refine awAlloc ?_))); rintro e w1 ⟨rfl, ha1⟩))
    all_goals
      go_wp2_with fail
      go_meet
      exact ⟨rfl, rfl, rfl, rfl,  by first | assumption | exact awDrew (by assumption)⟩
  case rest =>
    obtain ⟨rfl, rfl, rfl, rfl, HA1⟩ := hcut
    obtain ⟨WB, hWB⟩ : ∃ W, W = wc := ⟨_, rfl⟩
    subst hWB
    clear HA
    have HA := Lib.hid HA1.out
    clear HA1
    go_upto_region 7 with (fail)
    go_cut [9, 10] (fun a b wx => a = .int .i64 12 ∧ b = .int .i64 20 ∧ Hid (AwW w g w.heap.size sb (awS 1 1 4) wx))
    case first =>
      have hk0 := awCells HA
      go_region_held3 (fun w9 => w9.cell? ⟨w.heap.size, 0, none⟩ = some (.int .u64 1) ∧ w9.cell? ⟨w.heap.size, 1, none⟩ = some (.int .u64 2) ∧ w9.cell? ⟨sb, 0, none⟩ = some (.int .i64 100) ∧ w9.cell? ⟨sb, 1, none⟩ = some (.int .i64 200) ∧ Below w.heap.size w w9)
        (repeat (with_reducible first | assumption | refine keepQD ?_ | refine keepQA _ ?_ | (apply awCells; focus assumption)))
        (first
          | (go_at_call 54; (with_reducible refine (aw_ticket (w0 := w) (g := g) (kb := w.heap.size) (sb := sb) (s := awS 1 1 4) ?_).mono ?_); (repeat (first | (with_reducible assumption) | (with_reducible refine awDrew ?_) | (with_reducible refine awAlloc ?_))); rintro e w1 ⟨rfl, ha1⟩)
          | (go_at_call 52; (with_reducible refine (aw_unlock (w0 := w) (g := g) (kb := w.heap.size) (sb := sb) ?_ (awS_len _ _ _) aw_t6).mono ?_); (repeat (first | (with_reducible assumption) | (with_reducible refine awDrew ?_) | (with_reducible refine awAlloc ?_))); rintro e w1 ⟨rfl, ha1⟩)
          | (go_at_call 55; (with_reducible refine (aw_pause (w0 := w) (g := g) (kb := w.heap.size) (sb := sb) ?_ (awS_len _ _ _) aw_t5).mono ?_); (repeat (first | (with_reducible assumption) | (with_reducible refine awDrew ?_) | (with_reducible refine awAlloc ?_))); rintro e w1 ⟨rfl, ha1⟩))
      all_goals
        go_wp2_with fail
        go_meet
        exact ⟨rfl, rfl,  by first | assumption | exact awDrew (by assumption)⟩
    case rest =>
      obtain ⟨rfl, rfl, HA1⟩ := hcut
      obtain ⟨WC, hWC⟩ : ∃ W, W = wc := ⟨_, rfl⟩
      subst hWC
      go_wp2_with fail
      refine (aw_state HA1).mono ?_
      rintro e w5 ⟨rfl, rfl⟩
      go_wp2_with fail
      refine (aw_last HA1).mono ?_
      rintro e w5 ⟨rfl, rfl⟩
      go_wp2_with fail
      refine (aw_reports HA1).mono ?_
      rintro e w6 ⟨a6, c6, rfl, hs6, hb6⟩
      have HB6 := Lib.hid (below_step HA1.out.lo hb6)
      clear hb6
      go_wp2_with fail
      refine (aw_same (hs6.out.ext (below_alloc _ _)) (blkNew rfl)).mono ?_
      rintro e w7 ⟨rfl, hb7⟩
      have HB7 := Lib.hid (below_step (below_step HB6.out (below_alloc _ _)) hb7)
      clear hb7
      go_wp2
      go_ret
      exact ⟨rfl, HB7.out⟩
end Go.Proofs.Ytgfgkgidpinmoaa
