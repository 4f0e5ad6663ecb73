/-
  LOCKS, THE LAWS: LockNil, LockNews.
-/
import Derived.Test.YtgfgkgidpinmoaaProg
import Derived.Test.YtgfgkgidpinmoaaBase3
import Derived.Test.YtgfgkgidpinmoaaBase5
import Derived.Test.YtgfgkgidpinmoaaBase6
import Derived.Test.YtgfgkgidpinmoaaBase7
import Derived.Test.YtgfgkgidpinmoaaBase14
import Derived.Test.YtgfgkgidpinmoaaTok1
import Derived.Test.YtgfgkgidpinmoaaTok3
import Derived.Test.YtgfgkgidpinmoaaLockP
import Derived.Test.YtgfgkgidpinmoaaLock1
import Derived.Test.YtgfgkgidpinmoaaLock2
import Derived.Test.YtgfgkgidpinmoaaLock3
import Derived.Test.YtgfgkgidpinmoaaLock4
import Derived.Test.YtgfgkgidpinmoaaLock5
import Derived.Test.YtgfgkgidpinmoaaLock6
import Derived.Test.YtgfgkgidpinmoaaLock8
import Derived.Test.YtgfgkgidpinmoaaLock7
import Derived.Test.YtgfgkgidpinmoaaLock9
import Derived.Test.YtgfgkgidpinmoaaLock15
import Derived.Test.YtgfgkgidpinmoaaLockQ
import Derived.Test.YtgfgkgidpinmoaaTok2
import Derived.Test.YtgfgkgidpinmoaaHeld
import Derived.BigQuiet
import Derived.Laws.StructEq
import Derived.StillTailTactics
import Derived.RegionTactic
import Derived.BigRegion
import Derived.Deep.RegionHeld3
import Derived.Deep.DeepCutAuto
import Derived.Deep.QuietTactic
import Derived.WalkSpells
import Derived.WalkLawsBesides
namespace Go.Proofs.Ytgfgkgidpinmoaa
open Go.RowKit
set_option linter.unusedVariables false


set_option maxRecDepth 100000 in
set_option maxHeartbeats 1000000 in
theorem refNew_ok (bike : Int) (ka kb : BitVec 64) (w : World) (h0 : 0 ≤ bike) (h1 : bike < 128) : Calls Try.prog 42 #[.int .i64 bike, .agg #[u64 ka, u64 kb]] w (RetB (.tuple #[rlkV ⟨bike, ka, kb, 1, 0, []⟩ (.slice none 0 0), .int .i64 0]) w) := by
  have h0' : ¬ bike < 0 := by omega
  have h1' : ¬ 128 ≤ bike := by omega
  go_enter Try.func42, Try.ntmps42
  go_wp2
  refine bodyPost_ret (v := .tuple #[rlkV ⟨bike, ka, kb, 1, 0, []⟩ (.slice none 0 0), .int .i64 0]) ?_ rfl ⟨rfl, ?_⟩
  · rw [results_cell_tmp rfl]
    go_simp
  · exact below_step (below_alloc _ _) (below_alloc _ _)
set_option maxRecDepth 100000 in
set_option maxHeartbeats 1000000 in
theorem refNew_bad (bike : Int) (ka kb : BitVec 64) (w : World) (h : bike < 0 ∨ 128 ≤ bike) : Calls Try.prog 42 #[.int .i64 bike, .agg #[u64 ka, u64 kb]] w (RetB (.tuple #[.agg #[.int .i64 0, .int .u64 0, .int .u64 0, .int .i64 0, .int .i64 0, .slice none 0 0], .int .i64 1]) w) := by
  by_cases h0 : bike < 0
  · clear h
    go_enter Try.func42, Try.ntmps42
    go_wp2
    refine bodyPost_ret (v := .tuple #[.agg #[.int .i64 0, .int .u64 0, .int .u64 0, .int .i64 0, .int .i64 0, .slice none 0 0], .int .i64 1]) ?_ rfl ⟨rfl, ?_⟩
    · rw [results_cell_tmp rfl]
      go_simp
    · exact below_step (below_alloc _ _) (below_alloc _ _)
  · have h1 : 128 ≤ bike := by omega
    clear h
    go_enter Try.func42, Try.ntmps42
    go_wp2
    refine bodyPost_ret (v := .tuple #[.agg #[.int .i64 0, .int .u64 0, .int .u64 0, .int .i64 0, .int .i64 0, .slice none 0 0], .int .i64 1]) ?_ rfl ⟨rfl, ?_⟩
    · rw [results_cell_tmp rfl]
      go_simp
    · exact below_step (below_alloc _ _) (below_alloc _ _)
set_option maxRecDepth 100000 in
set_option maxHeartbeats 1000000 in
theorem lockNil_walk (o : OpL) (w : World) : Calls Try.prog 16 #[.agg (opA o)] w (RetB (.bool true) w) := by
  obtain ⟨c, b, r, d, f, t, n, tag, lo, hi, place, loc⟩ := o
  simp only [opA]
  have hq : Hid (BlkAt (w.alloc (.cells #[b8 c, .int .i64 b, .int .i64 r, .int .i64 d, .int .i64 f, .int .i64 t, .int .i64 n, u64 tag, .int .i64 lo, .int .i64 hi, .int .i64 place, .int .i64 loc] 74)) w.heap.size #[b8 c, .int .i64 b, .int .i64 r, .int .i64 d, .int .i64 f, .int .i64 t, .int .i64 n, u64 tag, .int .i64 lo, .int .i64 hi, .int .i64 place, .int .i64 loc] ∧ Below w.heap.size w (w.alloc (.cells #[b8 c, .int .i64 b, .int .i64 r, .int .i64 d, .int .i64 f, .int .i64 t, .int .i64 n, u64 tag, .int .i64 lo, .int .i64 hi, .int .i64 place, .int .i64 loc] 74))) := ⟨blkNew rfl, below_alloc _ _⟩
  go_enter Try.func16, Try.ntmps16
  go_wp2_with fail
  refine (unlock_nil _ _ loc _).mono ?_
  rintro e w1 ⟨rfl, hb1⟩
  have HB := Lib.hid (below_step hq.out.2 hb1)
  obtain ⟨c0, c1, c2, c3, c4, c5, c6, c7, c8, c9, c10, c11⟩ := op_cells (blkBelow hb1 hq.out.1)
  clear hb1 hq
  go_wp2_with fail
  refine (pause_nil loc _).mono ?_
  rintro e w2 ⟨rfl, hw⟩
  subst w2
  go_wp2_with fail
  refine (resume_nil loc _).mono ?_
  rintro e w2 ⟨rfl, hw⟩
  subst w2
  go_wp2_with fail
  refine (close_nil place loc _).mono ?_
  rintro e w2 ⟨rfl, hw⟩
  subst w2
  go_wp2_with fail
  refine (state_nil _).mono ?_
  rintro e w2 ⟨rfl, hw⟩
  subst w2
  go_wp2_with fail
  refine (last_nil _).mono ?_
  rintro e w2 ⟨rfl, hw⟩
  subst w2
  go_wp2_with fail
  refine (reports_nil _).mono ?_
  rintro e w2 ⟨rfl, hw⟩
  subst w2
  go_wp2_with fail
  refine (awake16_any _).mono ?_
  rintro e w2 ⟨rfl, hb2⟩
  have HB2 := Lib.hid (below_step HB.out hb2)
  clear hb2
  go_wp2
  go_ret
  exact ⟨rfl, HB2.out⟩

set_option maxRecDepth 100000 in
set_option maxHeartbeats 1000000 in
theorem lockNews_walk (bike : Int) (ka kb : BitVec 64) (w : World) : Calls Try.prog 10 #[.int .i64 bike, .agg #[u64 ka, u64 kb]] w (RetB (.bool true) w) := by
  have HK : Hid (BlkAt (w.alloc (.cells #[u64 ka, u64 kb] 32)) w.heap.size #[u64 ka, u64 kb] ∧ Below w.heap.size w (w.alloc (.cells #[u64 ka, u64 kb] 32))) := ⟨blkNew rfl, below_alloc _ _⟩
  by_cases hb : bike < 0 ∨ 128 ≤ bike
  · have HB := Lib.hid hb
    clear hb
    go_enter Try.func10, Try.ntmps10
    go_wp2_with fail
    refine (new_bad bike ka kb _ HB.out).mono ?_
    rintro e w1 ⟨rfl, hb1⟩
    have HK1 := Lib.hid (blkBelow hb1 HK.out.1)
    have HL1 := Lib.hid (below_step HK.out.2 hb1)
    obtain ⟨k0, k1⟩ := key_cells2 HK1.out
    clear hb1 HK
    go_wp2_with fail
    refine (refNew_bad bike ka kb _ HB.out).mono ?_
    rintro e w2 ⟨rfl, hb2⟩
    have HL2 := Lib.hid (below_step (below_step HL1.out hb2) (below_alloc w2 (.cells #[.int .i64 0, .int .u64 0, .int .u64 0, .int .i64 0, .int .i64 0, .slice none 0 0] 63)))
    clear hb2 k0 k1
    go_wp2_with fail
    refine (last_nil _).mono ?_
    rintro e w3 ⟨rfl, hw⟩
    subst w3
    go_wp2_with fail
    refine (reports_nil _).mono ?_
    rintro e w3 ⟨rfl, hw⟩
    subst w3
    go_wp2_with fail
    refine (state_nil _).mono ?_
    rintro e w3 ⟨rfl, hw⟩
    subst w3
    go_wp2_with fail
    refine (awake16_any _).mono ?_
    rintro e w4 ⟨rfl, hb4⟩
    have HB4 := Lib.hid (below_step HL2.out hb4)
    clear hb4
    go_wp2
    go_ret
    exact ⟨rfl, HB4.out⟩
  · have HB := Lib.hid hb
    clear hb
    go_enter Try.func10, Try.ntmps10
    go_wp2_with fail
    refine (new_ok bike ka kb _ (by have := HB.out; omega) (by have := HB.out; omega)).mono ?_
    rintro e w1 ⟨rfl, hl1, hb1⟩
    have HK1 := Lib.hid (blkBelow hb1 HK.out.1)
    have HL1 := Lib.hid (below_step HK.out.2 hb1)
    obtain ⟨k0, k1⟩ := key_cells2 HK1.out
    clear hb1
    generalize (w.alloc (.cells #[u64 ka, u64 kb] 32)).heap.size + 1 = g at *
    go_wp2_with fail
    refine (refNew_ok bike ka kb _ (by have := HB.out; omega) (by have := HB.out; omega)).mono ?_
    rintro e w2 ⟨rfl, hb2⟩
    have HL2 := Lib.hid (below_step (below_step HL1.out hb2) (below_alloc w2 (.cells #[.int .i64 bike, u64 ka, u64 kb, .int .i64 1, .int .i64 0, .slice none 0 0] 63)))
    have HA2 : Hid (LockAt (w2.alloc (.cells #[.int .i64 bike, u64 ka, u64 kb, .int .i64 1, .int .i64 0, .slice none 0 0] 63)) g (.slice none 0 0) ⟨bike, ka, kb, 1, 0, []⟩) := (hl1.out.below hb2).below (below_alloc _ _)
    clear hb2 k0 k1 hl1
    go_wp2_with fail
    refine (last_any _ HA2).mono ?_
    rintro e w3 ⟨rfl, hw⟩
    subst w3
    go_wp2_with fail
    refine (reports_any _ HA2 (by simp)).mono ?_
    rintro e w3 ⟨v3, rfl, ho3, hb3⟩
    obtain ⟨a3, c3, hv3, _⟩ := sl_of_own ho3.out
    subst hv3
    have HA3 := Lib.hid (HA2.out.below hb3)
    have HL3 := Lib.hid (below_step HL2.out hb3)
    clear hb3
    go_wp2_with fail
    refine (state_any _ HA3).mono ?_
    rintro e w4 ⟨rfl, hw⟩
    subst w4
    go_wp2_with fail
    refine (awake16_any _).mono ?_
    rintro e w4 ⟨rfl, hb4⟩
    have HB4 := Lib.hid (below_step HL3.out hb4)
    clear hb4
    go_wp2
    go_ret
    exact ⟨rfl, HB4.out⟩
end Go.Proofs.Ytgfgkgidpinmoaa
