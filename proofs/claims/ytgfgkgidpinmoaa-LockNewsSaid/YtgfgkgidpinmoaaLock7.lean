/-
  LOCKS, THE WALKS: the turns at a nil lock.
-/
import Derived.Test.YtgfgkgidpinmoaaProg
import Derived.Test.YtgfgkgidpinmoaaBase3
import Derived.Test.YtgfgkgidpinmoaaBase5
import Derived.Test.YtgfgkgidpinmoaaBase6
import Derived.Test.YtgfgkgidpinmoaaBase7
import Derived.Test.YtgfgkgidpinmoaaBase14
import Derived.Test.YtgfgkgidpinmoaaLockP
import Derived.Test.YtgfgkgidpinmoaaLock1
import Derived.Test.YtgfgkgidpinmoaaHeld
import Derived.BigQuiet
import Derived.Laws.StructEq
import Derived.StillTailTactics
import Derived.RegionTactic
import Derived.Deep.DeepCutAuto
import Derived.Deep.QuietTactic
import Derived.WalkSpells
import Derived.WalkLawsBesides
namespace Go.Proofs.Ytgfgkgidpinmoaa
open Go.RowKit
set_option linter.unusedVariables false

theorem pause_nil (l : Int) (w : World) : Calls Try.prog 55 #[.pointer none, .int .i64 l] w (fun e w' => e = .returned (.int .i64 11) ∧ w' = w) := by
  go_enter Try.func55, Try.ntmps55
  go_wp2_with fail
  refine (can_nil 2 _).mono ?_
  rintro e w1 ⟨rfl, rfl⟩
  go_wp2
  go_ret
  exact ⟨rfl, rfl⟩
theorem resume_nil (l : Int) (w : World) : Calls Try.prog 56 #[.pointer none, .int .i64 l] w (fun e w' => e = .returned (.int .i64 11) ∧ w' = w) := by
  go_enter Try.func56, Try.ntmps56
  go_wp2_with fail
  refine (can_nil 3 _).mono ?_
  rintro e w1 ⟨rfl, rfl⟩
  go_wp2
  go_ret
  exact ⟨rfl, rfl⟩
theorem close_nil (p l : Int) (w : World) : Calls Try.prog 53 #[.pointer none, .int .i64 p, .int .i64 l] w (fun e w' => e = .returned (.int .i64 11) ∧ w' = w) := by
  go_enter Try.func53, Try.ntmps53
  go_wp2_with fail
  refine (can_nil 2 _).mono ?_
  rintro e w1 ⟨rfl, rfl⟩
  go_wp2
  go_ret
  exact ⟨rfl, rfl⟩
set_option maxHeartbeats 1000000 in
theorem unlock_nil (k t : Array Value) (l : Int) (w : World) : Calls Try.prog 52 #[.pointer none, .agg k, .agg t, .int .i64 l] w (fun e w' => e = .returned (.int .i64 11) ∧ Below w.heap.size w w') := by
  go_enter Try.func52, Try.ntmps52
  go_wp2_with fail
  refine (can_nil 1 _).mono ?_
  rintro e w1 ⟨rfl, rfl⟩
  go_wp2
  go_ret
  exact ⟨rfl, below_step (below_alloc _ _) (below_alloc _ _)⟩
end Go.Proofs.Ytgfgkgidpinmoaa
