/-
  LOCKS, THE WALKS: New, can, State, Last.
-/
import Derived.Test.YtgfgkgidpinmoaaProg
import Derived.Test.YtgfgkgidpinmoaaBase3
import Derived.Test.YtgfgkgidpinmoaaBase5
import Derived.Test.YtgfgkgidpinmoaaBase6
import Derived.Test.YtgfgkgidpinmoaaBase7
import Derived.Test.YtgfgkgidpinmoaaBase14
import Derived.Test.YtgfgkgidpinmoaaTokP
import Derived.Test.YtgfgkgidpinmoaaTok1
import Derived.Test.YtgfgkgidpinmoaaTok2
import Derived.Test.YtgfgkgidpinmoaaTok3
import Derived.Test.YtgfgkgidpinmoaaLockP
import Derived.Test.YtgfgkgidpinmoaaHeld
import Derived.BigQuiet
import Derived.Laws.StructEq
import Derived.StillTailTactics
import Derived.RegionTactic
import Derived.Deep.DeepCutAuto
import Derived.Deep.QuietTactic
import Derived.WalkSpells
import Derived.WalkLawsBesides
namespace Go.Proofs.Ytgfgkgidpinmoaa
open Go.RowKit
set_option linter.unusedVariables false

theorem six_cells {W : World} {k : Nat} {x0 x1 x2 x3 x4 x5 : Value} (h : BlkAt W k #[x0, x1, x2, x3, x4, x5]) : W.cell? ⟨k, 0, none⟩ = some x0 ∧ W.cell? ⟨k, 1, none⟩ = some x1 ∧ W.cell? ⟨k, 2, none⟩ = some x2 ∧ W.cell? ⟨k, 3, none⟩ = some x3 ∧ W.cell? ⟨k, 4, none⟩ = some x4 ∧ W.cell? ⟨k, 5, none⟩ = some x5 := by
  obtain ⟨E, h⟩ := h
  refine ⟨?_, ?_, ?_, ?_, ?_, ?_⟩ <;> rw [cell_of_row _ _ _ _ _ _ h] <;> rfl
theorem new_bad (bike : Int) (ka kb : BitVec 64) (w : World) (h : bike < 0 ∨ 128 ≤ bike) : Calls Try.prog 41 #[.int .i64 bike, .agg #[u64 ka, u64 kb]] w (RetB (.tuple #[.pointer none, .int .i64 1]) w) := by
  have W0 := Lib.hid (below_alloc w (.cells #[u64 ka, u64 kb] 32))
  by_cases h0 : bike < 0
  · clear h
    go_enter Try.func41, Try.ntmps41
    go_wp2
    go_ret2
    exact ⟨rfl, W0.out⟩
  · have h1 : 128 ≤ bike := by omega
    clear h
    go_enter Try.func41, Try.ntmps41
    go_wp2
    go_ret2
    exact ⟨rfl, W0.out⟩
theorem new_ok (bike : Int) (ka kb : BitVec 64) (w : World) (h0 : 0 ≤ bike) (h1 : bike < 128) : Calls Try.prog 41 #[.int .i64 bike, .agg #[u64 ka, u64 kb]] w (fun e w' => e = .returned (.tuple #[.pointer (some ⟨w.heap.size + 1, 0, none⟩), .int .i64 0]) ∧ Hid (LockAt w' (w.heap.size + 1) (.slice none 0 0) ⟨bike, ka, kb, 1, 0, []⟩) ∧ Below w.heap.size w w') := by
  have h0' : ¬ bike < 0 := by omega
  go_enter Try.func41, Try.ntmps41
  go_wp2
  go_ret2
  exact ⟨rfl, ⟨blkNew (by simp), World.ownsRow_nil _ _ _ _⟩, below_step (below_alloc _ _) (below_alloc _ _)⟩
theorem can_nil (st : Int) (w : World) : Calls Try.prog 83 #[.pointer none, .int .i64 st] w (fun e w' => e = .returned (.int .i64 11) ∧ w' = w) := by
  go_enter Try.func83, Try.ntmps83
  go_wp2
  go_ret
  exact ⟨rfl, rfl⟩
theorem can_yes {g : Nat} {v : Value} {s : LS} (st : Int) (w : World) (h : Hid (LockAt w g v s)) (hs : s.state = st) : Calls Try.prog 83 #[.pointer (some ⟨g, 0, none⟩), .int .i64 st] w (fun e w' => e = .returned (.int .i64 0) ∧ w' = w) := by
  obtain ⟨c0, c1, c2, c3, c4, c5⟩ := six_cells h.out.1
  rw [hs] at c3
  clear hs
  go_enter Try.func83, Try.ntmps83
  go_wp2
  go_ret
  exact ⟨rfl, rfl⟩
theorem can_no {g : Nat} {v : Value} {s : LS} (st : Int) (w : World) (h : Hid (LockAt w g v s)) (hs : ¬ s.state = st) : Calls Try.prog 83 #[.pointer (some ⟨g, 0, none⟩), .int .i64 st] w (fun e w' => e = .returned (.int .i64 12) ∧ w' = w) := by
  obtain ⟨c0, c1, c2, c3, c4, c5⟩ := six_cells h.out.1
  generalize s.state = z at *
  go_enter Try.func83, Try.ntmps83
  go_wp2
  go_ret
  exact ⟨rfl, rfl⟩
theorem state_any {g : Nat} {v : Value} {s : LS} (w : World) (h : Hid (LockAt w g v s)) : Calls Try.prog 45 #[.pointer (some ⟨g, 0, none⟩)] w (fun e w' => e = .returned (.int .i64 s.state) ∧ w' = w) := by
  obtain ⟨c0, c1, c2, c3, c4, c5⟩ := six_cells h.out.1
  generalize s.state = z at *
  go_enter Try.func45, Try.ntmps45
  go_wp2
  go_ret
  exact ⟨rfl, rfl⟩
theorem state_nil (w : World) : Calls Try.prog 45 #[.pointer none] w (fun e w' => e = .returned (.int .i64 0) ∧ w' = w) := by
  go_enter Try.func45, Try.ntmps45
  go_wp2
  go_ret
  exact ⟨rfl, rfl⟩
theorem last_any {g : Nat} {v : Value} {s : LS} (w : World) (h : Hid (LockAt w g v s)) : Calls Try.prog 43 #[.pointer (some ⟨g, 0, none⟩)] w (fun e w' => e = .returned (.int .i64 s.last) ∧ w' = w) := by
  obtain ⟨c0, c1, c2, c3, c4, c5⟩ := six_cells h.out.1
  generalize s.last = z at *
  go_enter Try.func43, Try.ntmps43
  go_wp2
  go_ret
  exact ⟨rfl, rfl⟩
theorem last_nil (w : World) : Calls Try.prog 43 #[.pointer none] w (fun e w' => e = .returned (.int .i64 0) ∧ w' = w) := by
  go_enter Try.func43, Try.ntmps43
  go_wp2
  go_ret
  exact ⟨rfl, rfl⟩
theorem reports_nil (w : World) : Calls Try.prog 44 #[.pointer none] w (fun e w' => e = .returned (.slice none 0 0) ∧ w' = w) := by
  go_enter Try.func44, Try.ntmps44
  go_wp2
  go_ret
  exact ⟨rfl, rfl⟩
end Go.Proofs.Ytgfgkgidpinmoaa
