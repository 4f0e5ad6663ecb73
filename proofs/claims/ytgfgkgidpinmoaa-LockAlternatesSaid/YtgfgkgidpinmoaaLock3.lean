/-
  LOCKS, THE WALKS: Unlock, Pause, Resume, Close.
-/
import Derived.Test.YtgfgkgidpinmoaaProg
import Derived.Test.YtgfgkgidpinmoaaBase3
import Derived.Test.YtgfgkgidpinmoaaBase5
import Derived.Test.YtgfgkgidpinmoaaBase6
import Derived.Test.YtgfgkgidpinmoaaBase7
import Derived.Test.YtgfgkgidpinmoaaBase14
import Derived.Test.YtgfgkgidpinmoaaTokP
import Derived.Test.YtgfgkgidpinmoaaTok1
import Derived.Test.YtgfgkgidpinmoaaTok2
import Derived.Test.YtgfgkgidpinmoaaTok3
import Derived.Test.YtgfgkgidpinmoaaLockP
import Derived.Test.YtgfgkgidpinmoaaLock1
import Derived.Test.YtgfgkgidpinmoaaLock2
import Derived.Test.YtgfgkgidpinmoaaHeld
import Derived.BigQuiet
import Derived.Laws.StructEq
import Derived.StillTailTactics
import Derived.RegionTactic
import Derived.BigRegion
import Derived.Deep.DeepCutAuto
import Derived.Deep.QuietTactic
import Derived.WalkSpells
import Derived.WalkLawsBesides
namespace Go.Proofs.Ytgfgkgidpinmoaa
open Go.RowKit
set_option linter.unusedVariables false

def LS.pause (s : LS) (local_ : Int) : LS × Int := if s.state ≠ 2 then (s, 12) else s.report local_ 5 0 0 0 3
def LS.resume (s : LS) (local_ : Int) : LS × Int := if s.state ≠ 3 then (s, 12) else s.report local_ 6 0 0 0 2
def LS.close (s : LS) (place local_ : Int) : LS × Int := if s.state ≠ 2 then (s, 12) else if place < 0 ∨ 64 ≤ place then (s, 1) else s.report local_ 2 place 0 0 1
theorem lkRet_noop {g : Nat} {v : Value} {W W' : World} {s : LS} {r : LS × Int} {e : Int} (hr : r = (s, e)) (h : Hid (LockAt W g v s)) (hb : Below W.heap.size W W') : LkRet g v W r (.returned (.int .i64 e)) W' := lkRet_err hr h hb
/-- A report as the walk spells it. -/
theorem report_s {g : Nat} {v : Value} {s : LS} {local_ kind place rider ride st : Int} {w : World} {T : LS × Int} (h : Hid (LockAt w g v s)) (hn : s.reps.length ≤ 512) (hT : Hid (s.report local_ kind place rider ride st = T)) :
    Calls Try.prog 84 #[.pointer (some ⟨g, 0, none⟩), .agg #[.int .i64 0, .int .i64 local_, .int .i64 kind, .int .i64 place, .int .i64 rider, .int .i64 ride], .int .i64 st] w (LkRet g v w T) := by
  have := report_any (g := g) (v := v) (s := s) 0 local_ kind place rider ride st w h hn
  rw [hT.out] at this
  exact this

set_option maxRecDepth 100000 in
set_option maxHeartbeats 2000000 in
theorem pause_any {g : Nat} {v : Value} {s : LS} (local_ : Int) (w : World) (h : Hid (LockAt w g v s)) (hn : s.reps.length ≤ 512) :
    Calls Try.prog 55 #[.pointer (some ⟨g, 0, none⟩), .int .i64 local_] w (LkRet g v w (s.pause local_)) := by
  obtain ⟨T, hT⟩ : ∃ T, s.pause local_ = T := ⟨_, rfl⟩
  rw [hT]
  unfold LS.pause at hT
  by_cases h1 : s.state = 2
  · rw [if_neg (fun h => h h1)] at hT
    have HT := Lib.hid hT
    clear hT
    have hcan := fun w' hw => can_yes (g := g) (v := v) (s := s) 2 w' hw h1
    have HCAN := Lib.hid hcan
    clear hcan h1
    go_enter Try.func55, Try.ntmps55
    go_wp2_with fail
    refine (HCAN.out _ h).mono ?_
    rintro e w1 ⟨rfl, rfl⟩
    go_wp2_with fail
    refine (report_s h hn HT).mono ?_
    rintro e w2 ⟨rfl, hr⟩
    have HR := Lib.hid hr
    clear hr
    go_wp2
    go_ret
    exact ⟨rfl, HR.out⟩
  · rw [if_pos h1] at hT
    have HT := Lib.hid hT
    clear hT
    have hcan := fun w' hw => can_no (g := g) (v := v) (s := s) 2 w' hw h1
    have HCAN := Lib.hid hcan
    clear hcan h1
    go_enter Try.func55, Try.ntmps55
    go_wp2_with fail
    refine (HCAN.out _ h).mono ?_
    rintro e w1 ⟨rfl, rfl⟩
    go_wp2
    go_ret
    exact lkRet_err HT.out.symm h (Below.refl _ _)

set_option maxRecDepth 100000 in
set_option maxHeartbeats 2000000 in
theorem resume_any {g : Nat} {v : Value} {s : LS} (local_ : Int) (w : World) (h : Hid (LockAt w g v s)) (hn : s.reps.length ≤ 512) :
    Calls Try.prog 56 #[.pointer (some ⟨g, 0, none⟩), .int .i64 local_] w (LkRet g v w (s.resume local_)) := by
  obtain ⟨T, hT⟩ : ∃ T, s.resume local_ = T := ⟨_, rfl⟩
  rw [hT]
  unfold LS.resume at hT
  by_cases h1 : s.state = 3
  · rw [if_neg (fun h => h h1)] at hT
    have HT := Lib.hid hT
    clear hT
    have hcan := fun w' hw => can_yes (g := g) (v := v) (s := s) 3 w' hw h1
    have HCAN := Lib.hid hcan
    clear hcan h1
    go_enter Try.func56, Try.ntmps56
    go_wp2_with fail
    refine (HCAN.out _ h).mono ?_
    rintro e w1 ⟨rfl, rfl⟩
    go_wp2_with fail
    refine (report_s h hn HT).mono ?_
    rintro e w2 ⟨rfl, hr⟩
    have HR := Lib.hid hr
    clear hr
    go_wp2
    go_ret
    exact ⟨rfl, HR.out⟩
  · rw [if_pos h1] at hT
    have HT := Lib.hid hT
    clear hT
    have hcan := fun w' hw => can_no (g := g) (v := v) (s := s) 3 w' hw h1
    have HCAN := Lib.hid hcan
    clear hcan h1
    go_enter Try.func56, Try.ntmps56
    go_wp2_with fail
    refine (HCAN.out _ h).mono ?_
    rintro e w1 ⟨rfl, rfl⟩
    go_wp2
    go_ret
    exact lkRet_err HT.out.symm h (Below.refl _ _)

set_option maxRecDepth 100000 in
set_option maxHeartbeats 2000000 in
theorem close_any {g : Nat} {v : Value} {s : LS} (place local_ : Int) (w : World) (h : Hid (LockAt w g v s)) (hn : s.reps.length ≤ 512) :
    Calls Try.prog 53 #[.pointer (some ⟨g, 0, none⟩), .int .i64 place, .int .i64 local_] w (LkRet g v w (s.close place local_)) := by
  obtain ⟨T, hT⟩ : ∃ T, s.close place local_ = T := ⟨_, rfl⟩
  rw [hT]
  unfold LS.close at hT
  by_cases h1 : s.state = 2
  · rw [if_neg (fun h => h h1)] at hT
    have hcan := fun w' hw => can_yes (g := g) (v := v) (s := s) 2 w' hw h1
    have HCAN := Lib.hid hcan
    clear hcan h1
    by_cases q1 : place < 0
    · rw [if_pos (.inl q1)] at hT
      have HT := Lib.hid hT
      clear hT
      go_enter Try.func53, Try.ntmps53
      go_wp2_with fail
      refine (HCAN.out _ h).mono ?_
      rintro e w1 ⟨rfl, rfl⟩
      go_wp2
      go_ret
      exact lkRet_err HT.out.symm h (Below.refl _ _)
    · by_cases q2 : 64 ≤ place
      · rw [if_pos (.inr q2)] at hT
        have HT := Lib.hid hT
        clear hT
        go_enter Try.func53, Try.ntmps53
        go_wp2_with fail
        refine (HCAN.out _ h).mono ?_
        rintro e w1 ⟨rfl, rfl⟩
        go_wp2
        go_ret
        exact lkRet_err HT.out.symm h (Below.refl _ _)
      · rw [if_neg (fun h => h.elim q1 q2)] at hT
        have HT := Lib.hid hT
        clear hT
        go_enter Try.func53, Try.ntmps53
        go_wp2_with fail
        refine (HCAN.out _ h).mono ?_
        rintro e w1 ⟨rfl, rfl⟩
        go_wp2_with fail
        refine (report_s h hn HT).mono ?_
        rintro e w2 ⟨rfl, hr⟩
        have HR := Lib.hid hr
        clear hr
        go_wp2
        go_ret
        exact ⟨rfl, HR.out⟩
  · rw [if_pos h1] at hT
    have HT := Lib.hid hT
    clear hT
    have hcan := fun w' hw => can_no (g := g) (v := v) (s := s) 2 w' hw h1
    have HCAN := Lib.hid hcan
    clear hcan h1
    go_enter Try.func53, Try.ntmps53
    go_wp2_with fail
    refine (HCAN.out _ h).mono ?_
    rintro e w1 ⟨rfl, rfl⟩
    go_wp2
    go_ret
    exact lkRet_err HT.out.symm h (Below.refl _ _)
end Go.Proofs.Ytgfgkgidpinmoaa
