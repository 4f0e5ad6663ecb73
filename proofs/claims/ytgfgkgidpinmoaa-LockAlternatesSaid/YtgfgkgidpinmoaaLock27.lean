/-
  LOCKS, THE LAWS: LockAlternates: the plain law; follows, after.
-/
import Derived.Test.YtgfgkgidpinmoaaProg
import Derived.Test.YtgfgkgidpinmoaaBase3
import Derived.Test.YtgfgkgidpinmoaaBase5
import Derived.Test.YtgfgkgidpinmoaaBase6
import Derived.Test.YtgfgkgidpinmoaaBase7
import Derived.Test.YtgfgkgidpinmoaaBase14
import Derived.Test.YtgfgkgidpinmoaaTok1
import Derived.Test.YtgfgkgidpinmoaaTok3
import Derived.Test.YtgfgkgidpinmoaaLockP
import Derived.Test.YtgfgkgidpinmoaaLock1
import Derived.Test.YtgfgkgidpinmoaaLock2
import Derived.Test.YtgfgkgidpinmoaaLock3
import Derived.Test.YtgfgkgidpinmoaaLock4
import Derived.Test.YtgfgkgidpinmoaaLock5
import Derived.Test.YtgfgkgidpinmoaaLock6
import Derived.Test.YtgfgkgidpinmoaaLockQ
import Derived.Test.YtgfgkgidpinmoaaLock9
import Derived.Test.YtgfgkgidpinmoaaLock19
import Derived.Test.YtgfgkgidpinmoaaHeld
import Derived.BigQuiet
import Derived.Laws.StructEq
import Derived.StillTailTactics
import Derived.RegionTactic
import Derived.BigRegion
import Derived.Deep.RegionHeld3
import Derived.Deep.DeepCutAuto
import Derived.Deep.QuietTactic
import Derived.WalkSpells
import Derived.WalkLawsBesides
namespace Go.Proofs.Ytgfgkgidpinmoaa
open Go.RowKit
set_option linter.unusedVariables false

theorem follows_0_3 (w : World) : Calls Try.prog 50 #[.int .i64 0, .int .i64 3] w (fun e W' => e = .returned (.bool true) ∧ W' = w) := by
  go_enter Try.func50, Try.ntmps50
  go_wp2
  go_ret
  exact ⟨rfl, rfl⟩
theorem follows_2_3 (w : World) : Calls Try.prog 50 #[.int .i64 2, .int .i64 3] w (fun e W' => e = .returned (.bool true) ∧ W' = w) := by
  go_enter Try.func50, Try.ntmps50
  go_wp2
  go_ret
  exact ⟨rfl, rfl⟩
theorem follows_3_5 (w : World) : Calls Try.prog 50 #[.int .i64 3, .int .i64 5] w (fun e W' => e = .returned (.bool true) ∧ W' = w) := by
  go_enter Try.func50, Try.ntmps50
  go_wp2
  go_ret
  exact ⟨rfl, rfl⟩
theorem follows_3_2 (w : World) : Calls Try.prog 50 #[.int .i64 3, .int .i64 2] w (fun e W' => e = .returned (.bool true) ∧ W' = w) := by
  go_enter Try.func50, Try.ntmps50
  go_wp2
  go_ret
  exact ⟨rfl, rfl⟩
theorem follows_6_5 (w : World) : Calls Try.prog 50 #[.int .i64 6, .int .i64 5] w (fun e W' => e = .returned (.bool true) ∧ W' = w) := by
  go_enter Try.func50, Try.ntmps50
  go_wp2
  go_ret
  exact ⟨rfl, rfl⟩
theorem follows_6_2 (w : World) : Calls Try.prog 50 #[.int .i64 6, .int .i64 2] w (fun e W' => e = .returned (.bool true) ∧ W' = w) := by
  go_enter Try.func50, Try.ntmps50
  go_wp2
  go_ret
  exact ⟨rfl, rfl⟩
theorem follows_5_6 (w : World) : Calls Try.prog 50 #[.int .i64 5, .int .i64 6] w (fun e W' => e = .returned (.bool true) ∧ W' = w) := by
  go_enter Try.func50, Try.ntmps50
  go_wp2
  go_ret
  exact ⟨rfl, rfl⟩
theorem after_0 (w : World) : Calls Try.prog 51 #[.int .i64 0] w (fun e W' => e = .returned (.int .i64 1) ∧ W' = w) := by
  go_enter Try.func51, Try.ntmps51
  go_wp2
  go_ret
  exact ⟨rfl, rfl⟩
theorem after_2 (w : World) : Calls Try.prog 51 #[.int .i64 2] w (fun e W' => e = .returned (.int .i64 1) ∧ W' = w) := by
  go_enter Try.func51, Try.ntmps51
  go_wp2
  go_ret
  exact ⟨rfl, rfl⟩
theorem after_5 (w : World) : Calls Try.prog 51 #[.int .i64 5] w (fun e W' => e = .returned (.int .i64 3) ∧ W' = w) := by
  go_enter Try.func51, Try.ntmps51
  go_wp2
  go_ret
  exact ⟨rfl, rfl⟩
theorem after_3 (w : World) : Calls Try.prog 51 #[.int .i64 3] w (fun e W' => e = .returned (.int .i64 2) ∧ W' = w) := by
  go_enter Try.func51, Try.ntmps51
  go_wp2
  go_ret
  exact ⟨rfl, rfl⟩
theorem after_6 (w : World) : Calls Try.prog 51 #[.int .i64 6] w (fun e W' => e = .returned (.int .i64 2) ∧ W' = w) := by
  go_enter Try.func51, Try.ntmps51
  go_wp2
  go_ret
  exact ⟨rfl, rfl⟩
def FollowOk (last kind : Int) : Prop := ((last = 0 ∨ last = 2) ∧ kind = 3) ∨ ((last = 3 ∨ last = 6) ∧ (kind = 5 ∨ kind = 2)) ∨ (last = 5 ∧ kind = 6)
def AfterOk (kind st : Int) : Prop := (st = 1 ∧ (kind = 0 ∨ kind = 2)) ∨ (st = 2 ∧ (kind = 3 ∨ kind = 6)) ∨ (st = 3 ∧ kind = 5)
theorem follows_any {last kind : Int} (h : FollowOk last kind) (w : World) : Calls Try.prog 50 #[.int .i64 last, .int .i64 kind] w (fun e W' => e = .returned (.bool true) ∧ W' = w) := by
  rcases h with ⟨rfl | rfl, rfl⟩ | ⟨rfl | rfl, rfl | rfl⟩ | ⟨rfl, rfl⟩
  · exact follows_0_3 w
  · exact follows_2_3 w
  · exact follows_3_5 w
  · exact follows_3_2 w
  · exact follows_6_5 w
  · exact follows_6_2 w
  · exact follows_5_6 w
theorem after_any {kind st : Int} (h : AfterOk kind st) (w : World) : Calls Try.prog 51 #[.int .i64 kind] w (fun e W' => e = .returned (.int .i64 st) ∧ W' = w) := by
  rcases h with ⟨rfl, rfl | rfl⟩ | ⟨rfl, rfl | rfl⟩ | ⟨rfl, rfl⟩
  · exact after_0 w
  · exact after_2 w
  · exact after_3 w
  · exact after_6 w
  · exact after_5 w
def lastKind (l : List Rep) : Int := (l.getD (l.length - 1) (0, 0, 0, 0, 0, 0)).2.2.1
theorem lastKind_snoc (l : List Rep) (x : Rep) : lastKind (l ++ [x]) = x.2.2.1 := by
  unfold lastKind
  simp [List.getD]
theorem lastLoc_snoc (l : List Rep) (x : Rep) : lastLocal (l ++ [x]) = x.2.1 := by
  unfold lastLocal
  simp [List.getD]
/-- What holds of a lock after any calls. -/
structure AltS (bk : Int) (x y : BitVec 64) (s : LS) : Prop where
  b : s.bike = bk
  ka : s.ka = x
  kb : s.kb = y
  af : AfterOk (lastKind s.reps) s.state
  l0 : 0 ≤ lastLocal s.reps
theorem alt_new (bk : Int) (x y : BitVec 64) : AltS bk x y ⟨bk, x, y, 1, 0, []⟩ := ⟨rfl, rfl, rfl, .inl ⟨rfl, .inl rfl⟩, Int.le_refl 0⟩
/-- A call that succeeds, told for the statement. -/
structure AltT (bk : Int) (x y : BitVec 64) (s : LS) (o : OpL) (s' : LS) (kind place rider ride : Int) : Prop where
  reps : s'.reps = s.reps ++ [((s.reps.length : Int) + 1, o.loc, kind, place, rider, ride)]
  ord : ¬ o.loc < lastLocal s.reps
  room : s.reps.length < 512
  fo : FollowOk (lastKind s.reps) kind
  alt : AltS bk x y s'
  start : kind = 3 → o.kind = 0 ∧ s.last < o.n ∧ gen x y o.b o.r o.d o.f o.t o.n o.tag = true ∧ o.b = bk ∧ rider = o.r ∧ ride = o.d ∧ s'.last = o.n
  other : kind ≠ 3 → s'.last = s.last
theorem use_zero {ka kb : BitVec 64} {b r d f t n : Int} {g : BitVec 64} {bike lo hi last : Int} (h : usable ka kb b r d f t n g bike lo hi last = 0) : gen ka kb b r d f t n g = true ∧ b = bike ∧ last < n := by
  unfold usable at h
  by_cases h1 : gen ka kb b r d f t n g = false
  · rw [if_pos h1] at h; exact absurd h (by decide)
  · rw [if_neg h1] at h
    by_cases h2 : b ≠ bike
    · rw [if_pos h2] at h; exact absurd h (by decide)
    · rw [if_neg h2] at h
      by_cases h3 : n ≤ last
      · rw [if_pos h3] at h; exact absurd h (by decide)
      · exact ⟨by simpa using h1, Decidable.of_not_not h2, by omega⟩
theorem alt_ok {bk : Int} {x y : BitVec 64} {s : LS} {o : OpL} (ha : AltS bk x y s) (h : (s.turn o).2 = 0) : ∃ kind place rider ride, AltT bk x y s o (s.turn o).1 kind place rider ride := by
  obtain ⟨kind, place, rider, ride, st, lst, q, hw⟩ := turn_ok h
  have hord : ¬ o.loc < lastLocal s.reps := by
    by_cases h0 : 0 < s.reps.length
    · have := q.ord h0; omega
    · have : s.reps = [] := List.eq_nil_of_length_eq_zero (by omega)
      have h1 := q.l0
      rw [this]
      show ¬ o.loc < 0
      omega
  have haf := ha.af
  have hk : lastKind (s.turn o).1.reps = kind := by rw [q.eq]; exact lastKind_snoc _ _
  have hl : lastLocal (s.turn o).1.reps = o.loc := by rw [q.eq]; exact lastLoc_snoc _ _
  have hst : (s.turn o).1.state = st := by rw [q.eq]
  have hla : (s.turn o).1.last = lst := by rw [q.eq]
  have hal : AfterOk kind st → AltS bk x y (s.turn o).1 := fun h => ⟨by rw [q.eq]; exact ha.b, by rw [q.eq]; exact ha.ka, by rw [q.eq]; exact ha.kb, by rw [hk, hst]; exact h, by rw [hl]; exact q.l0⟩
  refine ⟨kind, place, rider, ride, by rw [q.eq], hord, q.room, ?_, hal ?_, fun h3 => ?_, fun h3 => ?_⟩
  · unfold AfterOk at haf
    unfold FollowOk
    rcases hw with ⟨_, h1, rfl, _⟩ | ⟨rfl, h1, _⟩ | ⟨rfl, h1, _⟩ | ⟨rfl, h1, _⟩ <;> omega
  · unfold AfterOk
    rcases hw with ⟨_, _, rfl, rfl, _⟩ | ⟨rfl, _, rfl, _⟩ | ⟨rfl, _, rfl, _⟩ | ⟨rfl, _, rfl, _⟩ <;> omega
  · rcases hw with ⟨h0, _, _, _, hr, hd, hl, hu⟩ | ⟨rfl, _⟩ | ⟨rfl, _⟩ | ⟨rfl, _⟩
    · obtain ⟨u1, u2, u3⟩ := use_zero hu
      rw [ha.ka, ha.kb] at u1
      exact ⟨h0, u3, u1, by rw [u2, ha.b], hr, hd, by rw [hla, hl]⟩
    all_goals exact absurd h3 (by decide)
  · rcases hw with ⟨_, _, rfl, _⟩ | ⟨rfl, _, _, hl⟩ | ⟨rfl, _, _, hl⟩ | ⟨rfl, _, _, hl⟩
    · exact absurd rfl h3
    all_goals rw [hla, hl]
end Go.Proofs.Ytgfgkgidpinmoaa
