/-
  LOCKS, THE PLAIN LAW: the calls; what a call that succeeds has done; the reference's lock as a value.
-/
import Derived.Test.YtpmjgiabedjlgaaLockP
import Derived.Test.YtpmjgiabedjlgaaLock3
import Derived.Test.YtpmjgiabedjlgaaLock4
namespace Go.Proofs.Ytpmjgiabedjlgaa
open Go.RowKit
set_option linter.unusedVariables false

/-- A call. -/
structure OpL where
  kind : UInt8
  b : Int
  r : Int
  d : Int
  f : Int
  t : Int
  n : Int
  tag : BitVec 64
  lo : Int
  hi : Int
  place : Int
  loc : Int
def OpL.zero : OpL := ⟨0, 0, 0, 0, 0, 0, 0, 0, 0, 0, 0, 0⟩
/-- A call of a lock. -/
def LS.turn (s : LS) (o : OpL) : LS × Int :=
  if o.kind = 0 then s.unlock o.b o.r o.d o.f o.t o.n o.tag o.lo o.hi o.loc else if o.kind = 1 then s.pause o.loc else if o.kind = 2 then s.resume o.loc else s.close o.place o.loc
/-- A report that was added. -/
structure Added (s s' : LS) (l kind place rider ride st lst : Int) : Prop where
  eq : s' = { s with state := st, last := lst, reps := s.reps ++ [((s.reps.length : Int) + 1, l, kind, place, rider, ride)] }
  l0 : 0 ≤ l
  l1 : l ≤ 4294943999
  ord : 0 < s.reps.length → lastLocal s.reps ≤ l
  room : s.reps.length < 512
theorem report_ok {s : LS} {a b c d e f : Int} (h : (s.report a b c d e f).2 = 0) : Added s (s.report a b c d e f).1 a b c d e f s.last := by
  unfold LS.report at h ⊢
  by_cases h1 : a < 0 ∨ 4294943999 < a
  · rw [if_pos h1] at h; cases h
  · rw [if_neg h1] at h ⊢
    by_cases h2 : 0 < s.reps.length ∧ a < lastLocal s.reps
    · rw [if_pos h2] at h; cases h
    · rw [if_neg h2] at h ⊢
      by_cases h3 : 512 ≤ s.reps.length
      · rw [if_pos h3] at h; cases h
      · rw [if_neg h3]
        exact ⟨rfl, by omega, by omega, fun h => by omega, by omega⟩
theorem unlock_err {s : LS} {b r d f t n : Int} {tag : BitVec 64} {lo hi l : Int} (h : (s.unlock b r d f t n tag lo hi l).2 ≠ 0) : (s.unlock b r d f t n tag lo hi l).1 = s := by
  unfold LS.unlock at h ⊢
  split
  · rfl
  · rename_i h1
    rw [if_neg h1] at h
    split
    · rfl
    · rename_i h2
      rw [if_neg h2] at h
      split
      · rfl
      · rename_i h3
        rw [if_neg h3] at h
        exact absurd rfl h
theorem unlock_ok {s : LS} {b r d f t n : Int} {tag : BitVec 64} {lo hi l : Int} (h : (s.unlock b r d f t n tag lo hi l).2 = 0) :
    s.state = 1 ∧ usable s.ka s.kb b r d f t n tag s.bike lo hi s.last = 0 ∧ Added s (s.unlock b r d f t n tag lo hi l).1 l 3 0 r d 2 n := by
  unfold LS.unlock at h ⊢
  by_cases h1 : s.state ≠ 1
  · rw [if_pos h1] at h; cases h
  · rw [if_neg h1] at h ⊢
    by_cases h2 : usable s.ka s.kb b r d f t n tag s.bike lo hi s.last ≠ 0
    · rw [if_pos h2] at h; exact absurd h h2
    · rw [if_neg h2] at h ⊢
      by_cases h3 : (s.report l 3 0 r d 2).2 ≠ 0
      · rw [if_pos h3] at h; exact absurd h h3
      · rw [if_neg h3]
        have q := report_ok (s := s) (a := l) (b := 3) (c := 0) (d := r) (e := d) (f := 2) (Decidable.of_not_not h3)
        refine ⟨Decidable.of_not_not h1, Decidable.of_not_not h2, ?_, q.l0, q.l1, q.ord, q.room⟩
        show ({ (s.report l 3 0 r d 2).1 with last := n } : LS) = _
        rw [q.eq]
/-- After any calls. -/
def LS.run (s : LS) (l : List OpL) : LS := l.foldl (fun s o => (s.turn o).1) s
end Go.Proofs.Ytpmjgiabedjlgaa
