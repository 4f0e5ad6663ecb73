/-
  LOCKS, THE PLAIN LAW: the calls; what a call that succeeds has done; the reference's lock as a value.
-/
import Derived.Test.YtgfgkgidpinmoaaLockP
import Derived.Test.YtgfgkgidpinmoaaLock3
import Derived.Test.YtgfgkgidpinmoaaLock4
namespace Go.Proofs.Ytgfgkgidpinmoaa
open Go.RowKit
set_option linter.unusedVariables false

/-- A call. -/
structure OpL where
  kind : UInt8
  b : Int
  r : Int
  d : Int
  f : Int
  t : Int
  n : Int
  tag : BitVec 64
  lo : Int
  hi : Int
  place : Int
  loc : Int
def opA (o : OpL) : Array Value := #[b8 o.kind, .int .i64 o.b, .int .i64 o.r, .int .i64 o.d, .int .i64 o.f, .int .i64 o.t, .int .i64 o.n, u64 o.tag, .int .i64 o.lo, .int .i64 o.hi, .int .i64 o.place, .int .i64 o.loc]
def ocs (l : List OpL) : List Value := l.flatMap fun x => (opA x).toList
def OpL.zero : OpL := ⟨0, 0, 0, 0, 0, 0, 0, 0, 0, 0, 0, 0⟩
theorem ocs_cons (x : OpL) (l : List OpL) : ocs (x :: l) = (opA x).toList ++ ocs l := by unfold ocs; simp
theorem ocs_get : ∀ (l : List OpL) (i j : Nat), i < l.length → j < 12 → (ocs l)[i * 12 + j]? = (opA (l.getD i OpL.zero))[j]?
  | [], i, j, h, _ => absurd h (by simp)
  | x :: l, 0, j, _, hj => by
    rw [ocs_cons, Nat.zero_mul, Nat.zero_add, List.getElem?_append_left (by simp [opA]; exact hj)]
    simp
  | x :: l, i + 1, j, h, hj => by
    rw [ocs_cons, List.getElem?_append_right (by simp [opA]; omega), show (i + 1) * 12 + j - (opA x).toList.length = i * 12 + j from by simp [opA]; omega]
    rw [ocs_get l i j (by simpa using h) hj]
    simp
/-- A call of a lock. -/
def LS.turn (s : LS) (o : OpL) : LS × Int :=
  if o.kind = 0 then s.unlock o.b o.r o.d o.f o.t o.n o.tag o.lo o.hi o.loc else if o.kind = 1 then s.pause o.loc else if o.kind = 2 then s.resume o.loc else s.close o.place o.loc
/-- The reference's lock. -/
abbrev rlkV (s : LS) (rv : Value) : Value := .agg #[.int .i64 s.bike, u64 s.ka, u64 s.kb, .int .i64 s.state, .int .i64 s.last, rv]
/-- What a call of the reference returns. -/
def RfRet (rv : Value) (s : LS) (W : World) (r : LS × Int) (e : Ending) (W' : World) : Prop :=
  ∃ ra rn rc, e = .returned (.tuple #[rlkV r.1 (.slice ra rn rc), .int .i64 r.2]) ∧ Below W.heap.size W W' ∧ (r.2 = 0 → W'.ownsRow W.heap.size 79 6 (.slice ra rn rc) r.1.reps.length (rcs r.1.reps)) ∧ (r.2 ≠ 0 → r.1 = s ∧ .slice ra rn rc = rv)

/-- A report that was added. -/
structure Added (s s' : LS) (l kind place rider ride st lst : Int) : Prop where
  eq : s' = { s with state := st, last := lst, reps := s.reps ++ [((s.reps.length : Int) + 1, l, kind, place, rider, ride)] }
  l0 : 0 ≤ l
  l1 : l ≤ 4294943999
  ord : 0 < s.reps.length → lastLocal s.reps ≤ l
  room : s.reps.length < 512
theorem report_ok {s : LS} {a b c d e f : Int} (h : (s.report a b c d e f).2 = 0) : Added s (s.report a b c d e f).1 a b c d e f s.last := by
  unfold LS.report at h ⊢
  by_cases h1 : a < 0 ∨ 4294943999 < a
  · rw [if_pos h1] at h; cases h
  · rw [if_neg h1] at h ⊢
    by_cases h2 : 0 < s.reps.length ∧ a < lastLocal s.reps
    · rw [if_pos h2] at h; cases h
    · rw [if_neg h2] at h ⊢
      by_cases h3 : 512 ≤ s.reps.length
      · rw [if_pos h3] at h; cases h
      · rw [if_neg h3]
        exact ⟨rfl, by omega, by omega, fun h => by omega, by omega⟩
theorem unlock_err {s : LS} {b r d f t n : Int} {tag : BitVec 64} {lo hi l : Int} (h : (s.unlock b r d f t n tag lo hi l).2 ≠ 0) : (s.unlock b r d f t n tag lo hi l).1 = s := by
  unfold LS.unlock at h ⊢
  split
  · rfl
  · rename_i h1
    rw [if_neg h1] at h
    split
    · rfl
    · rename_i h2
      rw [if_neg h2] at h
      split
      · rfl
      · rename_i h3
        rw [if_neg h3] at h
        exact absurd rfl h
theorem unlock_ok {s : LS} {b r d f t n : Int} {tag : BitVec 64} {lo hi l : Int} (h : (s.unlock b r d f t n tag lo hi l).2 = 0) :
    s.state = 1 ∧ usable s.ka s.kb b r d f t n tag s.bike lo hi s.last = 0 ∧ Added s (s.unlock b r d f t n tag lo hi l).1 l 3 0 r d 2 n := by
  unfold LS.unlock at h ⊢
  by_cases h1 : s.state ≠ 1
  · rw [if_pos h1] at h; cases h
  · rw [if_neg h1] at h ⊢
    by_cases h2 : usable s.ka s.kb b r d f t n tag s.bike lo hi s.last ≠ 0
    · rw [if_pos h2] at h; exact absurd h h2
    · rw [if_neg h2] at h ⊢
      by_cases h3 : (s.report l 3 0 r d 2).2 ≠ 0
      · rw [if_pos h3] at h; exact absurd h h3
      · rw [if_neg h3]
        have q := report_ok (s := s) (a := l) (b := 3) (c := 0) (d := r) (e := d) (f := 2) (Decidable.of_not_not h3)
        refine ⟨Decidable.of_not_not h1, Decidable.of_not_not h2, ?_, q.l0, q.l1, q.ord, q.room⟩
        show ({ (s.report l 3 0 r d 2).1 with last := n } : LS) = _
        rw [q.eq]
theorem turn_err {s : LS} {o : OpL} (h : (s.turn o).2 ≠ 0) : (s.turn o).1 = s := by
  unfold LS.turn at h ⊢
  by_cases h0 : o.kind = 0
  · rw [if_pos h0] at h ⊢; exact unlock_err h
  · rw [if_neg h0] at h ⊢
    by_cases h1 : o.kind = 1
    · rw [if_pos h1] at h ⊢
      unfold LS.pause at h ⊢
      split
      · rfl
      · rename_i q; rw [if_neg q] at h; exact report_err h
    · rw [if_neg h1] at h ⊢
      by_cases h2 : o.kind = 2
      · rw [if_pos h2] at h ⊢
        unfold LS.resume at h ⊢
        split
        · rfl
        · rename_i q; rw [if_neg q] at h; exact report_err h
      · rw [if_neg h2] at h ⊢
        unfold LS.close at h ⊢
        split
        · rfl
        · rename_i q; rw [if_neg q] at h
          split
          · rfl
          · rename_i q2; rw [if_neg q2] at h; exact report_err h
/-- The four ways of a call that succeeds. -/
theorem turn_ok {s : LS} {o : OpL} (h : (s.turn o).2 = 0) : ∃ kind place rider ride st lst, Added s (s.turn o).1 o.loc kind place rider ride st lst ∧
    ((o.kind = 0 ∧ s.state = 1 ∧ kind = 3 ∧ st = 2 ∧ rider = o.r ∧ ride = o.d ∧ lst = o.n ∧ usable s.ka s.kb o.b o.r o.d o.f o.t o.n o.tag s.bike o.lo o.hi s.last = 0) ∨
    (kind = 5 ∧ s.state = 2 ∧ st = 3 ∧ lst = s.last) ∨ (kind = 6 ∧ s.state = 3 ∧ st = 2 ∧ lst = s.last) ∨ (kind = 2 ∧ s.state = 2 ∧ st = 1 ∧ lst = s.last)) := by
  unfold LS.turn at h ⊢
  by_cases h0 : o.kind = 0
  · rw [if_pos h0] at h ⊢
    obtain ⟨h1, h2, h3⟩ := unlock_ok h
    exact ⟨_, _, _, _, _, _, h3, .inl ⟨h0, h1, rfl, rfl, rfl, rfl, rfl, h2⟩⟩
  · rw [if_neg h0] at h ⊢
    by_cases h1 : o.kind = 1
    · rw [if_pos h1] at h ⊢
      unfold LS.pause at h ⊢
      by_cases q : s.state ≠ 2
      · rw [if_pos q] at h; cases h
      · rw [if_neg q] at h ⊢
        exact ⟨_, _, _, _, _, _, report_ok h, .inr (.inl ⟨rfl, Decidable.of_not_not q, rfl, rfl⟩)⟩
    · rw [if_neg h1] at h ⊢
      by_cases h2 : o.kind = 2
      · rw [if_pos h2] at h ⊢
        unfold LS.resume at h ⊢
        by_cases q : s.state ≠ 3
        · rw [if_pos q] at h; cases h
        · rw [if_neg q] at h ⊢
          exact ⟨_, _, _, _, _, _, report_ok h, .inr (.inr (.inl ⟨rfl, Decidable.of_not_not q, rfl, rfl⟩))⟩
      · rw [if_neg h2] at h ⊢
        unfold LS.close at h ⊢
        by_cases q : s.state ≠ 2
        · rw [if_pos q] at h; cases h
        · rw [if_neg q] at h ⊢
          by_cases q2 : o.place < 0 ∨ 64 ≤ o.place
          · rw [if_pos q2] at h; cases h
          · rw [if_neg q2] at h ⊢
            exact ⟨_, _, _, _, _, _, report_ok h, .inr (.inr (.inr ⟨rfl, Decidable.of_not_not q, rfl, rfl⟩))⟩
theorem turn_len {s : LS} {o : OpL} (h : s.reps.length ≤ 512) : (s.turn o).1.reps.length ≤ 512 := by
  by_cases he : (s.turn o).2 = 0
  · obtain ⟨_, _, _, _, _, _, q, _⟩ := turn_ok he
    rw [q.eq]
    have := q.room
    simp
    omega
  · rw [turn_err he]; exact h
/-- After any calls. -/
def LS.run (s : LS) (l : List OpL) : LS := l.foldl (fun s o => (s.turn o).1) s
theorem run_len : ∀ (l : List OpL) (s : LS), s.reps.length ≤ 512 → (s.run l).reps.length ≤ 512
  | [], s, h => h
  | o :: l, s, h => run_len l (s.turn o).1 (turn_len h)
theorem take_snoc {α : Type} (l : List α) (k : Nat) (z : α) (h : k < l.length) : l.take (k + 1) = l.take k ++ [l.getD k z] := by
  rw [List.take_add_one, List.getElem?_eq_getElem h]
  simp [List.getD, h]
theorem run_snoc (s : LS) (l : List OpL) (k : Nat) (h : k < l.length) : s.run (l.take (k + 1)) = ((s.run (l.take k)).turn (l.getD k OpL.zero)).1 := by
  rw [take_snoc l k OpL.zero h]
  unfold LS.run
  rw [List.foldl_append]
  rfl
end Go.Proofs.Ytgfgkgidpinmoaa
