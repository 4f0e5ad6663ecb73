/-
  LOCKS, THE LAWS: a lock and any blocks besides; contracts.
-/
import Derived.Test.YtpmjgiabedjlgaaProg
import Derived.Test.YtpmjgiabedjlgaaBase7
import Derived.Test.YtpmjgiabedjlgaaLockP
import Derived.Test.YtpmjgiabedjlgaaLock3
import Derived.Test.YtpmjgiabedjlgaaLock4
import Derived.Test.YtpmjgiabedjlgaaLock5
import Derived.Test.YtpmjgiabedjlgaaLock6
import Derived.Test.YtpmjgiabedjlgaaLockQ
import Derived.Test.YtpmjgiabedjlgaaBase14
import Derived.Test.YtpmjgiabedjlgaaTok1
import Derived.BigQuiet
import Derived.Laws.StructEq
import Derived.StillTailTactics
import Derived.RegionTactic
import Derived.BigRegion
import Derived.Deep.RegionHeld3
import Derived.Deep.DeepCutAuto
import Derived.Deep.QuietTactic
import Derived.WalkSpells
import Derived.WalkLawsBesides
import Derived.Test.YtpmjgiabedjlgaaLock14
namespace Go.Proofs.Ytpmjgiabedjlgaa
open Go.RowKit
set_option linter.unusedVariables false

/-- A lock and blocks that are none of its own. -/
structure LkB (w : World) (g : Nat) (L : List (Nat × Array Value)) (s : LS) (v : Value) (W : World) : Prop where
  l : LockAt W g v s
  bs : ∀ p ∈ L, BlkAt W p.1 p.2 ∧ p.1 ≠ g ∧ some p.1 ≠ v.ownBlock
  lo : Below w.heap.size w W
  hg : w.heap.size ≤ g
  hn : s.reps.length ≤ 512
theorem report_len (s : LS) (a b c d e f : Int) (h : s.reps.length ≤ 512) : (s.report a b c d e f).1.reps.length ≤ 512 := by
  by_cases he : (s.report a b c d e f).2 = 0
  · have q := report_ok he
    rw [q.eq]
    have := q.room
    simp
    omega
  · rw [report_err he]; exact h
theorem unlock_len {s : LS} {b r d f t n : Int} {tag : BitVec 64} {lo hi l : Int} (h : s.reps.length ≤ 512) : (s.unlock b r d f t n tag lo hi l).1.reps.length ≤ 512 := by
  by_cases he : (s.unlock b r d f t n tag lo hi l).2 = 0
  · obtain ⟨_, _, q⟩ := unlock_ok he
    rw [q.eq]
    have := q.room
    simp
    omega
  · rw [unlock_err he]; exact h
section
variable {w W W' : World} {g : Nat} {L : List (Nat × Array Value)} {s s' : LS} {v : Value} {e : Int}
theorem lbBelow (hb : Below W.heap.size W W') (h : Hid (LkB w g L s v W)) : Hid (LkB w g L s v W') :=
  ⟨h.out.l.below hb, fun p hp => ⟨blkBelow hb (h.out.bs p hp).1, (h.out.bs p hp).2⟩, below_step h.out.lo hb, h.out.hg, h.out.hn⟩
theorem lbTurn {r : LS × Int} {x : Ending} (h : Hid (LkB w g L s v W)) (hr : LkRet g v W r x W') (hlen : r.1.reps.length ≤ 512) : ∃ v', Hid (LkB w g L r.1 v' W') ∧ Hid (Fr g v W W' ∧ Fresh W v v' ∧ (r.2 ≠ 0 → v' = v ∧ Below W.heap.size W W')) := by
  obtain ⟨_, v', h1, h2, h3, h4⟩ := hr
  have hg := h.out.hg
  have hgl := h.out.l.lt.1
  refine ⟨v', ⟨h1, fun p hp => ?_, Fr.below h.out.lo h2 hg (fun k hk => by have := own_low6 h.out.l.2 hk; omega) (by omega), hg, hlen⟩, h2, h3, h4⟩
  obtain ⟨b1, b2, b3⟩ := h.out.bs p hp
  refine ⟨h2.blk b1 b2 b3, b2, fun e => ?_⟩
  have hpl : p.1 < W.heap.size := b1.elim fun E hE => (Array.getElem?_eq_some_iff.1 hE).1
  rcases h3 p.1 e.symm with q | q
  · exact b3 q.symm
  · omega
/-- One block more. -/
theorem lbAdd {k : Nat} {C : Array Value} (h : Hid (LkB w g L s v W)) (hb : Below W.heap.size W W') (hk : BlkAt W' k C) (hf : W.heap.size ≤ k) : Hid (LkB w g ((k, C) :: L) s v W') := by
  have h' := lbBelow hb h
  have hgl := h.out.l.lt
  refine ⟨h'.out.l, fun p hp => ?_, h'.out.lo, h'.out.hg, h'.out.hn⟩
  rcases List.mem_cons.1 hp with rfl | hp
  · exact ⟨hk, by dsimp only; omega, fun e => by have := hgl.2 _ e.symm; dsimp only at this; omega⟩
  · exact h'.out.bs p hp
theorem unlock_lb {b r d f t n : Int} {tag : BitVec 64} {lo hi loc : Int} (h : Hid (LkB w g L s v W)) (hT : s.unlock b r d f t n tag lo hi loc = (s', e)) : Calls Try.prog 27 #[.pointer (some ⟨g, 0, none⟩), .agg #[.int .i64 b, .int .i64 r, .int .i64 d, .int .i64 f, .int .i64 t, .int .i64 n, u64 tag], .agg #[.int .i64 lo, .int .i64 hi], .int .i64 loc] W (fun e' W' => e' = .returned (.int .i64 e) ∧ ∃ v', Hid (LkB w g L s' v' W')) := by
  refine (unlock_any (v := v) (s := s) b r d f t n tag lo hi loc W h.out.l h.out.hn).mono fun e' W' hr => ?_
  have hlen := unlock_len (s := s) (b := b) (r := r) (d := d) (f := f) (t := t) (n := n) (tag := tag) (lo := lo) (hi := hi) (l := loc) h.out.hn
  rw [hT] at hr hlen
  obtain ⟨v', h1, _⟩ := lbTurn h hr hlen
  exact ⟨hr.1, v', h1⟩
theorem pause_lb {loc : Int} (h : Hid (LkB w g L s v W)) (hT : s.pause loc = (s', e)) : Calls Try.prog 28 #[.pointer (some ⟨g, 0, none⟩), .int .i64 loc] W (fun e' W' => e' = .returned (.int .i64 e) ∧ ∃ v', Hid (LkB w g L s' v' W')) := by
  refine (pause_any (v := v) (s := s) loc W h.out.l h.out.hn).mono fun e' W' hr => ?_
  have hlen : (s.pause loc).1.reps.length ≤ 512 := by
    unfold LS.pause; split
    · exact h.out.hn
    · exact report_len _ _ _ _ _ _ _ h.out.hn
  rw [hT] at hr hlen
  obtain ⟨v', h1, _⟩ := lbTurn h hr hlen
  exact ⟨hr.1, v', h1⟩
theorem resume_lb {loc : Int} (h : Hid (LkB w g L s v W)) (hT : s.resume loc = (s', e)) : Calls Try.prog 29 #[.pointer (some ⟨g, 0, none⟩), .int .i64 loc] W (fun e' W' => e' = .returned (.int .i64 e) ∧ ∃ v', Hid (LkB w g L s' v' W')) := by
  refine (resume_any (v := v) (s := s) loc W h.out.l h.out.hn).mono fun e' W' hr => ?_
  have hlen : (s.resume loc).1.reps.length ≤ 512 := by
    unfold LS.resume; split
    · exact h.out.hn
    · exact report_len _ _ _ _ _ _ _ h.out.hn
  rw [hT] at hr hlen
  obtain ⟨v', h1, _⟩ := lbTurn h hr hlen
  exact ⟨hr.1, v', h1⟩
theorem close_lb {place loc : Int} (h : Hid (LkB w g L s v W)) (hT : s.close place loc = (s', e)) : Calls Try.prog 30 #[.pointer (some ⟨g, 0, none⟩), .int .i64 place, .int .i64 loc] W (fun e' W' => e' = .returned (.int .i64 e) ∧ ∃ v', Hid (LkB w g L s' v' W')) := by
  refine (close_any (v := v) (s := s) place loc W h.out.l h.out.hn).mono fun e' W' hr => ?_
  have hlen : (s.close place loc).1.reps.length ≤ 512 := by
    unfold LS.close; split
    · exact h.out.hn
    · split
      · exact h.out.hn
      · exact report_len _ _ _ _ _ _ _ h.out.hn
  rw [hT] at hr hlen
  obtain ⟨v', h1, _⟩ := lbTurn h hr hlen
  exact ⟨hr.1, v', h1⟩
theorem reports_lb (h : Hid (LkB w g L s v W)) : Calls Try.prog 31 #[.pointer (some ⟨g, 0, none⟩)] W (fun e W' => ∃ a c, e = .returned (.slice a s.reps.length c) ∧ Hid (Sl W' 6 a s.reps.length c (rcs s.reps)) ∧ Hid (W'.ownsRow W.heap.size 45 6 (.slice a s.reps.length c) s.reps.length (rcs s.reps)) ∧ Hid (LkB w g L s v W') ∧ Hid (Below W.heap.size W W')) := by
  refine (reports_any W h.out.l h.out.hn).mono ?_
  rintro e W' ⟨v', rfl, ho, hb⟩
  obtain ⟨a, c, rfl, hs⟩ := sl_of_own ho.out
  exact ⟨a, c, rfl, hs, ho, lbBelow hb h, hb⟩
end
end Go.Proofs.Ytpmjgiabedjlgaa
