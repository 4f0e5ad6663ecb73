/-
  LOCKS, THE LAWS: what the walks without the reference keep, and their contracts.
-/
import Derived.Test.YtgfgkgidpinmoaaProg
import Derived.Test.YtgfgkgidpinmoaaBase3
import Derived.Test.YtgfgkgidpinmoaaLockP
import Derived.Test.YtgfgkgidpinmoaaLock1
import Derived.Test.YtgfgkgidpinmoaaLock2
import Derived.Test.YtgfgkgidpinmoaaLock4
import Derived.Test.YtgfgkgidpinmoaaLock5
import Derived.Test.YtgfgkgidpinmoaaLock6
import Derived.Test.YtgfgkgidpinmoaaLockQ
import Derived.Test.YtgfgkgidpinmoaaLock9
import Derived.Test.YtgfgkgidpinmoaaLock14
namespace Go.Proofs.Ytgfgkgidpinmoaa
open Go.RowKit
set_option linter.unusedVariables false

/-- A lock and the argument. -/
structure LkW (w : World) (g xb : Nat) (X : Array Value) (s : LS) (v : Value) (W : World) : Prop where
  l : LockAt W g v s
  x : BlkAt W xb X
  lo : Below w.heap.size w W
  hg : w.heap.size ≤ g
  hx : xb < g
  hn : s.reps.length ≤ 512
section
variable {w W W' : World} {g xb : Nat} {X : Array Value} {s : LS} {v : Value}
theorem lwBelow (hb : Below W.heap.size W W') (h : Hid (LkW w g xb X s v W)) : Hid (LkW w g xb X s v W') :=
  ⟨h.out.l.below hb, blkBelow hb h.out.x, below_step h.out.lo hb, h.out.hg, h.out.hx, h.out.hn⟩
theorem lwDrew (h : Hid (LkW w g xb X s v W)) : Hid (LkW w g xb X s v W.drew) :=
  ⟨(lkDrew h.out.l).out, blkDrew h.out.x, below_drew h.out.lo, h.out.hg, h.out.hx, h.out.hn⟩
theorem lwAlloc {o : Obj} (h : Hid (LkW w g xb X s v W)) : Hid (LkW w g xb X s v (W.alloc o)) := lwBelow (below_alloc _ _) h
/-- What a call leaves of a block that is none of the lock's. -/
theorem lwTurn {v' : Value} {r : LS × Int} (h : Hid (LkW w g xb X s v W)) (h1 : LockAt W' g v' r.1) (h2 : Fr g v W W') (hlen : r.1.reps.length ≤ 512) : Hid (LkW w g xb X r.1 v' W') := by
  have hx := h.out.hx
  have hg := h.out.hg
  have hgl := h.out.l.lt.1
  have hxv : some xb ≠ v.ownBlock := fun e => by have := own_low6 h.out.l.2 e.symm; omega
  exact ⟨h1, h2.blk h.out.x (by omega) hxv, Fr.below h.out.lo h2 hg (fun k hk => by have := own_low6 h.out.l.2 hk; omega) (by omega), hg, hx, hlen⟩
theorem do_lw {o : OpL} (h : Hid (LkW w g xb X s v W)) : Calls Try.prog 48 #[.pointer (some ⟨g, 0, none⟩), .agg (opA o)] W (fun e W' => e = .returned (.int .i64 (s.turn o).2) ∧ ∃ v', Hid (LkW w g xb X (s.turn o).1 v' W') ∧ Hid (Fr g v W W' ∧ Fresh W v v' ∧ ((s.turn o).2 ≠ 0 → Below W.heap.size W W'))) := by
  refine (do_any o W h.out.l h.out.hn).mono ?_
  rintro e W' ⟨rfl, v', h1, h2, h3, h4⟩
  exact ⟨rfl, v', lwTurn h h1 h2 (turn_len h.out.hn), h2, h3, fun he => (h4 he).2⟩
theorem state_lw (h : Hid (LkW w g xb X s v W)) : Calls Try.prog 45 #[.pointer (some ⟨g, 0, none⟩)] W (fun e W' => e = .returned (.int .i64 s.state) ∧ W' = W) := state_any W h.out.l
theorem last_lw (h : Hid (LkW w g xb X s v W)) : Calls Try.prog 43 #[.pointer (some ⟨g, 0, none⟩)] W (fun e W' => e = .returned (.int .i64 s.last) ∧ W' = W) := last_any W h.out.l
/-- A list of reports as it was returned. -/
def RepSl (W : World) (a : Option Addr) (n c : Nat) (l : List Rep) : Prop := Sl W 6 a n c (rcs l) ∧ l.length = n
theorem rsBelow {a : Option Addr} {n c : Nat} {l : List Rep} (hb : Below W.heap.size W W') (h : Hid (RepSl W a n c l)) : Hid (RepSl W' a n c l) := ⟨h.out.1.ext hb, h.out.2⟩
theorem reports_lw (h : Hid (LkW w g xb X s v W)) : Calls Try.prog 44 #[.pointer (some ⟨g, 0, none⟩)] W (fun e W' => ∃ a n c, e = .returned (.slice a n c) ∧ Hid (RepSl W' a n c s.reps) ∧ Hid (W'.ownsRow W.heap.size 79 6 (.slice a n c) s.reps.length (rcs s.reps)) ∧ Hid (LkW w g xb X s v W') ∧ Hid (Below W.heap.size W W')) := by
  refine (reports_any W h.out.l h.out.hn).mono ?_
  rintro e W' ⟨v', rfl, ho, hb⟩
  obtain ⟨a, c, rfl, hs⟩ := sl_of_own ho.out
  exact ⟨a, _, c, rfl, ⟨hs, rfl⟩, ho, lwBelow hb h, hb⟩
theorem same_lw {a b : Option Addr} {n c n2 c2 : Nat} {l : List Rep} (h1 : Hid (RepSl W a n c l)) (h2 : Hid (RepSl W b n2 c2 l)) (hn : l.length ≤ 512) : Calls Try.prog 49 #[.slice a n c, .slice b n2 c2] W (fun e W' => e = .returned (.bool true) ∧ Hid (Below W.heap.size W W')) := by
  refine (same16_any l l a b n c n2 c2 W h1.out.1 h2.out.1 h1.out.2 h2.out.2 (by have := h1.out.2; omega)).mono ?_
  rintro e W' ⟨rfl, hb⟩
  exact ⟨by rw [decide_eq_true rfl], hb⟩
end
end Go.Proofs.Ytgfgkgidpinmoaa
