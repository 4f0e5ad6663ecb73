/-
  LOCKS, THE EXAMPLES: awake.
-/
import Derived.Test.YtgfgkgidpinmoaaProg
import Derived.Test.YtgfgkgidpinmoaaBase3
import Derived.Test.YtgfgkgidpinmoaaBase5
import Derived.Test.YtgfgkgidpinmoaaBase6
import Derived.Test.YtgfgkgidpinmoaaBase7
import Derived.Test.YtgfgkgidpinmoaaBase14
import Derived.Test.YtgfgkgidpinmoaaTok1
import Derived.Test.YtgfgkgidpinmoaaTok3
import Derived.Test.YtgfgkgidpinmoaaLockP
import Derived.Test.YtgfgkgidpinmoaaLock1
import Derived.Test.YtgfgkgidpinmoaaLock2
import Derived.Test.YtgfgkgidpinmoaaLock3
import Derived.Test.YtgfgkgidpinmoaaLock4
import Derived.Test.YtgfgkgidpinmoaaLock5
import Derived.Test.YtgfgkgidpinmoaaLock6
import Derived.Test.YtgfgkgidpinmoaaLock8
import Derived.Test.YtgfgkgidpinmoaaHeld
import Derived.BigQuiet
import Derived.Laws.StructEq
import Derived.StillTailTactics
import Derived.RegionTactic
import Derived.BigRegion
import Derived.Deep.RegionHeld3
import Derived.Deep.DeepCutAuto
import Derived.Deep.QuietTactic
import Derived.WalkSpells
import Derived.WalkLawsBesides
namespace Go.Proofs.Ytgfgkgidpinmoaa
open Go.RowKit
set_option linter.unusedVariables false

/-- What the walk of the examples keeps. -/
structure AwW (w0 : World) (g kb sb : Nat) (s : LS) (W : World) : Prop where
  l : ∃ v, LockAt W g v s ∧ some sb ≠ v.ownBlock
  k : BlkAt W kb #[.int .u64 1, .int .u64 2]
  p : BlkAt W sb #[.int .i64 100, .int .i64 200]
  hk : kb < g
  hs : g < sb
  lo : Below w0.heap.size w0 W
  h0 : w0.heap.size ≤ g
theorem own_low6 {W : World} {g n k : Nat} {v : Value} {e : TypeId} {xs : List Value} (h : W.ownsRow (g + 1) e 6 v n xs) (hk : v.ownBlock = some k) : g + 1 ≤ k := by
  rcases h.2 with ⟨rfl, _⟩ | ⟨j, cap, cur, rfl, hB, _⟩
  · cases hk
  · simp [Value.ownBlock] at hk
    omega
theorem awStep {w0 W W' : World} {g kb sb : Nat} {s : LS} (hb : Below W.heap.size W W') (h : Hid (AwW w0 g kb sb s W)) : Hid (AwW w0 g kb sb s W') := by
  obtain ⟨v, hl, hv⟩ := h.out.l
  exact ⟨⟨v, hl.below hb, hv⟩, blkBelow hb h.out.k, blkBelow hb h.out.p, h.out.hk, h.out.hs, below_step h.out.lo hb, h.out.h0⟩
theorem awDrew {w0 W : World} {g kb sb : Nat} {s : LS} (h : Hid (AwW w0 g kb sb s W)) : Hid (AwW w0 g kb sb s W.drew) := by
  obtain ⟨v, hl, hv⟩ := h.out.l
  exact ⟨⟨v, (lkDrew hl).out, hv⟩, blkDrew h.out.k, blkDrew h.out.p, h.out.hk, h.out.hs, below_drew h.out.lo, h.out.h0⟩
theorem awAlloc {w0 W : World} {o : Obj} {g kb sb : Nat} {s : LS} (h : Hid (AwW w0 g kb sb s W)) : Hid (AwW w0 g kb sb s (W.alloc o)) := awStep (below_alloc _ _) h
theorem awTurn {w0 W W' : World} {g kb sb : Nat} {s : LS} {v : Value} {r : LS × Int} {e : Ending} (h : Hid (AwW w0 g kb sb s W)) (hl : LockAt W g v s) (hv : some sb ≠ v.ownBlock) (hr : LkRet g v W r e W') : Hid (AwW w0 g kb sb r.1 W') := by
  obtain ⟨_, v', h1, h2, h3, _⟩ := hr
  have hsz : sb < W.heap.size := h.out.p.elim fun E hE => (Array.getElem?_eq_some_iff.1 hE).1
  have hkg := h.out.hk
  have hgs := h.out.hs
  refine ⟨⟨v', h1, fun e => ?_⟩, h2.blk h.out.k (by omega) (fun e => ?_), h2.blk h.out.p (by omega) hv, hkg, hgs, ?_, h.out.h0⟩
  · rcases h3 sb e.symm with q | q
    · exact hv q.symm
    · omega
  · have := own_low6 hl.2 e.symm; omega
  · exact Fr.below h.out.lo h2 h.out.h0 (fun k hk => by have := own_low6 hl.2 hk; have := h.out.h0; omega) (by have := h.out.h0; omega)
theorem awCells {w0 W : World} {g kb sb : Nat} {s : LS} (h : Hid (AwW w0 g kb sb s W)) : W.cell? ⟨kb, 0, none⟩ = some (.int .u64 1) ∧ W.cell? ⟨kb, 1, none⟩ = some (.int .u64 2) ∧ W.cell? ⟨sb, 0, none⟩ = some (.int .i64 100) ∧ W.cell? ⟨sb, 1, none⟩ = some (.int .i64 200) ∧ Below w0.heap.size w0 W :=
  ⟨(two_facts h.out.k).1, (two_facts h.out.k).2.1, (two_facts h.out.p).1, (two_facts h.out.p).2.1, h.out.lo⟩
theorem keepQ {w w1 w2 : World} {a b c d : Addr} {x y z u : Value} (hb : Below w1.heap.size w1 w2) (h : w1.cell? a = some x ∧ w1.cell? b = some y ∧ w1.cell? c = some z ∧ w1.cell? d = some u ∧ Below w.heap.size w w1) :
    w2.cell? a = some x ∧ w2.cell? b = some y ∧ w2.cell? c = some z ∧ w2.cell? d = some u ∧ Below w.heap.size w w2 := ⟨cell_keep hb h.1, cell_keep hb h.2.1, cell_keep hb h.2.2.1, cell_keep hb h.2.2.2.1, below_step h.2.2.2.2 hb⟩
theorem keepQD {w w1 : World} {a b c d : Addr} {x y z u : Value} (h : w1.cell? a = some x ∧ w1.cell? b = some y ∧ w1.cell? c = some z ∧ w1.cell? d = some u ∧ Below w.heap.size w w1) :
    w1.drew.cell? a = some x ∧ w1.drew.cell? b = some y ∧ w1.drew.cell? c = some z ∧ w1.drew.cell? d = some u ∧ Below w.heap.size w w1.drew := ⟨h.1, h.2.1, h.2.2.1, h.2.2.2.1, below_drew h.2.2.2.2⟩
theorem keepQA {w w1 : World} {a b c d : Addr} {x y z u : Value} (o : Obj) (h : w1.cell? a = some x ∧ w1.cell? b = some y ∧ w1.cell? c = some z ∧ w1.cell? d = some u ∧ Below w.heap.size w w1) :
    (w1.alloc o).cell? a = some x ∧ (w1.alloc o).cell? b = some y ∧ (w1.alloc o).cell? c = some z ∧ (w1.alloc o).cell? d = some u ∧ Below w.heap.size w (w1.alloc o) := keepQ (below_alloc _ _) h
theorem keepQN {w w1 : World} {a b c d : Addr} {x y z u : Value} (n : Nat) (h : w1.cell? a = some x ∧ w1.cell? b = some y ∧ w1.cell? c = some z ∧ w1.cell? d = some u ∧ Below w.heap.size w w1) :
    (w1.drewN n).cell? a = some x ∧ (w1.drewN n).cell? b = some y ∧ (w1.drewN n).cell? c = some z ∧ (w1.drewN n).cell? d = some u ∧ Below w.heap.size w (w1.drewN n) := ⟨h.1, h.2.1, h.2.2.1, h.2.2.2.1, below_drewN h.2.2.2.2 n⟩
def awL : List Rep := [(1, 100, 3, 0, 3, 8), (2, 160, 5, 0, 0, 0), (3, 200, 6, 0, 0, 0), (4, 300, 2, 7, 0, 0)]
def awS (st last : Int) (n : Nat) : LS := ⟨5, 1#64, 2#64, st, last, awL.take n⟩
/-- A genuine ticket is usable by its number and the moment. -/
theorem use_tag {ka kb : BitVec 64} {n lo hi last : Int} (hn : 1 ≤ n ∧ n ≤ 1048576) : usable ka kb 5 3 8 0 1000 n (tagOf ka kb 5 3 8 0 1000 n) 5 lo hi last = if n ≤ last then 20 else if lo < 0 then 18 else if 1000 ≤ hi then 19 else if hi < lo then 1 else 0 := by
  unfold usable
  rw [gen_ok (tik_ok hn), decide_eq_true rfl, if_neg (by decide), if_neg (by decide)]
abbrev tkt (n : Int) : Value := .agg (tkA 5 3 8 0 1000 n (tagOf 1#64 2#64 5 3 8 0 1000 n))
theorem aw_t1 : (awS 1 0 0).unlock 5 3 8 0 1000 1 (tagOf 1#64 2#64 5 3 8 0 1000 1) 100 200 100 = (awS 2 1 1, 0) := by
  unfold LS.unlock
  rw [show usable (awS 1 0 0).ka (awS 1 0 0).kb 5 3 8 0 1000 1 (tagOf 1#64 2#64 5 3 8 0 1000 1) (awS 1 0 0).bike 100 200 (awS 1 0 0).last = 0 from use_tag (by decide)]
  rfl
theorem aw_t2 : (awS 2 1 1).pause 160 = (awS 3 1 2, 0) := by rfl
theorem aw_t3 : (awS 3 1 2).resume 200 = (awS 2 1 3, 0) := by rfl
theorem aw_t4 : (awS 2 1 3).close 7 300 = (awS 1 1 4, 0) := by rfl
theorem aw_t5 : (awS 1 1 4).pause 400 = (awS 1 1 4, 12) := by rfl
theorem aw_t6 : (awS 1 1 4).unlock 5 3 8 0 1000 1 (tagOf 1#64 2#64 5 3 8 0 1000 1) 100 200 50 = (awS 1 1 4, 20) := by
  unfold LS.unlock
  rw [show usable (awS 1 1 4).ka (awS 1 1 4).kb 5 3 8 0 1000 1 (tagOf 1#64 2#64 5 3 8 0 1000 1) (awS 1 1 4).bike 100 200 (awS 1 1 4).last = 20 from use_tag (by decide)]
  rfl
section
variable {w0 W : World} {g kb sb : Nat} {s s' : LS} {e : Int}
theorem aw_ticket (h : Hid (AwW w0 g kb sb s W)) : Calls Try.prog 54 #[.agg #[.int .u64 1, .int .u64 2], .int .i64 1] W (fun e' W' => e' = .returned (tkt 1) ∧ Hid (AwW w0 g kb sb s W')) :=
  (ticket_any 1#64 2#64 1 W (by decide)).mono fun e' W' hr => ⟨hr.1, awStep hr.2 h⟩
theorem aw_unlock {loc : Int} (h : Hid (AwW w0 g kb sb s W)) (hn : s.reps.length ≤ 512) (hT : s.unlock 5 3 8 0 1000 1 (tagOf 1#64 2#64 5 3 8 0 1000 1) 100 200 loc = (s', e)) : Calls Try.prog 52 #[.pointer (some ⟨g, 0, none⟩), tkt 1, .agg #[.int .i64 100, .int .i64 200], .int .i64 loc] W (fun e' W' => e' = .returned (.int .i64 e) ∧ Hid (AwW w0 g kb sb s' W')) := by
  obtain ⟨v, hl, hv⟩ := h.out.l
  refine (unlock_any (v := v) (s := s) 5 3 8 0 1000 1 (tagOf 1#64 2#64 5 3 8 0 1000 1) 100 200 loc W hl hn).mono fun e' W' hr => ?_
  rw [hT] at hr
  exact ⟨hr.1, awTurn h hl hv hr⟩
theorem aw_pause {loc : Int} (h : Hid (AwW w0 g kb sb s W)) (hn : s.reps.length ≤ 512) (hT : s.pause loc = (s', e)) : Calls Try.prog 55 #[.pointer (some ⟨g, 0, none⟩), .int .i64 loc] W (fun e' W' => e' = .returned (.int .i64 e) ∧ Hid (AwW w0 g kb sb s' W')) := by
  obtain ⟨v, hl, hv⟩ := h.out.l
  refine (pause_any (v := v) (s := s) loc W hl hn).mono fun e' W' hr => ?_
  rw [hT] at hr
  exact ⟨hr.1, awTurn h hl hv hr⟩
theorem aw_resume {loc : Int} (h : Hid (AwW w0 g kb sb s W)) (hn : s.reps.length ≤ 512) (hT : s.resume loc = (s', e)) : Calls Try.prog 56 #[.pointer (some ⟨g, 0, none⟩), .int .i64 loc] W (fun e' W' => e' = .returned (.int .i64 e) ∧ Hid (AwW w0 g kb sb s' W')) := by
  obtain ⟨v, hl, hv⟩ := h.out.l
  refine (resume_any (v := v) (s := s) loc W hl hn).mono fun e' W' hr => ?_
  rw [hT] at hr
  exact ⟨hr.1, awTurn h hl hv hr⟩
theorem aw_close {place loc : Int} (h : Hid (AwW w0 g kb sb s W)) (hn : s.reps.length ≤ 512) (hT : s.close place loc = (s', e)) : Calls Try.prog 53 #[.pointer (some ⟨g, 0, none⟩), .int .i64 place, .int .i64 loc] W (fun e' W' => e' = .returned (.int .i64 e) ∧ Hid (AwW w0 g kb sb s' W')) := by
  obtain ⟨v, hl, hv⟩ := h.out.l
  refine (close_any (v := v) (s := s) place loc W hl hn).mono fun e' W' hr => ?_
  rw [hT] at hr
  exact ⟨hr.1, awTurn h hl hv hr⟩
theorem aw_state (h : Hid (AwW w0 g kb sb (awS 1 1 4) W)) : Calls Try.prog 45 #[.pointer (some ⟨g, 0, none⟩)] W (fun e' W' => e' = .returned (.int .i64 1) ∧ W' = W) := by
  obtain ⟨v, hl, hv⟩ := h.out.l
  exact state_any W hl
theorem aw_last (h : Hid (AwW w0 g kb sb (awS 1 1 4) W)) : Calls Try.prog 43 #[.pointer (some ⟨g, 0, none⟩)] W (fun e' W' => e' = .returned (.int .i64 1) ∧ W' = W) := by
  obtain ⟨v, hl, hv⟩ := h.out.l
  exact last_any W hl
theorem aw_reports (h : Hid (AwW w0 g kb sb (awS 1 1 4) W)) : Calls Try.prog 44 #[.pointer (some ⟨g, 0, none⟩)] W (fun e' W' => ∃ a c, e' = .returned (.slice a 4 c) ∧ Hid (Sl W' 6 a 4 c (rcs awL)) ∧ Below W.heap.size W W') := by
  obtain ⟨v, hl, hv⟩ := h.out.l
  refine (reports_any W hl (by decide)).mono ?_
  rintro e' W' ⟨v', rfl, ho, hb⟩
  obtain ⟨a, c, rfl, hs⟩ := sl_of_own ho.out
  exact ⟨a, c, rfl, hs, hb⟩
end
end Go.Proofs.Ytgfgkgidpinmoaa
