/-
  LOCKS, THE LAWS: LockOnce.
-/
import Derived.Test.YtgfgkgidpinmoaaProg
import Derived.Test.YtgfgkgidpinmoaaBase3
import Derived.Test.YtgfgkgidpinmoaaBase5
import Derived.Test.YtgfgkgidpinmoaaBase6
import Derived.Test.YtgfgkgidpinmoaaBase7
import Derived.Test.YtgfgkgidpinmoaaBase14
import Derived.Test.YtgfgkgidpinmoaaTok1
import Derived.Test.YtgfgkgidpinmoaaTok3
import Derived.Test.YtgfgkgidpinmoaaLockP
import Derived.Test.YtgfgkgidpinmoaaLock1
import Derived.Test.YtgfgkgidpinmoaaLock2
import Derived.Test.YtgfgkgidpinmoaaLock3
import Derived.Test.YtgfgkgidpinmoaaLock4
import Derived.Test.YtgfgkgidpinmoaaLock5
import Derived.Test.YtgfgkgidpinmoaaLock6
import Derived.Test.YtgfgkgidpinmoaaLock8
import Derived.Test.YtgfgkgidpinmoaaTok2
import Derived.Test.YtgfgkgidpinmoaaTok2R
import Derived.Test.YtgfgkgidpinmoaaLockQ
import Derived.Test.YtgfgkgidpinmoaaLock9
import Derived.Test.YtgfgkgidpinmoaaLock15
import Derived.Test.YtgfgkgidpinmoaaLock21
import Derived.Test.YtgfgkgidpinmoaaLock22
import Derived.Test.YtgfgkgidpinmoaaHeld
import Derived.BigQuiet
import Derived.Laws.StructEq
import Derived.StillTailTactics
import Derived.RegionTactic
import Derived.BigRegion
import Derived.Deep.RegionHeld3
import Derived.Deep.DeepCutAuto
import Derived.Deep.QuietTactic
import Derived.WalkSpells
import Derived.WalkLawsBesides
namespace Go.Proofs.Ytgfgkgidpinmoaa
open Go.RowKit
set_option linter.unusedVariables false

set_option maxRecDepth 100000 in
set_option maxHeartbeats 1000000 in
theorem lockOnce_bad (bk : Int) (x y : BitVec 64) (b2 r2 d2 f2 t2 n2 : Int) (g2 : BitVec 64) (b3 r3 d3 f3 t3 n3 : Int) (g3 : BitVec 64) (w : World) (hb : Hid (bk < 0 ∨ 128 ≤ bk)) : Calls Try.prog 14 #[.int .i64 bk, .agg #[u64 x, u64 y], .agg #[.int .i64 b2, .int .i64 r2, .int .i64 d2, .int .i64 f2, .int .i64 t2, .int .i64 n2, u64 g2], .agg #[.int .i64 b3, .int .i64 r3, .int .i64 d3, .int .i64 f3, .int .i64 t3, .int .i64 n3, u64 g3]] w (RetB (.bool true) w) := by
  have HQ := Lib.hid (below_step (below_step (below_alloc w (.cells #[u64 x, u64 y] 32)) (below_alloc _ (.cells #[.int .i64 b2, .int .i64 r2, .int .i64 d2, .int .i64 f2, .int .i64 t2, .int .i64 n2, u64 g2] 36))) (below_alloc _ (.cells #[.int .i64 b3, .int .i64 r3, .int .i64 d3, .int .i64 f3, .int .i64 t3, .int .i64 n3, u64 g3] 36)))
  go_enter Try.func14, Try.ntmps14
  go_wp2_with fail
  refine (new_bad bk x y _ hb.out).mono ?_
  rintro e w1 ⟨rfl, hb1⟩
  have HQ1 := Lib.hid (below_step HQ.out hb1)
  clear hb1 HQ
  go_wp2_with fail
  refine (awake16_any _).mono ?_
  rintro e wz ⟨rfl, hbz⟩
  have HBZ := Lib.hid (below_step HQ1.out hbz)
  clear hbz
  go_wp2
  go_ret
  exact ⟨rfl, HBZ.out⟩
theorem reports_lbn {w W : World} {g : Nat} {L : List (Nat × Array Value)} {s : LS} {v : Value} (n : Nat) (h : Hid (LkB w g L s v W)) (hn : s.reps.length = n) : Calls Try.prog 44 #[.pointer (some ⟨g, 0, none⟩)] W (fun e W' => ∃ a c, e = .returned (.slice a n c) ∧ Hid (LkB w g L s v W')) := by
  subst hn
  refine (reports_lb h).mono ?_
  rintro e W' ⟨a, c, rfl, _, _, h2, _⟩
  exact ⟨a, c, rfl, h2⟩
theorem state_lbn {w W : World} {g : Nat} {L : List (Nat × Array Value)} {s : LS} {v : Value} (n : Int) (h : Hid (LkB w g L s v W)) (hn : s.state = n) : Calls Try.prog 45 #[.pointer (some ⟨g, 0, none⟩)] W (fun e W' => e = .returned (.int .i64 n) ∧ W' = W) := by
  subst hn
  exact state_lb h
/-- The lock, the key and both tokens, changed, ahead of the first Issue. -/
theorem once_start {bk : Int} {x y : BitVec 64} {b2 r2 d2 f2 t2 n2 b3 r3 d3 f3 t3 n3 : Int} {g2 g3 : BitVec 64} {w w1 : World} (hl : Hid (LockAt w1 ((((w.alloc (.cells #[u64 x, u64 y] 32)).alloc (.cells #[.int .i64 b2, .int .i64 r2, .int .i64 d2, .int .i64 f2, .int .i64 t2, .int .i64 n2, u64 g2] 36)).alloc (.cells #[.int .i64 b3, .int .i64 r3, .int .i64 d3, .int .i64 f3, .int .i64 t3, .int .i64 n3, u64 g3] 36)).heap.size + 1) (.slice none 0 0) ⟨bk, x, y, 1, 0, []⟩)) (hb : Below (((w.alloc (.cells #[u64 x, u64 y] 32)).alloc (.cells #[.int .i64 b2, .int .i64 r2, .int .i64 d2, .int .i64 f2, .int .i64 t2, .int .i64 n2, u64 g2] 36)).alloc (.cells #[.int .i64 b3, .int .i64 r3, .int .i64 d3, .int .i64 f3, .int .i64 t3, .int .i64 n3, u64 g3] 36)).heap.size (((w.alloc (.cells #[u64 x, u64 y] 32)).alloc (.cells #[.int .i64 b2, .int .i64 r2, .int .i64 d2, .int .i64 f2, .int .i64 t2, .int .i64 n2, u64 g2] 36)).alloc (.cells #[.int .i64 b3, .int .i64 r3, .int .i64 d3, .int .i64 f3, .int .i64 t3, .int .i64 n3, u64 g3] 36)) w1) :
    Hid (LkB w (w.heap.size + 4) [(w.heap.size, #[u64 x, u64 y]), (w.heap.size + 1, #[.int .i64 bk, .int .i64 r2, .int .i64 d2, .int .i64 10, .int .i64 20, .int .i64 n2, u64 g2]), (w.heap.size + 1 + 1, #[.int .i64 bk, .int .i64 r3, .int .i64 d3, .int .i64 10, .int .i64 20, .int .i64 n3, u64 g3])] ⟨bk, x, y, 1, 0, []⟩ (.slice none 0 0) ((((((w1.setCell ⟨w.heap.size + 1, 0, none⟩ (.int .i64 bk)).setCell ⟨w.heap.size + 1 + 1, 0, none⟩ (.int .i64 bk)).setCell ⟨w.heap.size + 1, 3, none⟩ (.int .i64 10)).setCell ⟨w.heap.size + 1, 4, none⟩ (.int .i64 20)).setCell ⟨w.heap.size + 1 + 1, 3, none⟩ (.int .i64 10)).setCell ⟨w.heap.size + 1 + 1, 4, none⟩ (.int .i64 20))) := by
  have hs : (((w.alloc (.cells #[u64 x, u64 y] 32)).alloc (.cells #[.int .i64 b2, .int .i64 r2, .int .i64 d2, .int .i64 f2, .int .i64 t2, .int .i64 n2, u64 g2] 36)).alloc (.cells #[.int .i64 b3, .int .i64 r3, .int .i64 d3, .int .i64 f3, .int .i64 t3, .int .i64 n3, u64 g3] 36)).heap.size = w.heap.size + 3 := by simp
  rw [hs] at hl
  have hk : BlkAt w1 w.heap.size #[u64 x, u64 y] := blkBelow hb (blkOld (blkOld (blkNew rfl)))
  have ha : BlkAt w1 (w.heap.size + 1) #[.int .i64 b2, .int .i64 r2, .int .i64 d2, .int .i64 f2, .int .i64 t2, .int .i64 n2, u64 g2] := blkBelow hb (blkOld (blkNew (by simp)))
  have hbb : BlkAt w1 (w.heap.size + 1 + 1) #[.int .i64 b3, .int .i64 r3, .int .i64 d3, .int .i64 f3, .int .i64 t3, .int .i64 n3, u64 g3] := blkBelow hb (blkNew (by simp))
  have hlo : Below w.heap.size w w1 := below_step (below_step (below_step (below_alloc _ _) (below_alloc _ _)) (below_alloc _ _)) hb
  have hset : ∀ k, k ≠ w.heap.size + 1 → k ≠ w.heap.size + 1 + 1 → ((((((w1.setCell ⟨w.heap.size + 1, 0, none⟩ (.int .i64 bk)).setCell ⟨w.heap.size + 1 + 1, 0, none⟩ (.int .i64 bk)).setCell ⟨w.heap.size + 1, 3, none⟩ (.int .i64 10)).setCell ⟨w.heap.size + 1, 4, none⟩ (.int .i64 20)).setCell ⟨w.heap.size + 1 + 1, 3, none⟩ (.int .i64 10)).setCell ⟨w.heap.size + 1 + 1, 4, none⟩ (.int .i64 20)).heap[k]? = w1.heap[k]? := fun k h1 h2 => by
    rw [heap_setCell_other _ _ _ _ (by exact h2), heap_setCell_other _ _ _ _ (by exact h2), heap_setCell_other _ _ _ _ (by exact h1), heap_setCell_other _ _ _ _ (by exact h1), heap_setCell_other _ _ _ _ (by exact h2), heap_setCell_other _ _ _ _ (by exact h1)]
  refine ⟨⟨hl.out.1.elim fun E hE => ⟨E, by rw [hset _ (by omega) (by omega)]; exact hE⟩, World.ownsRow_nil _ _ _ _⟩, fun p hp => ?_, (((((hlo.setCell (by simp) _).setCell (by simp; omega) _).setCell (by simp) _).setCell (by simp) _).setCell (by simp; omega) _).setCell (by simp; omega) _, by omega, by simp⟩
  simp only [List.mem_cons, List.not_mem_nil, or_false] at hp
  rcases hp with rfl | rfl | rfl
  · exact ⟨hk.elim fun E hE => ⟨E, by rw [hset _ (by dsimp only; omega) (by dsimp only; omega)]; exact hE⟩, by dsimp only; omega, by simp [Value.ownBlock]⟩
  · exact ⟨blkX_other (blkX_other (blkX_set (blkX_set (blkX_other (blkX_set ha) (by simp)))) (by simp)) (by simp), by dsimp only; omega, by simp [Value.ownBlock]⟩
  · exact ⟨blkX_set (blkX_set (blkX_other (blkX_other (blkX_set (blkX_other hbb (by simp))) (by simp)) (by simp))), by dsimp only; omega, by simp [Value.ownBlock]⟩
set_option maxRecDepth 100000 in
set_option maxHeartbeats 2000000 in
theorem lockOnce_bb (bk : Int) (x y : BitVec 64) (b2 r2 d2 f2 t2 n2 : Int) (g2 : BitVec 64) (b3 r3 d3 f3 t3 n3 : Int) (g3 : BitVec 64) (w : World) (hbk : 0 ≤ bk ∧ bk < 128) (bad2 : Tok.bad ⟨bk, r2, d2, 10, 20, n2⟩) (bad3 : Tok.bad ⟨bk, r3, d3, 10, 20, n3⟩) : Calls Try.prog 14 #[.int .i64 bk, .agg #[u64 x, u64 y], .agg #[.int .i64 b2, .int .i64 r2, .int .i64 d2, .int .i64 f2, .int .i64 t2, .int .i64 n2, u64 g2], .agg #[.int .i64 b3, .int .i64 r3, .int .i64 d3, .int .i64 f3, .int .i64 t3, .int .i64 n3, u64 g3]] w (RetB (.bool true) w) := by
  have hnew := fun W => new_ok bk x y W hbk.1 hbk.2
  have HNEW := Lib.hid hnew
  clear hnew hbk
  have HBAD2 := Lib.hid (chk_bad bad2)
  clear bad2
  have HBAD3 := Lib.hid (chk_bad bad3)
  clear bad3
  go_enter Try.func14, Try.ntmps14
  go_wp2_with fail
  refine (HNEW.out _).mono ?_
  rintro e w1 ⟨rfl, hl1, hb1⟩
  have HL := once_start (b2 := b2) (r2 := r2) (d2 := d2) (f2 := f2) (t2 := t2) (n2 := n2) (b3 := b3) (r3 := r3) (d3 := d3) (f3 := f3) (t3 := t3) (n3 := n3) (g2 := g2) (g3 := g3) hl1 hb1
  have hs : (((w.alloc (.cells #[u64 x, u64 y] 32)).alloc (.cells #[.int .i64 b2, .int .i64 r2, .int .i64 d2, .int .i64 f2, .int .i64 t2, .int .i64 n2, u64 g2] 36)).alloc (.cells #[.int .i64 b3, .int .i64 r3, .int .i64 d3, .int .i64 f3, .int .i64 t3, .int .i64 n3, u64 g3] 36)).heap.size + 1 = w.heap.size + 4 := by simp
  rw [hs]
  obtain ⟨k0, k1⟩ := key_cells2 (blkBelow hb1 (blkOld (blkOld (blkNew rfl))) : BlkAt w1 w.heap.size #[u64 x, u64 y])
  have ha : BlkAt w1 (w.heap.size + 1) #[.int .i64 b2, .int .i64 r2, .int .i64 d2, .int .i64 f2, .int .i64 t2, .int .i64 n2, u64 g2] := blkBelow hb1 (blkOld (blkNew (by simp)))
  have hbb : BlkAt w1 (w.heap.size + 1 + 1) #[.int .i64 b3, .int .i64 r3, .int .i64 d3, .int .i64 f3, .int .i64 t3, .int .i64 n3, u64 g3] := blkBelow hb1 (blkNew (by simp))
  have a0 := (tok_cells (w := w) (E := 0) ha).1
  have a3 := (tok_cells (w := w) (E := 0) ha).2.2.2.1
  have a4 := (tok_cells (w := w) (E := 0) ha).2.2.2.2.1
  have b0 := (tok_cells (w := w) (E := 0) hbb).1
  have b3' := (tok_cells (w := w) (E := 0) hbb).2.2.2.1
  have b4 := (tok_cells (w := w) (E := 0) hbb).2.2.2.2.1
  have fa0 := blkX_frozen (i := 0) ha
  have fa3 := blkX_frozen (i := 3) ha
  have fa4 := blkX_frozen (i := 4) ha
  have fb0 := blkX_frozen (i := 0) hbb
  have fb3 := blkX_frozen (i := 3) hbb
  have fb4 := blkX_frozen (i := 4) hbb
  clear ha hbb hl1 hb1 hs
  generalize w.heap.size + 4 = gk at *
  go_upto_region 8 with (fail)
  generalize (((((w1.setCell ⟨w.heap.size + 1, 0, none⟩ (.int .i64 bk)).setCell ⟨w.heap.size + 1 + 1, 0, none⟩ (.int .i64 bk)).setCell ⟨w.heap.size + 1, 3, none⟩ (.int .i64 10)).setCell ⟨w.heap.size + 1, 4, none⟩ (.int .i64 20)).setCell ⟨w.heap.size + 1 + 1, 3, none⟩ (.int .i64 10)).setCell ⟨w.heap.size + 1 + 1, 4, none⟩ (.int .i64 20) = W at *
  clear a0 a3 a4 b0 b3' b4 fa0 fa3 fa4 fb0 fb3 fb4 k0 k1
  obtain ⟨k0, k1⟩ := key_cells2 (HL.out.bs (w.heap.size, #[u64 x, u64 y]) (by simp)).1
  obtain ⟨c0, c1, c2, c3, c4, c5, c6⟩ := tok_cells (w := w) (E := 0) (HL.out.bs (w.heap.size + 1, #[.int .i64 bk, .int .i64 r2, .int .i64 d2, .int .i64 10, .int .i64 20, .int .i64 n2, u64 g2]) (by simp)).1
  go_wp2_with fail
  refine (refIssue_bad x y bk r2 d2 10 20 n2 g2 _ HBAD2).mono ?_
  rintro e v2 ⟨rfl, hb⟩
  have HB2 := Lib.hid (lbAdd HL (hb.trans (Below.alloc (Below.refl _ _) hb.size _)) (blkNew (W := v2) (C := #[.int .i64 0, .int .i64 0, .int .i64 0, .int .i64 0, .int .i64 0, .int .i64 0, .int .u64 0]) (E := 36) rfl) hb.size)
  clear hb HL k0 k1 c0 c1 c2 c3 c4 c5 c6
  go_upto_region 9 with (fail)
  have HL : Hid (LkB w gk ((v2.heap.size, #[.int .i64 0, .int .i64 0, .int .i64 0, .int .i64 0, .int .i64 0, .int .i64 0, .int .u64 0]) :: [(w.heap.size, #[u64 x, u64 y]), (w.heap.size + 1, #[.int .i64 bk, .int .i64 r2, .int .i64 d2, .int .i64 10, .int .i64 20, .int .i64 n2, u64 g2]), (w.heap.size + 1 + 1, #[.int .i64 bk, .int .i64 r3, .int .i64 d3, .int .i64 10, .int .i64 20, .int .i64 n3, u64 g3])]) ⟨bk, x, y, 1, 0, []⟩ (.slice none 0 0) (v2.alloc (.cells #[.int .i64 0, .int .i64 0, .int .i64 0, .int .i64 0, .int .i64 0, .int .i64 0, .int .u64 0] 36))) := HB2.out
  clear HB2
  generalize v2.alloc (.cells #[.int .i64 0, .int .i64 0, .int .i64 0, .int .i64 0, .int .i64 0, .int .i64 0, .int .u64 0] 36) = W2 at *
  generalize v2.heap.size = sb at *
  obtain ⟨k0, k1⟩ := key_cells2 (HL.out.bs (w.heap.size, #[u64 x, u64 y]) (by simp)).1
  obtain ⟨c0, c1, c2, c3, c4, c5, c6⟩ := tok_cells (w := w) (E := 0) (HL.out.bs (w.heap.size + 1 + 1, #[.int .i64 bk, .int .i64 r3, .int .i64 d3, .int .i64 10, .int .i64 20, .int .i64 n3, u64 g3]) (by simp)).1
  go_wp2_with fail
  refine (refIssue_bad x y bk r3 d3 10 20 n3 g3 _ HBAD3).mono ?_
  rintro e v3 ⟨rfl, hb⟩
  have HB3 := Lib.hid (lbAdd HL (hb.trans (Below.alloc (Below.refl _ _) hb.size _)) (blkNew (W := v3) (C := #[.int .i64 0, .int .i64 0, .int .i64 0, .int .i64 0, .int .i64 0, .int .i64 0, .int .u64 0]) (E := 36) rfl) hb.size)
  clear hb HL k0 k1 c0 c1 c2 c3 c4 c5 c6
  go_wp2_with fail
  refine (awake16_any _).mono ?_
  rintro e wz ⟨rfl, hbz⟩
  have HBZ := Lib.hid (below_step HB3.out.lo hbz)
  clear hbz
  go_wp2
  go_ret
  exact ⟨rfl, HBZ.out⟩
set_option maxRecDepth 100000 in
set_option maxHeartbeats 2000000 in
theorem lockOnce_bo (bk : Int) (x y : BitVec 64) (b2 r2 d2 f2 t2 n2 : Int) (g2 : BitVec 64) (b3 r3 d3 f3 t3 n3 : Int) (g3 : BitVec 64) (w : World) (hbk : 0 ≤ bk ∧ bk < 128) (bad2 : Tok.bad ⟨bk, r2, d2, 10, 20, n2⟩) (ok3 : ¬ Tok.bad ⟨bk, r3, d3, 10, 20, n3⟩) : Calls Try.prog 14 #[.int .i64 bk, .agg #[u64 x, u64 y], .agg #[.int .i64 b2, .int .i64 r2, .int .i64 d2, .int .i64 f2, .int .i64 t2, .int .i64 n2, u64 g2], .agg #[.int .i64 b3, .int .i64 r3, .int .i64 d3, .int .i64 f3, .int .i64 t3, .int .i64 n3, u64 g3]] w (RetB (.bool true) w) := by
  have hnew := fun W => new_ok bk x y W hbk.1 hbk.2
  have HNEW := Lib.hid hnew
  clear hnew hbk
  have HBAD2 := Lib.hid (chk_bad bad2)
  clear bad2
  have HISS3 : Hid (∀ W, Calls Try.prog 27 #[.agg #[u64 x, u64 y], .agg #[.int .i64 bk, .int .i64 r3, .int .i64 d3, .int .i64 10, .int .i64 20, .int .i64 n3, u64 g3]] W (RetB (.tuple #[.agg #[.int .i64 bk, .int .i64 r3, .int .i64 d3, .int .i64 10, .int .i64 20, .int .i64 n3, u64 (tagOf x y bk r3 d3 10 20 n3)], .int .i64 0]) W)) := fun W => refIssue_ok x y bk r3 d3 10 20 n3 g3 W ok3
  clear ok3
  generalize tagOf x y bk r3 d3 10 20 n3 = G3 at *
  go_enter Try.func14, Try.ntmps14
  go_wp2_with fail
  refine (HNEW.out _).mono ?_
  rintro e w1 ⟨rfl, hl1, hb1⟩
  have HL := once_start (b2 := b2) (r2 := r2) (d2 := d2) (f2 := f2) (t2 := t2) (n2 := n2) (b3 := b3) (r3 := r3) (d3 := d3) (f3 := f3) (t3 := t3) (n3 := n3) (g2 := g2) (g3 := g3) hl1 hb1
  have hs : (((w.alloc (.cells #[u64 x, u64 y] 32)).alloc (.cells #[.int .i64 b2, .int .i64 r2, .int .i64 d2, .int .i64 f2, .int .i64 t2, .int .i64 n2, u64 g2] 36)).alloc (.cells #[.int .i64 b3, .int .i64 r3, .int .i64 d3, .int .i64 f3, .int .i64 t3, .int .i64 n3, u64 g3] 36)).heap.size + 1 = w.heap.size + 4 := by simp
  rw [hs]
  obtain ⟨k0, k1⟩ := key_cells2 (blkBelow hb1 (blkOld (blkOld (blkNew rfl))) : BlkAt w1 w.heap.size #[u64 x, u64 y])
  have ha : BlkAt w1 (w.heap.size + 1) #[.int .i64 b2, .int .i64 r2, .int .i64 d2, .int .i64 f2, .int .i64 t2, .int .i64 n2, u64 g2] := blkBelow hb1 (blkOld (blkNew (by simp)))
  have hbb : BlkAt w1 (w.heap.size + 1 + 1) #[.int .i64 b3, .int .i64 r3, .int .i64 d3, .int .i64 f3, .int .i64 t3, .int .i64 n3, u64 g3] := blkBelow hb1 (blkNew (by simp))
  have a0 := (tok_cells (w := w) (E := 0) ha).1
  have a3 := (tok_cells (w := w) (E := 0) ha).2.2.2.1
  have a4 := (tok_cells (w := w) (E := 0) ha).2.2.2.2.1
  have b0 := (tok_cells (w := w) (E := 0) hbb).1
  have b3' := (tok_cells (w := w) (E := 0) hbb).2.2.2.1
  have b4 := (tok_cells (w := w) (E := 0) hbb).2.2.2.2.1
  have fa0 := blkX_frozen (i := 0) ha
  have fa3 := blkX_frozen (i := 3) ha
  have fa4 := blkX_frozen (i := 4) ha
  have fb0 := blkX_frozen (i := 0) hbb
  have fb3 := blkX_frozen (i := 3) hbb
  have fb4 := blkX_frozen (i := 4) hbb
  clear ha hbb hl1 hb1 hs
  generalize w.heap.size + 4 = gk at *
  go_upto_region 8 with (fail)
  generalize (((((w1.setCell ⟨w.heap.size + 1, 0, none⟩ (.int .i64 bk)).setCell ⟨w.heap.size + 1 + 1, 0, none⟩ (.int .i64 bk)).setCell ⟨w.heap.size + 1, 3, none⟩ (.int .i64 10)).setCell ⟨w.heap.size + 1, 4, none⟩ (.int .i64 20)).setCell ⟨w.heap.size + 1 + 1, 3, none⟩ (.int .i64 10)).setCell ⟨w.heap.size + 1 + 1, 4, none⟩ (.int .i64 20) = W at *
  clear a0 a3 a4 b0 b3' b4 fa0 fa3 fa4 fb0 fb3 fb4 k0 k1
  obtain ⟨k0, k1⟩ := key_cells2 (HL.out.bs (w.heap.size, #[u64 x, u64 y]) (by simp)).1
  obtain ⟨c0, c1, c2, c3, c4, c5, c6⟩ := tok_cells (w := w) (E := 0) (HL.out.bs (w.heap.size + 1, #[.int .i64 bk, .int .i64 r2, .int .i64 d2, .int .i64 10, .int .i64 20, .int .i64 n2, u64 g2]) (by simp)).1
  go_wp2_with fail
  refine (refIssue_bad x y bk r2 d2 10 20 n2 g2 _ HBAD2).mono ?_
  rintro e v2 ⟨rfl, hb⟩
  have HB2 := Lib.hid (lbAdd HL (hb.trans (Below.alloc (Below.refl _ _) hb.size _)) (blkNew (W := v2) (C := #[.int .i64 0, .int .i64 0, .int .i64 0, .int .i64 0, .int .i64 0, .int .i64 0, .int .u64 0]) (E := 36) rfl) hb.size)
  clear hb HL k0 k1 c0 c1 c2 c3 c4 c5 c6
  go_upto_region 9 with (fail)
  have HL : Hid (LkB w gk ((v2.heap.size, #[.int .i64 0, .int .i64 0, .int .i64 0, .int .i64 0, .int .i64 0, .int .i64 0, .int .u64 0]) :: [(w.heap.size, #[u64 x, u64 y]), (w.heap.size + 1, #[.int .i64 bk, .int .i64 r2, .int .i64 d2, .int .i64 10, .int .i64 20, .int .i64 n2, u64 g2]), (w.heap.size + 1 + 1, #[.int .i64 bk, .int .i64 r3, .int .i64 d3, .int .i64 10, .int .i64 20, .int .i64 n3, u64 g3])]) ⟨bk, x, y, 1, 0, []⟩ (.slice none 0 0) (v2.alloc (.cells #[.int .i64 0, .int .i64 0, .int .i64 0, .int .i64 0, .int .i64 0, .int .i64 0, .int .u64 0] 36))) := HB2.out
  clear HB2
  generalize v2.alloc (.cells #[.int .i64 0, .int .i64 0, .int .i64 0, .int .i64 0, .int .i64 0, .int .i64 0, .int .u64 0] 36) = W2 at *
  generalize v2.heap.size = sb at *
  obtain ⟨k0, k1⟩ := key_cells2 (HL.out.bs (w.heap.size, #[u64 x, u64 y]) (by simp)).1
  obtain ⟨c0, c1, c2, c3, c4, c5, c6⟩ := tok_cells (w := w) (E := 0) (HL.out.bs (w.heap.size + 1 + 1, #[.int .i64 bk, .int .i64 r3, .int .i64 d3, .int .i64 10, .int .i64 20, .int .i64 n3, u64 g3]) (by simp)).1
  go_wp2_with fail
  refine (HISS3.out _).mono ?_
  rintro e v3 ⟨rfl, hb⟩
  have HB3 := Lib.hid (lbAdd HL (hb.trans (Below.alloc (Below.refl _ _) hb.size _)) (blkNew (W := v3) (C := #[.int .i64 bk, .int .i64 r3, .int .i64 d3, .int .i64 10, .int .i64 20, .int .i64 n3, u64 G3]) (E := 36) rfl) hb.size)
  clear hb HL k0 k1 c0 c1 c2 c3 c4 c5 c6
  go_wp2_with fail
  refine (awake16_any _).mono ?_
  rintro e wz ⟨rfl, hbz⟩
  have HBZ := Lib.hid (below_step HB3.out.lo hbz)
  clear hbz
  go_wp2
  go_ret
  exact ⟨rfl, HBZ.out⟩
set_option maxRecDepth 100000 in
set_option maxHeartbeats 2000000 in
theorem lockOnce_ob (bk : Int) (x y : BitVec 64) (b2 r2 d2 f2 t2 n2 : Int) (g2 : BitVec 64) (b3 r3 d3 f3 t3 n3 : Int) (g3 : BitVec 64) (w : World) (hbk : 0 ≤ bk ∧ bk < 128) (ok2 : ¬ Tok.bad ⟨bk, r2, d2, 10, 20, n2⟩) (bad3 : Tok.bad ⟨bk, r3, d3, 10, 20, n3⟩) : Calls Try.prog 14 #[.int .i64 bk, .agg #[u64 x, u64 y], .agg #[.int .i64 b2, .int .i64 r2, .int .i64 d2, .int .i64 f2, .int .i64 t2, .int .i64 n2, u64 g2], .agg #[.int .i64 b3, .int .i64 r3, .int .i64 d3, .int .i64 f3, .int .i64 t3, .int .i64 n3, u64 g3]] w (RetB (.bool true) w) := by
  have hnew := fun W => new_ok bk x y W hbk.1 hbk.2
  have HNEW := Lib.hid hnew
  clear hnew hbk
  have HISS2 : Hid (∀ W, Calls Try.prog 27 #[.agg #[u64 x, u64 y], .agg #[.int .i64 bk, .int .i64 r2, .int .i64 d2, .int .i64 10, .int .i64 20, .int .i64 n2, u64 g2]] W (RetB (.tuple #[.agg #[.int .i64 bk, .int .i64 r2, .int .i64 d2, .int .i64 10, .int .i64 20, .int .i64 n2, u64 (tagOf x y bk r2 d2 10 20 n2)], .int .i64 0]) W)) := fun W => refIssue_ok x y bk r2 d2 10 20 n2 g2 W ok2
  have HBAD3 := Lib.hid (chk_bad bad3)
  clear bad3
  clear ok2
  generalize tagOf x y bk r2 d2 10 20 n2 = G2 at *
  go_enter Try.func14, Try.ntmps14
  go_wp2_with fail
  refine (HNEW.out _).mono ?_
  rintro e w1 ⟨rfl, hl1, hb1⟩
  have HL := once_start (b2 := b2) (r2 := r2) (d2 := d2) (f2 := f2) (t2 := t2) (n2 := n2) (b3 := b3) (r3 := r3) (d3 := d3) (f3 := f3) (t3 := t3) (n3 := n3) (g2 := g2) (g3 := g3) hl1 hb1
  have hs : (((w.alloc (.cells #[u64 x, u64 y] 32)).alloc (.cells #[.int .i64 b2, .int .i64 r2, .int .i64 d2, .int .i64 f2, .int .i64 t2, .int .i64 n2, u64 g2] 36)).alloc (.cells #[.int .i64 b3, .int .i64 r3, .int .i64 d3, .int .i64 f3, .int .i64 t3, .int .i64 n3, u64 g3] 36)).heap.size + 1 = w.heap.size + 4 := by simp
  rw [hs]
  obtain ⟨k0, k1⟩ := key_cells2 (blkBelow hb1 (blkOld (blkOld (blkNew rfl))) : BlkAt w1 w.heap.size #[u64 x, u64 y])
  have ha : BlkAt w1 (w.heap.size + 1) #[.int .i64 b2, .int .i64 r2, .int .i64 d2, .int .i64 f2, .int .i64 t2, .int .i64 n2, u64 g2] := blkBelow hb1 (blkOld (blkNew (by simp)))
  have hbb : BlkAt w1 (w.heap.size + 1 + 1) #[.int .i64 b3, .int .i64 r3, .int .i64 d3, .int .i64 f3, .int .i64 t3, .int .i64 n3, u64 g3] := blkBelow hb1 (blkNew (by simp))
  have a0 := (tok_cells (w := w) (E := 0) ha).1
  have a3 := (tok_cells (w := w) (E := 0) ha).2.2.2.1
  have a4 := (tok_cells (w := w) (E := 0) ha).2.2.2.2.1
  have b0 := (tok_cells (w := w) (E := 0) hbb).1
  have b3' := (tok_cells (w := w) (E := 0) hbb).2.2.2.1
  have b4 := (tok_cells (w := w) (E := 0) hbb).2.2.2.2.1
  have fa0 := blkX_frozen (i := 0) ha
  have fa3 := blkX_frozen (i := 3) ha
  have fa4 := blkX_frozen (i := 4) ha
  have fb0 := blkX_frozen (i := 0) hbb
  have fb3 := blkX_frozen (i := 3) hbb
  have fb4 := blkX_frozen (i := 4) hbb
  clear ha hbb hl1 hb1 hs
  generalize w.heap.size + 4 = gk at *
  go_upto_region 8 with (fail)
  generalize (((((w1.setCell ⟨w.heap.size + 1, 0, none⟩ (.int .i64 bk)).setCell ⟨w.heap.size + 1 + 1, 0, none⟩ (.int .i64 bk)).setCell ⟨w.heap.size + 1, 3, none⟩ (.int .i64 10)).setCell ⟨w.heap.size + 1, 4, none⟩ (.int .i64 20)).setCell ⟨w.heap.size + 1 + 1, 3, none⟩ (.int .i64 10)).setCell ⟨w.heap.size + 1 + 1, 4, none⟩ (.int .i64 20) = W at *
  clear a0 a3 a4 b0 b3' b4 fa0 fa3 fa4 fb0 fb3 fb4 k0 k1
  obtain ⟨k0, k1⟩ := key_cells2 (HL.out.bs (w.heap.size, #[u64 x, u64 y]) (by simp)).1
  obtain ⟨c0, c1, c2, c3, c4, c5, c6⟩ := tok_cells (w := w) (E := 0) (HL.out.bs (w.heap.size + 1, #[.int .i64 bk, .int .i64 r2, .int .i64 d2, .int .i64 10, .int .i64 20, .int .i64 n2, u64 g2]) (by simp)).1
  go_wp2_with fail
  refine (HISS2.out _).mono ?_
  rintro e v2 ⟨rfl, hb⟩
  have HB2 := Lib.hid (lbAdd HL (hb.trans (Below.alloc (Below.refl _ _) hb.size _)) (blkNew (W := v2) (C := #[.int .i64 bk, .int .i64 r2, .int .i64 d2, .int .i64 10, .int .i64 20, .int .i64 n2, u64 G2]) (E := 36) rfl) hb.size)
  clear hb HL k0 k1 c0 c1 c2 c3 c4 c5 c6
  go_upto_region 9 with (fail)
  have HL : Hid (LkB w gk ((v2.heap.size, #[.int .i64 bk, .int .i64 r2, .int .i64 d2, .int .i64 10, .int .i64 20, .int .i64 n2, u64 G2]) :: [(w.heap.size, #[u64 x, u64 y]), (w.heap.size + 1, #[.int .i64 bk, .int .i64 r2, .int .i64 d2, .int .i64 10, .int .i64 20, .int .i64 n2, u64 g2]), (w.heap.size + 1 + 1, #[.int .i64 bk, .int .i64 r3, .int .i64 d3, .int .i64 10, .int .i64 20, .int .i64 n3, u64 g3])]) ⟨bk, x, y, 1, 0, []⟩ (.slice none 0 0) (v2.alloc (.cells #[.int .i64 bk, .int .i64 r2, .int .i64 d2, .int .i64 10, .int .i64 20, .int .i64 n2, u64 G2] 36))) := HB2.out
  clear HB2
  generalize v2.alloc (.cells #[.int .i64 bk, .int .i64 r2, .int .i64 d2, .int .i64 10, .int .i64 20, .int .i64 n2, u64 G2] 36) = W2 at *
  generalize v2.heap.size = sb at *
  obtain ⟨k0, k1⟩ := key_cells2 (HL.out.bs (w.heap.size, #[u64 x, u64 y]) (by simp)).1
  obtain ⟨c0, c1, c2, c3, c4, c5, c6⟩ := tok_cells (w := w) (E := 0) (HL.out.bs (w.heap.size + 1 + 1, #[.int .i64 bk, .int .i64 r3, .int .i64 d3, .int .i64 10, .int .i64 20, .int .i64 n3, u64 g3]) (by simp)).1
  go_wp2_with fail
  refine (refIssue_bad x y bk r3 d3 10 20 n3 g3 _ HBAD3).mono ?_
  rintro e v3 ⟨rfl, hb⟩
  have HB3 := Lib.hid (lbAdd HL (hb.trans (Below.alloc (Below.refl _ _) hb.size _)) (blkNew (W := v3) (C := #[.int .i64 0, .int .i64 0, .int .i64 0, .int .i64 0, .int .i64 0, .int .i64 0, .int .u64 0]) (E := 36) rfl) hb.size)
  clear hb HL k0 k1 c0 c1 c2 c3 c4 c5 c6
  go_wp2_with fail
  refine (awake16_any _).mono ?_
  rintro e wz ⟨rfl, hbz⟩
  have HBZ := Lib.hid (below_step HB3.out.lo hbz)
  clear hbz
  go_wp2
  go_ret
  exact ⟨rfl, HBZ.out⟩
set_option maxRecDepth 100000 in
set_option maxHeartbeats 2000000 in
theorem lockOnce_oo (bk : Int) (x y : BitVec 64) (b2 r2 d2 f2 t2 n2 : Int) (g2 : BitVec 64) (b3 r3 d3 f3 t3 n3 : Int) (g3 : BitVec 64) (w : World) (hbk : 0 ≤ bk ∧ bk < 128) (ok2 : ¬ Tok.bad ⟨bk, r2, d2, 10, 20, n2⟩) (ok3 : ¬ Tok.bad ⟨bk, r3, d3, 10, 20, n3⟩) : Calls Try.prog 14 #[.int .i64 bk, .agg #[u64 x, u64 y], .agg #[.int .i64 b2, .int .i64 r2, .int .i64 d2, .int .i64 f2, .int .i64 t2, .int .i64 n2, u64 g2], .agg #[.int .i64 b3, .int .i64 r3, .int .i64 d3, .int .i64 f3, .int .i64 t3, .int .i64 n3, u64 g3]] w (RetB (.bool true) w) := by
  have hnew := fun W => new_ok bk x y W hbk.1 hbk.2
  have HNEW := Lib.hid hnew
  clear hnew hbk
  have HISS2 : Hid (∀ W, Calls Try.prog 27 #[.agg #[u64 x, u64 y], .agg #[.int .i64 bk, .int .i64 r2, .int .i64 d2, .int .i64 10, .int .i64 20, .int .i64 n2, u64 g2]] W (RetB (.tuple #[.agg #[.int .i64 bk, .int .i64 r2, .int .i64 d2, .int .i64 10, .int .i64 20, .int .i64 n2, u64 (tagOf x y bk r2 d2 10 20 n2)], .int .i64 0]) W)) := fun W => refIssue_ok x y bk r2 d2 10 20 n2 g2 W ok2
  have HISS3 : Hid (∀ W, Calls Try.prog 27 #[.agg #[u64 x, u64 y], .agg #[.int .i64 bk, .int .i64 r3, .int .i64 d3, .int .i64 10, .int .i64 20, .int .i64 n3, u64 g3]] W (RetB (.tuple #[.agg #[.int .i64 bk, .int .i64 r3, .int .i64 d3, .int .i64 10, .int .i64 20, .int .i64 n3, u64 (tagOf x y bk r3 d3 10 20 n3)], .int .i64 0]) W)) := fun W => refIssue_ok x y bk r3 d3 10 20 n3 g3 W ok3
  have HT1 := Lib.hid (on_t1 (ka := x) (kb := y) ok2)
  have HT3 := Lib.hid (on_t3 (ka := x) (kb := y) ok2)
  have HT4 := Lib.hid (fun h => on_t4 (r := r2) (d := d2) (n := n2) (ka := x) (kb := y) ok3 h)
  have HT5 := Lib.hid (fun h => on_t5 (r := r2) (d := d2) (n := n2) (ka := x) (kb := y) ok3 h)
  clear ok2 ok3
  generalize tagOf x y bk r2 d2 10 20 n2 = G2 at *
  generalize tagOf x y bk r3 d3 10 20 n3 = G3 at *
  go_enter Try.func14, Try.ntmps14
  go_wp2_with fail
  refine (HNEW.out _).mono ?_
  rintro e w1 ⟨rfl, hl1, hb1⟩
  have HL := once_start (b2 := b2) (r2 := r2) (d2 := d2) (f2 := f2) (t2 := t2) (n2 := n2) (b3 := b3) (r3 := r3) (d3 := d3) (f3 := f3) (t3 := t3) (n3 := n3) (g2 := g2) (g3 := g3) hl1 hb1
  have hs : (((w.alloc (.cells #[u64 x, u64 y] 32)).alloc (.cells #[.int .i64 b2, .int .i64 r2, .int .i64 d2, .int .i64 f2, .int .i64 t2, .int .i64 n2, u64 g2] 36)).alloc (.cells #[.int .i64 b3, .int .i64 r3, .int .i64 d3, .int .i64 f3, .int .i64 t3, .int .i64 n3, u64 g3] 36)).heap.size + 1 = w.heap.size + 4 := by simp
  rw [hs]
  obtain ⟨k0, k1⟩ := key_cells2 (blkBelow hb1 (blkOld (blkOld (blkNew rfl))) : BlkAt w1 w.heap.size #[u64 x, u64 y])
  have ha : BlkAt w1 (w.heap.size + 1) #[.int .i64 b2, .int .i64 r2, .int .i64 d2, .int .i64 f2, .int .i64 t2, .int .i64 n2, u64 g2] := blkBelow hb1 (blkOld (blkNew (by simp)))
  have hbb : BlkAt w1 (w.heap.size + 1 + 1) #[.int .i64 b3, .int .i64 r3, .int .i64 d3, .int .i64 f3, .int .i64 t3, .int .i64 n3, u64 g3] := blkBelow hb1 (blkNew (by simp))
  have a0 := (tok_cells (w := w) (E := 0) ha).1
  have a3 := (tok_cells (w := w) (E := 0) ha).2.2.2.1
  have a4 := (tok_cells (w := w) (E := 0) ha).2.2.2.2.1
  have b0 := (tok_cells (w := w) (E := 0) hbb).1
  have b3' := (tok_cells (w := w) (E := 0) hbb).2.2.2.1
  have b4 := (tok_cells (w := w) (E := 0) hbb).2.2.2.2.1
  have fa0 := blkX_frozen (i := 0) ha
  have fa3 := blkX_frozen (i := 3) ha
  have fa4 := blkX_frozen (i := 4) ha
  have fb0 := blkX_frozen (i := 0) hbb
  have fb3 := blkX_frozen (i := 3) hbb
  have fb4 := blkX_frozen (i := 4) hbb
  clear ha hbb hl1 hb1 hs
  generalize w.heap.size + 4 = gk at *
  go_upto_region 8 with (fail)
  generalize (((((w1.setCell ⟨w.heap.size + 1, 0, none⟩ (.int .i64 bk)).setCell ⟨w.heap.size + 1 + 1, 0, none⟩ (.int .i64 bk)).setCell ⟨w.heap.size + 1, 3, none⟩ (.int .i64 10)).setCell ⟨w.heap.size + 1, 4, none⟩ (.int .i64 20)).setCell ⟨w.heap.size + 1 + 1, 3, none⟩ (.int .i64 10)).setCell ⟨w.heap.size + 1 + 1, 4, none⟩ (.int .i64 20) = W at *
  clear a0 a3 a4 b0 b3' b4 fa0 fa3 fa4 fb0 fb3 fb4 k0 k1
  obtain ⟨k0, k1⟩ := key_cells2 (HL.out.bs (w.heap.size, #[u64 x, u64 y]) (by simp)).1
  obtain ⟨c0, c1, c2, c3, c4, c5, c6⟩ := tok_cells (w := w) (E := 0) (HL.out.bs (w.heap.size + 1, #[.int .i64 bk, .int .i64 r2, .int .i64 d2, .int .i64 10, .int .i64 20, .int .i64 n2, u64 g2]) (by simp)).1
  go_wp2_with fail
  refine (HISS2.out _).mono ?_
  rintro e v2 ⟨rfl, hb⟩
  have HB2 := Lib.hid (lbAdd HL (hb.trans (Below.alloc (Below.refl _ _) hb.size _)) (blkNew (W := v2) (C := #[.int .i64 bk, .int .i64 r2, .int .i64 d2, .int .i64 10, .int .i64 20, .int .i64 n2, u64 G2]) (E := 36) rfl) hb.size)
  clear hb HL k0 k1 c0 c1 c2 c3 c4 c5 c6
  go_upto_region 9 with (fail)
  have HL : Hid (LkB w gk ((v2.heap.size, #[.int .i64 bk, .int .i64 r2, .int .i64 d2, .int .i64 10, .int .i64 20, .int .i64 n2, u64 G2]) :: [(w.heap.size, #[u64 x, u64 y]), (w.heap.size + 1, #[.int .i64 bk, .int .i64 r2, .int .i64 d2, .int .i64 10, .int .i64 20, .int .i64 n2, u64 g2]), (w.heap.size + 1 + 1, #[.int .i64 bk, .int .i64 r3, .int .i64 d3, .int .i64 10, .int .i64 20, .int .i64 n3, u64 g3])]) ⟨bk, x, y, 1, 0, []⟩ (.slice none 0 0) (v2.alloc (.cells #[.int .i64 bk, .int .i64 r2, .int .i64 d2, .int .i64 10, .int .i64 20, .int .i64 n2, u64 G2] 36))) := HB2.out
  clear HB2
  generalize v2.alloc (.cells #[.int .i64 bk, .int .i64 r2, .int .i64 d2, .int .i64 10, .int .i64 20, .int .i64 n2, u64 G2] 36) = W2 at *
  generalize v2.heap.size = sb at *
  obtain ⟨k0, k1⟩ := key_cells2 (HL.out.bs (w.heap.size, #[u64 x, u64 y]) (by simp)).1
  obtain ⟨c0, c1, c2, c3, c4, c5, c6⟩ := tok_cells (w := w) (E := 0) (HL.out.bs (w.heap.size + 1 + 1, #[.int .i64 bk, .int .i64 r3, .int .i64 d3, .int .i64 10, .int .i64 20, .int .i64 n3, u64 g3]) (by simp)).1
  go_wp2_with fail
  refine (HISS3.out _).mono ?_
  rintro e v3 ⟨rfl, hb⟩
  have HB3 := Lib.hid (lbAdd HL (hb.trans (Below.alloc (Below.refl _ _) hb.size _)) (blkNew (W := v3) (C := #[.int .i64 bk, .int .i64 r3, .int .i64 d3, .int .i64 10, .int .i64 20, .int .i64 n3, u64 G3]) (E := 36) rfl) hb.size)
  clear hb HL k0 k1 c0 c1 c2 c3 c4 c5 c6
  go_upto_region 12 with (fail)
  have HL : Hid (LkB w gk ((v3.heap.size, #[.int .i64 bk, .int .i64 r3, .int .i64 d3, .int .i64 10, .int .i64 20, .int .i64 n3, u64 G3]) :: (sb, #[.int .i64 bk, .int .i64 r2, .int .i64 d2, .int .i64 10, .int .i64 20, .int .i64 n2, u64 G2]) :: [(w.heap.size, #[u64 x, u64 y]), (w.heap.size + 1, #[.int .i64 bk, .int .i64 r2, .int .i64 d2, .int .i64 10, .int .i64 20, .int .i64 n2, u64 g2]), (w.heap.size + 1 + 1, #[.int .i64 bk, .int .i64 r3, .int .i64 d3, .int .i64 10, .int .i64 20, .int .i64 n3, u64 g3])]) ⟨bk, x, y, 1, 0, []⟩ (.slice none 0 0) (v3.alloc (.cells #[.int .i64 bk, .int .i64 r3, .int .i64 d3, .int .i64 10, .int .i64 20, .int .i64 n3, u64 G3] 36))) := HB3.out
  clear HB3
  generalize v3.alloc (.cells #[.int .i64 bk, .int .i64 r3, .int .i64 d3, .int .i64 10, .int .i64 20, .int .i64 n3, u64 G3] 36) = W3 at *
  generalize v3.heap.size = tb at *
  go_upto_region 13 with (fail)
  have HL2 := lbAdd HL (below_alloc W3 (.cells #[.int .i64 12, .int .i64 13] 43)) (blkNew rfl) (Nat.le_refl _)
  clear HL
  generalize W3.alloc (.cells #[.int .i64 12, .int .i64 13] 43) = W4 at *
  generalize W3.heap.size = pb at *
  obtain ⟨p0, p1⟩ := key_cells2 (HL2.out.bs (pb, #[.int .i64 12, .int .i64 13]) (by simp)).1
  obtain ⟨c0, c1, c2, c3, c4, c5, c6⟩ := tok_cells (w := w) (E := 0) (HL2.out.bs (sb, #[.int .i64 bk, .int .i64 r2, .int .i64 d2, .int .i64 10, .int .i64 20, .int .i64 n2, u64 G2]) (by simp)).1
  go_wp2_with fail
  refine (unlock_lb HL2 HT1.out).mono ?_
  rintro e w5 ⟨rfl, u5, HL5⟩
  clear HL2 p0 p1 c0 c1 c2 c3 c4 c5 c6
  go_wp2_with fail
  refine (close_lb HL5 on_t2).mono ?_
  rintro e w6 ⟨rfl, u6, HL6⟩
  clear HL5
  obtain ⟨p0, p1⟩ := key_cells2 (HL6.out.bs (pb, #[.int .i64 12, .int .i64 13]) (by simp)).1
  obtain ⟨c0, c1, c2, c3, c4, c5, c6⟩ := tok_cells (w := w) (E := 0) (HL6.out.bs (sb, #[.int .i64 bk, .int .i64 r2, .int .i64 d2, .int .i64 10, .int .i64 20, .int .i64 n2, u64 G2]) (by simp)).1
  go_wp2_with fail
  refine (unlock_lb HL6 HT3.out).mono ?_
  rintro e w7 ⟨rfl, u7, HL7⟩
  clear HL6 p0 p1 c0 c1 c2 c3 c4 c5 c6
  obtain ⟨p0, p1⟩ := key_cells2 (HL7.out.bs (pb, #[.int .i64 12, .int .i64 13]) (by simp)).1
  obtain ⟨c0, c1, c2, c3, c4, c5, c6⟩ := tok_cells (w := w) (E := 0) (HL7.out.bs (tb, #[.int .i64 bk, .int .i64 r3, .int .i64 d3, .int .i64 10, .int .i64 20, .int .i64 n3, u64 G3]) (by simp)).1
  by_cases hn : n3 ≤ n2
  · go_wp2_with fail
    refine (unlock_lb HL7 (HT4.out hn)).mono ?_
    rintro e w8 ⟨rfl, u8, HL8⟩
    clear HL7 p0 p1 c0 c1 c2 c3 c4 c5 c6
    obtain ⟨c0, c1, c2, c3, c4, c5, c6⟩ := tok_cells (w := w) (E := 0) (HL8.out.bs (tb, #[.int .i64 bk, .int .i64 r3, .int .i64 d3, .int .i64 10, .int .i64 20, .int .i64 n3, u64 G3]) (by simp)).1
    obtain ⟨d0, d1, d2', d3', d4, d5, d6⟩ := tok_cells (w := w) (E := 0) (HL8.out.bs (sb, #[.int .i64 bk, .int .i64 r2, .int .i64 d2, .int .i64 10, .int .i64 20, .int .i64 n2, u64 G2]) (by simp)).1
    have hcmp : ¬ n2 < n3 := by omega
    go_wp2_with fail
    refine (reports_lbn 2 HL8 rfl).mono ?_
    rintro e w9 ⟨a9, c9, rfl, HL9⟩
    clear HL8 c0 c1 c2 c3 c4 c5 c6 d0 d1 d2' d3' d4 d5 d6
    go_wp2_with fail
    refine (state_lbn 1 HL9 rfl).mono ?_
    rintro e w10 ⟨rfl, hw⟩
    subst w10
    go_wp2_with fail
    refine (awake16_any _).mono ?_
    rintro e wz ⟨rfl, hbz⟩
    have HBZ := Lib.hid (below_step HL9.out.lo hbz)
    clear hbz
    go_wp2
    go_ret
    exact ⟨rfl, HBZ.out⟩
  · go_wp2_with fail
    refine (unlock_lb HL7 (HT5.out hn)).mono ?_
    rintro e w8 ⟨rfl, u8, HL8⟩
    clear HL7 p0 p1 c0 c1 c2 c3 c4 c5 c6
    obtain ⟨c0, c1, c2, c3, c4, c5, c6⟩ := tok_cells (w := w) (E := 0) (HL8.out.bs (tb, #[.int .i64 bk, .int .i64 r3, .int .i64 d3, .int .i64 10, .int .i64 20, .int .i64 n3, u64 G3]) (by simp)).1
    obtain ⟨d0, d1, d2', d3', d4, d5, d6⟩ := tok_cells (w := w) (E := 0) (HL8.out.bs (sb, #[.int .i64 bk, .int .i64 r2, .int .i64 d2, .int .i64 10, .int .i64 20, .int .i64 n2, u64 G2]) (by simp)).1
    have hcmp : n2 < n3 := by omega
    go_wp2_with fail
    refine (reports_lbn 3 HL8 rfl).mono ?_
    rintro e w9 ⟨a9, c9, rfl, HL9⟩
    clear HL8 c0 c1 c2 c3 c4 c5 c6 d0 d1 d2' d3' d4 d5 d6
    go_wp2_with fail
    refine (state_lbn 2 HL9 rfl).mono ?_
    rintro e w10 ⟨rfl, hw⟩
    subst w10
    go_wp2_with fail
    refine (awake16_any _).mono ?_
    rintro e wz ⟨rfl, hbz⟩
    have HBZ := Lib.hid (below_step HL9.out.lo hbz)
    clear hbz
    go_wp2
    go_ret
    exact ⟨rfl, HBZ.out⟩
theorem lockOnce_walk (bk : Int) (x y : BitVec 64) (b2 r2 d2 f2 t2 n2 : Int) (g2 : BitVec 64) (b3 r3 d3 f3 t3 n3 : Int) (g3 : BitVec 64) (w : World) : Calls Try.prog 14 #[.int .i64 bk, .agg #[u64 x, u64 y], .agg #[.int .i64 b2, .int .i64 r2, .int .i64 d2, .int .i64 f2, .int .i64 t2, .int .i64 n2, u64 g2], .agg #[.int .i64 b3, .int .i64 r3, .int .i64 d3, .int .i64 f3, .int .i64 t3, .int .i64 n3, u64 g3]] w (RetB (.bool true) w) := by
  by_cases hb : bk < 0 ∨ 128 ≤ bk
  · exact lockOnce_bad bk x y b2 r2 d2 f2 t2 n2 g2 b3 r3 d3 f3 t3 n3 g3 w hb
  · have hbk : 0 ≤ bk ∧ bk < 128 := by omega
    by_cases h2 : Tok.bad ⟨bk, r2, d2, 10, 20, n2⟩ <;> by_cases h3 : Tok.bad ⟨bk, r3, d3, 10, 20, n3⟩
    · exact lockOnce_bb bk x y b2 r2 d2 f2 t2 n2 g2 b3 r3 d3 f3 t3 n3 g3 w hbk h2 h3
    · exact lockOnce_bo bk x y b2 r2 d2 f2 t2 n2 g2 b3 r3 d3 f3 t3 n3 g3 w hbk h2 h3
    · exact lockOnce_ob bk x y b2 r2 d2 f2 t2 n2 g2 b3 r3 d3 f3 t3 n3 g3 w hbk h2 h3
    · exact lockOnce_oo bk x y b2 r2 d2 f2 t2 n2 g2 b3 r3 d3 f3 t3 n3 g3 w hbk h2 h3
end Go.Proofs.Ytgfgkgidpinmoaa
