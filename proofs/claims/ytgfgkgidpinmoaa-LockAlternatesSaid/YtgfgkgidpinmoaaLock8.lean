/-
  LOCKS, THE WALKS: ticket.
-/
import Derived.Test.YtgfgkgidpinmoaaProg
import Derived.Test.YtgfgkgidpinmoaaBase3
import Derived.Test.YtgfgkgidpinmoaaBase5
import Derived.Test.YtgfgkgidpinmoaaBase6
import Derived.Test.YtgfgkgidpinmoaaBase7
import Derived.Test.YtgfgkgidpinmoaaBase14
import Derived.Test.YtgfgkgidpinmoaaTok2R
import Derived.Test.YtgfgkgidpinmoaaLockP
import Derived.Test.YtgfgkgidpinmoaaHeld
import Derived.BigQuiet
import Derived.Laws.StructEq
import Derived.StillTailTactics
import Derived.RegionTactic
import Derived.Deep.DeepCutAuto
import Derived.Deep.QuietTactic
import Derived.WalkSpells
import Derived.WalkLawsBesides
namespace Go.Proofs.Ytgfgkgidpinmoaa
open Go.RowKit
set_option linter.unusedVariables false

theorem belowT {w W : World} {x0 x1 x2 x3 x4 x5 x6 : Value} (h : Below w.heap.size w W) : Below w.heap.size w (((((((W.setCell ⟨w.heap.size + 1, 0, none⟩ x0).setCell ⟨w.heap.size + 1, 1, none⟩ x1).setCell ⟨w.heap.size + 1, 2, none⟩ x2).setCell ⟨w.heap.size + 1, 3, none⟩ x3).setCell ⟨w.heap.size + 1, 4, none⟩ x4).setCell ⟨w.heap.size + 1, 5, none⟩ x5).setCell ⟨w.heap.size + 1, 6, none⟩ x6) :=
  ((((((h.setCell (by simp) _).setCell (by simp) _).setCell (by simp) _).setCell (by simp) _).setCell (by simp) _).setCell (by simp) _).setCell (by simp) _
abbrev tkA (b r d f t n : Int) (x : BitVec 64) : Array Value := #[.int .i64 b, .int .i64 r, .int .i64 d, .int .i64 f, .int .i64 t, .int .i64 n, u64 x]
theorem tik_ok {n : Int} (h : 1 ≤ n ∧ n ≤ 1048576) : ¬ Tok.bad ⟨5, 3, 8, 0, 1000, n⟩ := by
  unfold Tok.bad
  dsimp only
  omega
set_option maxRecDepth 100000 in
set_option maxHeartbeats 600000 in
theorem ticket_any (ka kb : BitVec 64) (n : Int) (w : World) (hn : 1 ≤ n ∧ n ≤ 1048576) : Calls Try.prog 54 #[.agg #[u64 ka, u64 kb], .int .i64 n] w (RetB (.agg (tkA 5 3 8 0 1000 n (tagOf ka kb 5 3 8 0 1000 n))) w) := by
  have hiss := fun w => refIssue_ok ka kb 5 3 8 0 1000 n 0 w (tik_ok hn)
  have HISS : Hid (∀ w, Calls Try.prog 27 #[.agg #[u64 ka, u64 kb], .agg #[.int .i64 5, .int .i64 3, .int .i64 8, .int .i64 0, .int .i64 1000, .int .i64 n, .int .u64 0]] w (RetB (.tuple #[.agg #[.int .i64 5, .int .i64 3, .int .i64 8, .int .i64 0, .int .i64 1000, .int .i64 n, u64 (tagOf ka kb 5 3 8 0 1000 n)], .int .i64 0]) w)) := hiss
  clear hiss hn
  generalize tagOf ka kb 5 3 8 0 1000 n = G at *
  have hr : Hid (BlkAt ((w.alloc (.cells #[u64 ka, u64 kb] 32)).alloc (.cells #[.int .i64 0, .int .i64 0, .int .i64 0, .int .i64 0, .int .i64 0, .int .i64 0, .int .u64 0] 36)) (w.heap.size + 1) #[.int .i64 0, .int .i64 0, .int .i64 0, .int .i64 0, .int .i64 0, .int .i64 0, .int .u64 0] ∧ Below w.heap.size w ((w.alloc (.cells #[u64 ka, u64 kb] 32)).alloc (.cells #[.int .i64 0, .int .i64 0, .int .i64 0, .int .i64 0, .int .i64 0, .int .i64 0, .int .u64 0] 36))) := ⟨blkNew (by simp), below_step (below_alloc _ _) (below_alloc _ _)⟩
  go_enter Try.func54, Try.ntmps54
  go_upto_region 2 with (go_at_call 27; refine (HISS.out _).mono ?_; rintro e w1 ⟨rfl, hb1⟩)
  have HR := Lib.hid (blkOld (o := .cells (tkA 5 3 8 0 1000 n G) 36) (blkBelow hb1 hr.out.1))
  have HB := Lib.hid (below_step (below_step hr.out.2 hb1) (below_alloc w1 (.cells (tkA 5 3 8 0 1000 n G) 36)))
  have HT : Hid (BlkAt (w1.alloc (.cells (tkA 5 3 8 0 1000 n G) 36)) w1.heap.size (tkA 5 3 8 0 1000 n G)) := blkNew rfl
  generalize w1.alloc (.cells (tkA 5 3 8 0 1000 n G) 36) = W at *
  generalize w1.heap.size = K at *
  obtain ⟨d0, d1, d2, d3, d4, d5, d6⟩ := tok_cells (w := w) (E := 0) HT.out
  clear hb1 hr
  obtain ⟨z0, z1, z2, z3, z4, z5, z6⟩ := tok_cells (w := w) (E := 0) HR.out
  have e0 := blkX_frozen (i := 0) HR.out
  have e1 := blkX_frozen (i := 1) HR.out
  have e2 := blkX_frozen (i := 2) HR.out
  have e3 := blkX_frozen (i := 3) HR.out
  have e4 := blkX_frozen (i := 4) HR.out
  have e5 := blkX_frozen (i := 5) HR.out
  have e6 := blkX_frozen (i := 6) HR.out
  go_wp2
  refine bodyPost_ret (v := .agg (tkA 5 3 8 0 1000 n G)) ?_ rfl ⟨rfl, ?_⟩
  · rw [results_cell1 rfl]
    go_simp
  · exact belowT HB.out
end Go.Proofs.Ytgfgkgidpinmoaa
