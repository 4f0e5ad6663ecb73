/-
  EVENTS: numbers of events, rows that are sorted.
-/
import Derived.Test.YtdgjdbpbnipjcaaTrL
import Derived.Test.YtdgjdbpbnipjcaaTrJ
import Derived.Test.YtdgjdbpbnipjcaaFlat
import Derived.Shelf.SlSortCmp.WholeK
import Derived.Shelf.SlSortCmp.QuietGrown
import Derived.Sort.OwnSorted
import Derived.BigQuiet
import Derived.BigRegion
import Derived.Laws.StructEq
import Derived.StillTailTactics
import Derived.RegionTactic
import Derived.Deep.DeepCutAuto
import Derived.Deep.QuietTactic
import Derived.Deep.RegionHeld3
import Derived.WalkSpells
import Derived.WalkLawsBesides
namespace Go.Proofs.Ytdgjdbpbnipjcaa
open Go.RowKit Go.Sort
set_option linter.unusedVariables false

def numEq (x y : EvL) : Bool := decide (x.d = y.d) && decide (x.s = y.s)
set_option maxHeartbeats 1000000 in
theorem numberOf_any (x : EvL) (w : World) : Calls Try.prog 43 #[.agg (evA x)] w (fun e w' => e = .returned (.agg #[.int .i64 x.d, .int .i64 x.s]) ∧ GrW w w') := by
  obtain ⟨d, s, a, l, k, b, p, r, e⟩ := x
  dsimp only [evA] at *
  go_enter Try.func43, Try.ntmps43
  go_wp2
  (try simp only [Exit.inBlock, Exit.then])
  refine bodyPost_ret (v := .agg #[.int .i64 d, .int .i64 s]) ?_ rfl ⟨rfl, (grw_alloc _ _).trans (grw_alloc _ _)⟩
  rw [results_cell1 rfl]
  go_simp
theorem num_eql (a b c d : Int) (w : World) : (binOp .eql 85 (.agg #[.int .i64 a, .int .i64 b]) (.agg #[.int .i64 c, .int .i64 d])).run Try.prog w = .ok (.bool (decide (a = c) && decide (b = d))) w := by
  have h1 : Try.prog.underlying 85 = some (.struct (Try.prog.fieldsOf 85)) := by kernel_rfl
  have h2 : Try.prog.stoodInHeld 85 = false := by kernel_rfl
  rw [run_eql_struct, run_equalIn_agg _ _ _ _ _ h1 h2]
  simp only [Program.fieldsOf, Try.underlying85]
  clear h1 h2
  go_simp
  by_cases e0 : a = c
  case neg => simp [e0]
  by_cases e1 : b = d
  case neg => simp [e0, e1]
  simp [e0, e1]
set_option maxRecDepth 100000 in
set_option maxHeartbeats 4000000 in
theorem set2_any (x y : EvL) (w : World) : Calls Try.prog 42 #[.agg (evA x), .agg (evA y)] w (fun e w' => e = .returned (.bool (numEq x y)) ∧ GrW w w') := by
  have mixed : Try.prog.follows .mixedOrders = true := srtLay.mixed
  have HN1 := Lib.hid (fun W => numberOf_any x W)
  have HN2 := Lib.hid (fun W => numberOf_any y W)
  have hq : ∀ W, (binOp .eql 85 (.agg #[.int .i64 x.d, .int .i64 x.s]) (.agg #[.int .i64 y.d, .int .i64 y.s])).run Try.prog W = .ok (.bool (numEq x y)) W := fun W => num_eql _ _ _ _ W
  generalize numEq x y = R at *
  obtain ⟨x0, x1, x2, x3, x4, x5, x6, x7, x8⟩ := x
  obtain ⟨y0, y1, y2, y3, y4, y5, y6, y7, y8⟩ := y
  dsimp only [evA] at *
  have HB1 : Hid (BlkAt ((w.alloc (.cells #[.int .i64 x0, .int .i64 x1, .int .i64 x2, .int .i64 x3, .int .i64 x4, .int .i64 x5, .int .i64 x6, .int .i64 x7, .int .i64 x8] 27)).alloc (.cells #[.int .i64 y0, .int .i64 y1, .int .i64 y2, .int .i64 y3, .int .i64 y4, .int .i64 y5, .int .i64 y6, .int .i64 y7, .int .i64 y8] 27)) w.heap.size #[.int .i64 x0, .int .i64 x1, .int .i64 x2, .int .i64 x3, .int .i64 x4, .int .i64 x5, .int .i64 x6, .int .i64 x7, .int .i64 x8]) := Lib.hid (blkOld (blkNew rfl))
  have HB2 : Hid (BlkAt ((w.alloc (.cells #[.int .i64 x0, .int .i64 x1, .int .i64 x2, .int .i64 x3, .int .i64 x4, .int .i64 x5, .int .i64 x6, .int .i64 x7, .int .i64 x8] 27)).alloc (.cells #[.int .i64 y0, .int .i64 y1, .int .i64 y2, .int .i64 y3, .int .i64 y4, .int .i64 y5, .int .i64 y6, .int .i64 y7, .int .i64 y8] 27)) (w.heap.size + 1) #[.int .i64 y0, .int .i64 y1, .int .i64 y2, .int .i64 y3, .int .i64 y4, .int .i64 y5, .int .i64 y6, .int .i64 y7, .int .i64 y8]) := Lib.hid (blkNew (by simp))
  have HG : Hid (GrW w ((w.alloc (.cells #[.int .i64 x0, .int .i64 x1, .int .i64 x2, .int .i64 x3, .int .i64 x4, .int .i64 x5, .int .i64 x6, .int .i64 x7, .int .i64 x8] 27)).alloc (.cells #[.int .i64 y0, .int .i64 y1, .int .i64 y2, .int .i64 y3, .int .i64 y4, .int .i64 y5, .int .i64 y6, .int .i64 y7, .int .i64 y8] 27))) := Lib.hid ((grw_alloc _ _).trans (grw_alloc _ _))
  go_enter Try.func42, Try.ntmps42
  go_upto_region 1 with (fail)
  generalize (w.alloc (.cells #[.int .i64 x0, .int .i64 x1, .int .i64 x2, .int .i64 x3, .int .i64 x4, .int .i64 x5, .int .i64 x6, .int .i64 x7, .int .i64 x8] 27)).alloc (.cells #[.int .i64 y0, .int .i64 y1, .int .i64 y2, .int .i64 y3, .int .i64 y4, .int .i64 y5, .int .i64 y6, .int .i64 y7, .int .i64 y8] 27) = W1 at *
  obtain ⟨a0, a1, a2, a3, a4, a5, a6, a7, a8, b0, b1, b2, b3, b4, b5, b6, b7, b8⟩ := c18g HB1.out HB2.out
  generalize w.heap.size = g at *
  go_quiet_grown (first
    | (go_at_call 43; (with_reducible refine Calls.grown_of (HN1.out _)))
    | (go_at_call 43; (with_reducible refine Calls.grown_of (HN2.out _))))
  go_wp2
  go_ret
  exact ⟨rfl, HG.out.trans ⟨_, _, rfl⟩⟩
end Go.Proofs.Ytdgjdbpbnipjcaa
