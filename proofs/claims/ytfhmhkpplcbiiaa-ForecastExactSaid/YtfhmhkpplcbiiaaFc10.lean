/-
  FORECAST, THE EXAMPLES: Ten, awake.
-/
import Derived.Test.YtfhmhkpplcbiiaaProg
import Derived.Test.YtfhmhkpplcbiiaaBase3
import Derived.Test.YtfhmhkpplcbiiaaBase5
import Derived.Test.YtfhmhkpplcbiiaaBase6
import Derived.Test.YtfhmhkpplcbiiaaBase7
import Derived.Test.YtfhmhkpplcbiiaaDrawP
import Derived.Test.YtfhmhkpplcbiiaaDraw4
import Derived.Test.YtfhmhkpplcbiiaaDraw5
import Derived.Test.YtfhmhkpplcbiiaaDraw6
import Derived.Test.YtfhmhkpplcbiiaaDrawL0
import Derived.Test.YtfhmhkpplcbiiaaDrawP2
import Derived.Test.YtfhmhkpplcbiiaaFcP
import Derived.Test.YtfhmhkpplcbiiaaFc1
import Derived.Test.YtfhmhkpplcbiiaaFc2
import Derived.Test.YtfhmhkpplcbiiaaFc3
import Derived.Test.YtfhmhkpplcbiiaaFc3c
import Derived.Test.YtfhmhkpplcbiiaaFc6
import Derived.Test.YtfhmhkpplcbiiaaFcP2
import Derived.Test.YtfhmhkpplcbiiaaFc7
import Derived.Test.YtfhmhkpplcbiiaaFc8
import Derived.Test.YtfhmhkpplcbiiaaFc9
import Derived.Test.YtfhmhkpplcbiiaaHeld
import Derived.BigQuiet
import Derived.Laws.StructEq
import Derived.StillTailTactics
import Derived.RegionTactic
import Derived.BigRegion
import Derived.Deep.DeepCutAuto
import Derived.Deep.QuietTactic
import Derived.WalkSpells
import Derived.WalkLawsBesides
namespace Go.Proofs.Ytfhmhkpplcbiiaa
open Go.RowKit
set_option linter.unusedVariables false

def zeros : Array Value := madeCells #[.int .i64 0] (168 * 1)
theorem zeros_size : zeros.size = 168 := by kernel_rfl
theorem hmk168 (w : World) : (Instr.makeSlice 23 (.int .i64 168) (.int .i64 168)).run Try.prog w = .ok (.slice (some ⟨w.heap.size, 0, none⟩) 168 168) (w.alloc (.cells zeros 3)) := by
  obtain ⟨i, hi, hz0, hsz, hby⟩ := info_parts infoI
  have := run_make (P := Try.prog) w 23 3 i (.int .i64 0) Try.underlying23 hi hz0 .i64 .i64 168 168 (by omega) (by omega) (by rw [hby]; decide) (by omega)
  rw [hsz] at this
  exact this

def tenL : List Int := (List.replicate 168 0).set 5 10
def zerL : List Int := List.replicate 168 0
theorem zeros_eq : zeros = (cs i64v zerL).toArray := by kernel_rfl
theorem tens_eq : zeros.setIfInBounds 5 (.int .i64 10) = (cs i64v tenL).toArray := by kernel_rfl
theorem blk_other {W : World} {k : Nat} {C : Array Value} {a : Addr} {v : Value} (h : BlkAt W k C) (hk : k ≠ a.block) : BlkAt (W.setCell a v) k C := h.elim fun E h => ⟨E, by rw [heap_setCell_other _ _ _ _ hk]; exact h⟩
theorem blk_set {W : World} {k i : Nat} {C : Array Value} {v : Value} (h : BlkAt W k C) : BlkAt (W.setCell ⟨k, i, none⟩ v) k (C.setIfInBounds i v) := h.elim fun E h => ⟨E, heap_setCell_same W k i _ E v h⟩
structure TenW (w : World) (g ga gb : Nat) (wx : World) : Prop where
  b0 : BlkAt wx w.heap.size #[.int .i64 0, .slice none 0 0, .slice none 0 0]
  b1 : BlkAt wx g #[.int .i64 1, .slice (some ⟨ga, 0, none⟩) 168 168, .slice (some ⟨gb, 0, none⟩) 168 168]
  b2 : BlkAt wx ga zeros
  b3 : BlkAt wx gb zeros
  bl : Below w.heap.size w wx
  n1 : w.heap.size < g
  n2 : w.heap.size < ga
  n3 : w.heap.size < gb
  n4 : g ≠ ga
  n5 : g ≠ gb
  n6 : ga ≠ gb
theorem three_cells {W : World} {k : Nat} {x y z : Value} (h : BlkAt W k #[x, y, z]) : W.cell? ⟨k, 0, none⟩ = some x ∧ W.cell? ⟨k, 1, none⟩ = some y ∧ W.cell? ⟨k, 2, none⟩ = some z ∧ W.frozen? ⟨k, 0, none⟩ = false ∧ W.frozen? ⟨k, 1, none⟩ = false ∧ W.frozen? ⟨k, 2, none⟩ = false := by
  obtain ⟨E, h⟩ := h
  refine ⟨?_, ?_, ?_, frozen_of_row _ _ _ _ _ h, frozen_of_row _ _ _ _ _ h, frozen_of_row _ _ _ _ _ h⟩ <;> rw [cell_of_row _ _ _ _ _ _ h] <;> rfl
/-- The counts of the examples. -/
def TenAt (W : World) (a b : Option Addr) : Prop := Sl W 1 a 168 168 (cs i64v tenL) ∧ Sl W 1 b 168 168 (cs i64v zerL)

set_option maxRecDepth 100000 in
set_option maxHeartbeats 4000000 in
theorem ten_any (w : World) : Calls Try.prog 60 #[] w (fun e w' => ∃ a b, e = .returned (.agg #[.int .i64 1, .slice a 168 168, .slice b 168 168]) ∧ Hid (TenAt w' a b) ∧ Below w.heap.size w w') := by
  have hmk := hmk168
  go_enter Try.func60, Try.ntmps60
  go_wp2
  go_cut [1, 2, 3] (fun p a b wx => ∃ g ga gb, p = .pointer (some ⟨g, 0, none⟩) ∧ a = .slice (some ⟨ga, 0, none⟩) 168 168 ∧ b = .slice (some ⟨gb, 0, none⟩) 168 168 ∧ Hid (TenW w g ga gb wx))
  case first =>
    go_region
    all_goals
      go_wp2_with fail
      go_meet
      refine ⟨_, _, _, rfl, rfl, rfl, ⟨?_, ?_, ?_, ?_, ?_, by omega, by omega, by omega, by omega, by omega, by omega⟩⟩
      all_goals first
        | exact below_drew (below_step (below_step (below_step (below_alloc _ _) (below_alloc _ _)) (below_alloc _ _)) (below_alloc _ _))
        | (repeat (first | ((with_reducible refine blkNew ?_); focus (simp; done)) | (with_reducible refine blkDrew ?_) | (with_reducible refine blkOld ?_)))
  case rest =>
    obtain ⟨g, ga, gb, rfl, rfl, rfl, hT⟩ := hcut
    obtain ⟨c0, c1, c2, f0, f1, f2⟩ := three_cells hT.out.b0
    obtain ⟨d0, d1, d2, _, _, _⟩ := three_cells hT.out.b1
    obtain ⟨k0, k1⟩ : wc.cell? ⟨ga, 5, none⟩ = some (.int .i64 0) ∧ wc.frozen? ⟨ga, 5, none⟩ = false := by
      obtain ⟨E, h⟩ := hT.out.b2
      refine ⟨?_, frozen_of_row _ _ _ _ _ h⟩
      rw [cell_of_row _ _ _ _ _ _ h]
      kernel_rfl
    clear hmk
    have hF : Hid (TenAt ((((wc.setCell ⟨ga, 5, none⟩ (.int .i64 10)).setCell ⟨w.heap.size, 0, none⟩ (.int .i64 1)).setCell ⟨w.heap.size, 1, none⟩ (.slice (some ⟨ga, 0, none⟩) 168 168)).setCell ⟨w.heap.size, 2, none⟩ (.slice (some ⟨gb, 0, none⟩) 168 168)) (some ⟨ga, 0, none⟩) (some ⟨gb, 0, none⟩)) := by
      have hh := hT.out
      have e2 := hh.n2
      have e3 := hh.n3
      have e6 := hh.n6
      refine ⟨sl_blk (C := zeros.setIfInBounds 5 (.int .i64 10)) (blk_other (blk_other (blk_other (blk_set hh.b2) ?_) ?_) ?_) tens_eq 168 (by kernel_rfl) (by omega), sl_blk (C := zeros) (blk_other (blk_other (blk_other (blk_other hh.b3 ?_) ?_) ?_) ?_) zeros_eq 168 (by kernel_rfl) (by omega)⟩ <;> (intro e; simp at e; omega)
    have hB : Hid (Below w.heap.size w ((((wc.setCell ⟨ga, 5, none⟩ (.int .i64 10)).setCell ⟨w.heap.size, 0, none⟩ (.int .i64 1)).setCell ⟨w.heap.size, 1, none⟩ (.slice (some ⟨ga, 0, none⟩) 168 168)).setCell ⟨w.heap.size, 2, none⟩ (.slice (some ⟨gb, 0, none⟩) 168 168))) := by
      have hh := hT.out
      have e2 := hh.n2
      exact ((((hh.bl.setCell (p := ⟨ga, 5, none⟩) (by show w.heap.size ≤ ga; omega) _).setCell (p := ⟨w.heap.size, 0, none⟩) (Nat.le_refl _) _).setCell (p := ⟨w.heap.size, 1, none⟩) (Nat.le_refl _) _).setCell (p := ⟨w.heap.size, 2, none⟩) (Nat.le_refl _) _)
    go_wp2
    refine bodyPost_ret (v := .agg #[.int .i64 1, .slice (some ⟨ga, 0, none⟩) 168 168, .slice (some ⟨gb, 0, none⟩) 168 168]) ?_ rfl ⟨_, _, rfl, hF, hB.out⟩
    rw [results_cell1 rfl]
    go_simp
end Go.Proofs.Ytfhmhkpplcbiiaa
