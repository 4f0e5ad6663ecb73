/-
  SMALL FACTS ON BLOCKS.
-/
import Derived.Test.YtdgjdbpbnipjcaaProg
import Derived.Test.YtdgjdbpbnipjcaaBase7
import Derived.Test.YtdgjdbpbnipjcaaFlat
import Derived.BigQuiet
import Derived.Laws.StructEq
import Derived.StillTailTactics
import Derived.RegionTactic
import Derived.Deep.DeepCutAuto
import Derived.Deep.QuietTactic
import Derived.WalkSpells
import Derived.WalkLawsBesides
namespace Go.Proofs.Ytdgjdbpbnipjcaa
open Go.RowKit
set_option linter.unusedVariables false

theorem blkU_off {W : World} {k : Nat} {C : Array Value} {a : Addr} {v : Value} (h : BlkAt W k C) (hne : k ≠ a.block) : BlkAt (W.setCell a v) k C := h.elim fun E h => ⟨E, by rw [Below.heap_setCell W a v k hne]; exact h⟩
theorem blkU_set {W : World} {k i : Nat} {C : Array Value} {v : Value} (h : BlkAt W k C) : BlkAt (W.setCell ⟨k, i, none⟩ v) k (C.setIfInBounds i v) := h.elim fun E h => ⟨E, heap_setCell_same W k i _ E v h⟩
theorem blkU_frozen {W : World} {k i : Nat} {C : Array Value} (h : BlkAt W k C) : W.frozen? ⟨k, i, none⟩ = false := h.elim fun E h => frozen_of_row _ _ _ _ _ h
theorem blkU_cell {W : World} {k i : Nat} {C : Array Value} {v : Value} (h : BlkAt W k C) (hv : C[i]? = some v) : W.cell? ⟨k, i, none⟩ = some v := h.elim fun E h => by rw [cell_of_row _ _ _ _ _ _ h]; exact hv
/-- A block below a bound is kept by all that happens above it. -/
theorem blkU_low {B : Nat} {W W' : World} {k : Nat} {C : Array Value} (hb : Below B W W') (hk : k < B) (h : BlkAt W k C) : BlkAt W' k C := h.elim fun E h => ⟨E, by rw [hb.block k hk]; exact h⟩
theorem below_set0 {B i : Nat} {a w : World} {u : Value} (h : Below B a w) : Below B a (w.setCell ⟨B, i, none⟩ u) := h.setCell (Nat.le_refl _) u
theorem results_cell_tmpU {fn : Func} {p q : Tmp} {ty : TypeId} (h : fn.results = #[.cell p ty, .tmp q]) (tmps : Array Value) (P : Program) (w : World) :
    (results fn tmps).run P w = ((asAddr (tmps.getD p undef)).run P w).andThen fun a w1 => ((loadVar ty a).run P w1).andThen fun v w2 => .ok (.tuple #[v, tmps.getD q undef]) w2 := by
  simp only [results, h]
  simp [Sem.run_bind, Result.andThen]
  done
end Go.Proofs.Ytdgjdbpbnipjcaa
