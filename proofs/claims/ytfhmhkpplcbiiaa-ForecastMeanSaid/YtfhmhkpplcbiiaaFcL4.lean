/-
  FORECAST, THE LAWS' WALKS: ForecastMean.
-/
import Derived.Test.YtfhmhkpplcbiiaaProg
import Derived.Test.YtfhmhkpplcbiiaaBase3
import Derived.Test.YtfhmhkpplcbiiaaBase5
import Derived.Test.YtfhmhkpplcbiiaaBase6
import Derived.Test.YtfhmhkpplcbiiaaBase7
import Derived.Test.YtfhmhkpplcbiiaaDrawP
import Derived.Test.YtfhmhkpplcbiiaaDraw4
import Derived.Test.YtfhmhkpplcbiiaaDraw5
import Derived.Test.YtfhmhkpplcbiiaaDrawL0
import Derived.Test.YtfhmhkpplcbiiaaFcP
import Derived.Test.YtfhmhkpplcbiiaaFc1
import Derived.Test.YtfhmhkpplcbiiaaFc2
import Derived.Test.YtfhmhkpplcbiiaaFc3
import Derived.Test.YtfhmhkpplcbiiaaFcP2
import Derived.Test.YtfhmhkpplcbiiaaFcP3
import Derived.Test.YtfhmhkpplcbiiaaFc7
import Derived.Test.YtfhmhkpplcbiiaaFc9
import Derived.Test.YtfhmhkpplcbiiaaFc10
import Derived.Test.YtfhmhkpplcbiiaaFc11
import Derived.Test.YtfhmhkpplcbiiaaFcL1
import Derived.Test.YtfhmhkpplcbiiaaHeld
import Derived.BigQuiet
import Derived.Laws.StructEq
import Derived.StillTailTactics
import Derived.RegionTactic
import Derived.BigRegion
import Derived.Deep.DeepCutAuto
import Derived.Deep.QuietTactic
import Derived.WalkSpells
import Derived.WalkLawsBesides
namespace Go.Proofs.Ytfhmhkpplcbiiaa
open Go.RowKit
set_option linter.unusedVariables false

/-- The counts' cells and the question's. -/
structure MeanW (w : World) (X : Nat) (st : Int) (a1 : Option Addr) (l1 c1 : Nat) (a2 : Option Addr) (l2 c2 : Nat) (k p s sl h : Int) (W : World) : Prop where
  c : BlkAt W w.heap.size #[.int .i64 st, .slice a1 l1 c1, .slice a2 l2 c2]
  x : BlkAt W X #[.int .i64 k, .int .i64 p, .int .i64 s, .int .i64 sl, .int .i64 h]
  b : Below w.heap.size w W
  n : w.heap.size < X
section
variable {w W W' : World} {X : Nat} {st : Int} {a1 : Option Addr} {l1 c1 : Nat} {a2 : Option Addr} {l2 c2 : Nat} {k p s sl h : Int}
theorem MeanW.step (q : MeanW w X st a1 l1 c1 a2 l2 c2 k p s sl h W) (hb : Below W.heap.size W W') : MeanW w X st a1 l1 c1 a2 l2 c2 k p s sl h W' := ⟨blkBelow hb q.c, blkBelow hb q.x, below_step q.b hb, q.n⟩
theorem MeanW.set (q : MeanW w X st a1 l1 c1 a2 l2 c2 k p s sl h W) {Y i : Nat} {v : Value} (h1 : w.heap.size < Y) (h2 : X ≠ Y) : MeanW w X st a1 l1 c1 a2 l2 c2 k p s sl h (W.setCell ⟨Y, i, none⟩ v) :=
  ⟨blk_other q.c (by show _ ≠ Y; omega), blk_other q.x h2, q.b.setCell (p := ⟨Y, i, none⟩) (Nat.le_of_lt h1) v, q.n⟩
theorem MeanW.cells (q : MeanW w X st a1 l1 c1 a2 l2 c2 k p s sl h W) : W.cell? ⟨w.heap.size, 0, none⟩ = some (.int .i64 st) ∧ W.cell? ⟨w.heap.size, 1, none⟩ = some (.slice a1 l1 c1) ∧ W.cell? ⟨w.heap.size, 2, none⟩ = some (.slice a2 l2 c2) ∧
    W.cell? ⟨X, 0, none⟩ = some (.int .i64 k) ∧ W.cell? ⟨X, 1, none⟩ = some (.int .i64 p) ∧ W.cell? ⟨X, 2, none⟩ = some (.int .i64 s) ∧ W.cell? ⟨X, 3, none⟩ = some (.int .i64 sl) ∧ W.cell? ⟨X, 4, none⟩ = some (.int .i64 h) := by
  obtain ⟨d0, d1, d2, _⟩ := three_cells q.c
  obtain ⟨e0, e1, e2, e3, e4, _⟩ := five_cells q.x
  exact ⟨d0, d1, d2, e0, e1, e2, e3, e4⟩
/-- Two copies of the question. -/
structure MeanY (w : World) (X Y Z : Nat) (k p s sl h : Int) (W : World) : Prop where
  y : BlkAt W Y #[.int .i64 k, .int .i64 p, .int .i64 s, .int .i64 sl, .int .i64 h]
  z : BlkAt W Z #[.int .i64 k, .int .i64 p, .int .i64 s, .int .i64 sl, .int .i64 h]
  n1 : w.heap.size < Y
  n2 : w.heap.size < Z
  n3 : X ≠ Y
  n4 : X ≠ Z
  n5 : Y ≠ Z
end
theorem five_frozen {W : World} {k i : Nat} {C : Array Value} (h : BlkAt W k C) : W.frozen? ⟨k, i, none⟩ = false := by
  obtain ⟨E, h⟩ := h
  exact frozen_of_row _ _ _ _ _ h
theorem taken_s {A : Int} {P L : List Int} {W : World} {a : Option Addr} {c m : Nat} (hm : m ≤ 1000) (hL : Hid (L = stepsL A P)) (hA : Hid (ltN A P = A)) (hs : Hid (Sl W 1 a m c (cs i64v L))) :
    Calls Try.prog 50 #[.slice a m c] W (fun e w' => e = .returned (.tuple #[.int .i64 A, .bool true]) ∧ w' = W) := by
  have h := hs.out
  rw [hL.out] at h
  have := taken_any A P a m c W h (by omega)
  rw [hA.out] at this
  exact this
theorem scen_m {st k p s sl h : Int} {xs ys : List Int} {a1 a2 : Option Addr} {l1 c1 l2 c2 : Nat} {w W : World} {ws : List (BitVec 64)} {ao : Option Addr} {len cap : Nat} {L : List Int} {f : Int} {m : Nat} (hr : Hid (caseF (expc st xs ys k p s sl h) ws = (L, f))) (hm : Hid (L.length = m)) (h1 : Hid (Sl w 1 a1 l1 c1 (cs i64v xs))) (h2 : Hid (Sl w 1 a2 l2 c2 (cs i64v ys))) (hs : Hid (Sl w 1 ao len cap (cs u64 ws))) (hlen : len ≤ 1000000000000) (hb : Below w.heap.size w W) :
    Calls Try.prog 47 #[.agg #[.int .i64 st, .slice a1 l1 c1, .slice a2 l2 c2], .agg #[.int .i64 k, .int .i64 p, .int .i64 s, .int .i64 sl, .int .i64 h], .slice ao len cap] W (fun q w' => ∃ a c, q = .returned (.tuple #[.slice a m c, .int .i64 f]) ∧ Hid (Sl w' 1 a m c (cs i64v L)) ∧ Below W.heap.size W w') := by
  have := scen_s hr h1 h2 hs hlen hb
  rw [hm.out] at this
  exact this

end Go.Proofs.Ytfhmhkpplcbiiaa
