/-
  LOCKS OVER A LINK: the event of a report; equal reports; how many numbers.
-/
import Derived.Test.YtpmjgiabedjlgaaTlP
import Derived.Test.YtpmjgiabedjlgaaTlD
import Derived.Test.YtpmjgiabedjlgaaLock6
import Derived.BigQuiet
import Derived.Laws.StructEq
import Derived.StillTailTactics
import Derived.RegionTactic
import Derived.Deep.DeepCutAuto
import Derived.Deep.QuietTactic
import Derived.WalkSpells
import Derived.WalkLawsBesides
namespace Go.Proofs.Ytpmjgiabedjlgaa
open Go.RowKit
set_option linter.unusedVariables false

theorem six_cells9 {W : World} {k : Nat} {x0 x1 x2 x3 x4 x5 : Value} (h : BlkAt W k #[x0, x1, x2, x3, x4, x5]) : W.cell? ⟨k, 0, none⟩ = some x0 ∧ W.cell? ⟨k, 1, none⟩ = some x1 ∧ W.cell? ⟨k, 2, none⟩ = some x2 ∧ W.cell? ⟨k, 3, none⟩ = some x3 ∧ W.cell? ⟨k, 4, none⟩ = some x4 ∧ W.cell? ⟨k, 5, none⟩ = some x5 := by
  obtain ⟨E, h⟩ := h
  refine ⟨?_, ?_, ?_, ?_, ?_, ?_⟩ <;> (rw [cell_of_row _ _ _ _ _ _ h]; rfl)
theorem nine_cells {W : World} {k : Nat} {x0 x1 x2 x3 x4 x5 x6 x7 x8 : Value} (h : BlkAt W k #[x0, x1, x2, x3, x4, x5, x6, x7, x8]) : W.cell? ⟨k, 0, none⟩ = some x0 ∧ W.cell? ⟨k, 1, none⟩ = some x1 ∧ W.cell? ⟨k, 2, none⟩ = some x2 ∧ W.cell? ⟨k, 3, none⟩ = some x3 ∧ W.cell? ⟨k, 4, none⟩ = some x4 ∧ W.cell? ⟨k, 5, none⟩ = some x5 ∧ W.cell? ⟨k, 6, none⟩ = some x6 ∧ W.cell? ⟨k, 7, none⟩ = some x7 ∧ W.cell? ⟨k, 8, none⟩ = some x8 := by
  obtain ⟨E, h⟩ := h
  refine ⟨?_, ?_, ?_, ?_, ?_, ?_, ?_, ?_, ?_⟩ <;> (rw [cell_of_row _ _ _ _ _ _ h]; rfl)
/-- What FromReport keeps. -/
structure FrpW (w : World) (R E : Array Value) (W : World) : Prop where
  r : BlkAt W w.heap.size R
  e : BlkAt W (w.heap.size + 1) E
  lo : Below w.heap.size w W
theorem frpBelow {w W W' : World} {R E : Array Value} (h : Hid (FrpW w R E W)) (hb : Below W.heap.size W W') : Hid (FrpW w R E W') := ⟨blkBelow hb h.out.r, blkBelow hb h.out.e, below_step h.out.lo hb⟩
theorem frpStart (w : World) (R E : Array Value) (F G : TypeId) : Hid (FrpW w R E ((w.alloc (.cells R F)).alloc (.cells E G))) := Lib.hid ⟨blkOld (blkNew rfl), blkNew (by simp), below_step (below_alloc _ _) (below_alloc _ _)⟩
def zEv : Array Value := #[.int .i64 0, .int .i64 0, .int .i64 0, .int .i64 0, .int .i64 0, .int .i64 0, .int .i64 0, .int .i64 0, .int .i64 0]
set_option maxRecDepth 100000 in
set_option maxHeartbeats 2000000 in
theorem fromReport_any (b : Nat) (base ppm seq loc kind place rider ride : Int) (w : World) (h : Hid (BlkAt w b #[.int .i64 0, .int .i64 base, .int .i64 base])) (h0 : 0 ≤ base) (h1 : base ≤ 1000000) (p0 : 0 ≤ ppm) (p1 : ppm ≤ 100000) (l0 : 0 ≤ loc) (l1 : loc ≤ 10000) (hk : kind = 2 ∨ kind = 3 ∨ kind = 5 ∨ kind = 6) (s0 : 1 ≤ seq) (s1 : seq ≤ 1048576) :
    Calls Try.prog 17 #[.int .i64 9, .int .i64 3, .agg #[.int .i64 seq, .int .i64 loc, .int .i64 kind, .int .i64 place, .int .i64 rider, .int .i64 ride], .slice (some ⟨b, 0, none⟩) 1 1, .int .i64 ppm] w
      (RetB (.tuple #[.agg #[.int .i64 9, .int .i64 seq, .int .i64 (base + elLo loc ppm), .int .i64 (base + elHi loc ppm), .int .i64 kind, .int .i64 3, .int .i64 place, .int .i64 rider, .int .i64 ride], .int .i64 0]) w) := by
  have HBN := Lib.hid (fun W hW => bounds1 b base ppm loc W hW h0 h1 p0 p1 l0 l1)
  generalize base + elLo loc ppm = x at *
  generalize base + elHi loc ppm = y at *
  have HW := frpStart w #[.int .i64 seq, .int .i64 loc, .int .i64 kind, .int .i64 place, .int .i64 rider, .int .i64 ride] zEv 45 40
  have HS : Hid (BlkAt ((w.alloc (.cells #[.int .i64 seq, .int .i64 loc, .int .i64 kind, .int .i64 place, .int .i64 rider, .int .i64 ride] 45)).alloc (.cells zEv 40)) b #[.int .i64 0, .int .i64 base, .int .i64 base]) := Lib.hid (blkOld (blkOld h.out))
  clear h
  go_enter Try.func17, Try.ntmps17
  go_upto_region 1 with (fail)
  unfold zEv at HW HS
  generalize (w.alloc (.cells #[.int .i64 seq, .int .i64 loc, .int .i64 kind, .int .i64 place, .int .i64 rider, .int .i64 ride] 45)).alloc (.cells #[.int .i64 0, .int .i64 0, .int .i64 0, .int .i64 0, .int .i64 0, .int .i64 0, .int .i64 0, .int .i64 0, .int .i64 0] 40) = W1 at *
  obtain ⟨c0, c1, c2, c3, c4, c5⟩ := six_cells9 HW.out.r
  go_wp2_with fail
  refine (HBN.out _ HS).mono ?_
  rintro e w2 ⟨rfl, hb2⟩
  have HW3 := frpBelow (frpBelow HW hb2) (below_alloc w2 (.cells #[.int .i64 x, .int .i64 y] 74))
  have HX3 : Hid (BlkAt (w2.alloc (.cells #[.int .i64 x, .int .i64 y] 74)) w2.heap.size #[.int .i64 x, .int .i64 y]) := Lib.hid (blkNew rfl)
  clear c0 c1 c2 c3 c4 c5 HW HS HBN hb2
  go_upto_region 4 with (fail)
  generalize w2.alloc (.cells #[.int .i64 x, .int .i64 y] 74) = W3 at *
  generalize w2.heap.size = xb at *
  obtain ⟨c0, c1, c2, c3, c4, c5⟩ := six_cells9 HW3.out.r
  obtain ⟨f0, f1, _, _⟩ := two_facts HX3.out
  have hfz : ∀ i, W3.frozen? ⟨w.heap.size + 1, i, none⟩ = false := fun i => HW3.out.e.elim fun E h => frozen_of_row _ _ _ _ _ h
  obtain ⟨z0, z1, z2, z3, z4, z5, z6, z7, z8⟩ := nine_cells HW3.out.e
  rcases hk with rfl | rfl | rfl | rfl
  all_goals
    go_wp2_with (first
      | (go_at_call 41; (with_reducible refine (within_yes _ _ _ _ (by omega) (by omega)).mono ?_); rintro e w' ⟨rfl, rfl⟩))
    refine bodyPost_ret (v := .tuple #[.agg #[.int .i64 9, .int .i64 seq, .int .i64 x, .int .i64 y, .int .i64 _, .int .i64 3, .int .i64 place, .int .i64 rider, .int .i64 ride], .int .i64 0]) ?_ rfl ⟨rfl, ?_⟩
    · rw [results_cell_tmp rfl]
      go_simp
    · repeat (refine Below.setCell ?_ (Nat.le_succ _) _)
      exact HW3.out.lo
end Go.Proofs.Ytpmjgiabedjlgaa
