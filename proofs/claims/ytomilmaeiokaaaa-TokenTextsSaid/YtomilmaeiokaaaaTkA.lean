/-
  TOKENS, THE EXAMPLES: awake.
-/
import Derived.Test.YtomilmaeiokaaaaProg
import Derived.Test.YtomilmaeiokaaaaBase15
import Derived.Test.YtomilmaeiokaaaaMacP
import Derived.Test.YtomilmaeiokaaaaTokP
import Derived.Test.YtomilmaeiokaaaaTkP
import Derived.Test.YtomilmaeiokaaaaTok1
import Derived.Test.YtomilmaeiokaaaaTok2
import Derived.Test.YtomilmaeiokaaaaWire1
import Derived.Test.YtomilmaeiokaaaaWire2
import Derived.Test.YtomilmaeiokaaaaWire5
import Derived.Test.YtomilmaeiokaaaaTok3
import Derived.Test.YtomilmaeiokaaaaTkE
import Derived.Test.YtomilmaeiokaaaaTkT
import Derived.Test.YtomilmaeiokaaaaTkV
import Derived.Test.YtomilmaeiokaaaaTkD
import Derived.Test.YtomilmaeiokaaaaTkR
import Derived.Test.YtomilmaeiokaaaaTkS
import Derived.Test.YtomilmaeiokaaaaHeld
import Derived.BigQuiet
import Derived.Laws.StructEq
import Derived.StillTailTactics
import Derived.RegionTactic
import Derived.BigRegion
import Derived.Deep.RegionHeld3
import Derived.Deep.DeepCutAuto
import Derived.Deep.QuietTactic
import Derived.WalkSpells
import Derived.WalkLawsBesides
namespace Go.Proofs.Ytomilmaeiokaaaa
open Go.RowKit
set_option linter.unusedVariables false

section
variable {w w1 w2 : World} {a0 a1 a2 a3 a4 a5 a6 a7 a8 : Addr} {v0 v1 v2 v3 v4 v5 v6 v7 v8 : Value}
theorem keepN (hb : Below w1.heap.size w1 w2) (h : w1.cell? a0 = some v0 ∧ w1.cell? a1 = some v1 ∧ w1.cell? a2 = some v2 ∧ w1.cell? a3 = some v3 ∧ w1.cell? a4 = some v4 ∧ w1.cell? a5 = some v5 ∧ w1.cell? a6 = some v6 ∧ w1.cell? a7 = some v7 ∧ w1.cell? a8 = some v8 ∧ Below w.heap.size w w1) : w2.cell? a0 = some v0 ∧ w2.cell? a1 = some v1 ∧ w2.cell? a2 = some v2 ∧ w2.cell? a3 = some v3 ∧ w2.cell? a4 = some v4 ∧ w2.cell? a5 = some v5 ∧ w2.cell? a6 = some v6 ∧ w2.cell? a7 = some v7 ∧ w2.cell? a8 = some v8 ∧ Below w.heap.size w w2 := ⟨cell_keep hb h.1, cell_keep hb h.2.1, cell_keep hb h.2.2.1, cell_keep hb h.2.2.2.1, cell_keep hb h.2.2.2.2.1, cell_keep hb h.2.2.2.2.2.1, cell_keep hb h.2.2.2.2.2.2.1, cell_keep hb h.2.2.2.2.2.2.2.1, cell_keep hb h.2.2.2.2.2.2.2.2.1, below_step h.2.2.2.2.2.2.2.2.2 hb⟩
theorem keepND (h : w1.cell? a0 = some v0 ∧ w1.cell? a1 = some v1 ∧ w1.cell? a2 = some v2 ∧ w1.cell? a3 = some v3 ∧ w1.cell? a4 = some v4 ∧ w1.cell? a5 = some v5 ∧ w1.cell? a6 = some v6 ∧ w1.cell? a7 = some v7 ∧ w1.cell? a8 = some v8 ∧ Below w.heap.size w w1) : w1.drew.cell? a0 = some v0 ∧ w1.drew.cell? a1 = some v1 ∧ w1.drew.cell? a2 = some v2 ∧ w1.drew.cell? a3 = some v3 ∧ w1.drew.cell? a4 = some v4 ∧ w1.drew.cell? a5 = some v5 ∧ w1.drew.cell? a6 = some v6 ∧ w1.drew.cell? a7 = some v7 ∧ w1.drew.cell? a8 = some v8 ∧ Below w.heap.size w w1.drew := ⟨h.1, h.2.1, h.2.2.1, h.2.2.2.1, h.2.2.2.2.1, h.2.2.2.2.2.1, h.2.2.2.2.2.2.1, h.2.2.2.2.2.2.2.1, h.2.2.2.2.2.2.2.2.1, below_drew h.2.2.2.2.2.2.2.2.2⟩
theorem keepNA (o : Obj) (h : w1.cell? a0 = some v0 ∧ w1.cell? a1 = some v1 ∧ w1.cell? a2 = some v2 ∧ w1.cell? a3 = some v3 ∧ w1.cell? a4 = some v4 ∧ w1.cell? a5 = some v5 ∧ w1.cell? a6 = some v6 ∧ w1.cell? a7 = some v7 ∧ w1.cell? a8 = some v8 ∧ Below w.heap.size w w1) : (w1.alloc o).cell? a0 = some v0 ∧ (w1.alloc o).cell? a1 = some v1 ∧ (w1.alloc o).cell? a2 = some v2 ∧ (w1.alloc o).cell? a3 = some v3 ∧ (w1.alloc o).cell? a4 = some v4 ∧ (w1.alloc o).cell? a5 = some v5 ∧ (w1.alloc o).cell? a6 = some v6 ∧ (w1.alloc o).cell? a7 = some v7 ∧ (w1.alloc o).cell? a8 = some v8 ∧ Below w.heap.size w (w1.alloc o) := keepN (below_alloc _ _) h
end
section
variable {w w1 w2 : World} {a0 a1 a2 a3 a4 a5 a6 a7 a8 a9 a10 a11 a12 a13 a14 a15 : Addr} {v0 v1 v2 v3 v4 v5 v6 v7 v8 v9 v10 v11 v12 v13 v14 v15 : Value}
theorem keepX (hb : Below w1.heap.size w1 w2) (h : w1.cell? a0 = some v0 ∧ w1.cell? a1 = some v1 ∧ w1.cell? a2 = some v2 ∧ w1.cell? a3 = some v3 ∧ w1.cell? a4 = some v4 ∧ w1.cell? a5 = some v5 ∧ w1.cell? a6 = some v6 ∧ w1.cell? a7 = some v7 ∧ w1.cell? a8 = some v8 ∧ w1.cell? a9 = some v9 ∧ w1.cell? a10 = some v10 ∧ w1.cell? a11 = some v11 ∧ w1.cell? a12 = some v12 ∧ w1.cell? a13 = some v13 ∧ w1.cell? a14 = some v14 ∧ w1.cell? a15 = some v15 ∧ Below w.heap.size w w1) : w2.cell? a0 = some v0 ∧ w2.cell? a1 = some v1 ∧ w2.cell? a2 = some v2 ∧ w2.cell? a3 = some v3 ∧ w2.cell? a4 = some v4 ∧ w2.cell? a5 = some v5 ∧ w2.cell? a6 = some v6 ∧ w2.cell? a7 = some v7 ∧ w2.cell? a8 = some v8 ∧ w2.cell? a9 = some v9 ∧ w2.cell? a10 = some v10 ∧ w2.cell? a11 = some v11 ∧ w2.cell? a12 = some v12 ∧ w2.cell? a13 = some v13 ∧ w2.cell? a14 = some v14 ∧ w2.cell? a15 = some v15 ∧ Below w.heap.size w w2 := ⟨cell_keep hb h.1, cell_keep hb h.2.1, cell_keep hb h.2.2.1, cell_keep hb h.2.2.2.1, cell_keep hb h.2.2.2.2.1, cell_keep hb h.2.2.2.2.2.1, cell_keep hb h.2.2.2.2.2.2.1, cell_keep hb h.2.2.2.2.2.2.2.1, cell_keep hb h.2.2.2.2.2.2.2.2.1, cell_keep hb h.2.2.2.2.2.2.2.2.2.1, cell_keep hb h.2.2.2.2.2.2.2.2.2.2.1, cell_keep hb h.2.2.2.2.2.2.2.2.2.2.2.1, cell_keep hb h.2.2.2.2.2.2.2.2.2.2.2.2.1, cell_keep hb h.2.2.2.2.2.2.2.2.2.2.2.2.2.1, cell_keep hb h.2.2.2.2.2.2.2.2.2.2.2.2.2.2.1, cell_keep hb h.2.2.2.2.2.2.2.2.2.2.2.2.2.2.2.1, below_step h.2.2.2.2.2.2.2.2.2.2.2.2.2.2.2.2 hb⟩
theorem keepXD (h : w1.cell? a0 = some v0 ∧ w1.cell? a1 = some v1 ∧ w1.cell? a2 = some v2 ∧ w1.cell? a3 = some v3 ∧ w1.cell? a4 = some v4 ∧ w1.cell? a5 = some v5 ∧ w1.cell? a6 = some v6 ∧ w1.cell? a7 = some v7 ∧ w1.cell? a8 = some v8 ∧ w1.cell? a9 = some v9 ∧ w1.cell? a10 = some v10 ∧ w1.cell? a11 = some v11 ∧ w1.cell? a12 = some v12 ∧ w1.cell? a13 = some v13 ∧ w1.cell? a14 = some v14 ∧ w1.cell? a15 = some v15 ∧ Below w.heap.size w w1) : w1.drew.cell? a0 = some v0 ∧ w1.drew.cell? a1 = some v1 ∧ w1.drew.cell? a2 = some v2 ∧ w1.drew.cell? a3 = some v3 ∧ w1.drew.cell? a4 = some v4 ∧ w1.drew.cell? a5 = some v5 ∧ w1.drew.cell? a6 = some v6 ∧ w1.drew.cell? a7 = some v7 ∧ w1.drew.cell? a8 = some v8 ∧ w1.drew.cell? a9 = some v9 ∧ w1.drew.cell? a10 = some v10 ∧ w1.drew.cell? a11 = some v11 ∧ w1.drew.cell? a12 = some v12 ∧ w1.drew.cell? a13 = some v13 ∧ w1.drew.cell? a14 = some v14 ∧ w1.drew.cell? a15 = some v15 ∧ Below w.heap.size w w1.drew := ⟨h.1, h.2.1, h.2.2.1, h.2.2.2.1, h.2.2.2.2.1, h.2.2.2.2.2.1, h.2.2.2.2.2.2.1, h.2.2.2.2.2.2.2.1, h.2.2.2.2.2.2.2.2.1, h.2.2.2.2.2.2.2.2.2.1, h.2.2.2.2.2.2.2.2.2.2.1, h.2.2.2.2.2.2.2.2.2.2.2.1, h.2.2.2.2.2.2.2.2.2.2.2.2.1, h.2.2.2.2.2.2.2.2.2.2.2.2.2.1, h.2.2.2.2.2.2.2.2.2.2.2.2.2.2.1, h.2.2.2.2.2.2.2.2.2.2.2.2.2.2.2.1, below_drew h.2.2.2.2.2.2.2.2.2.2.2.2.2.2.2.2⟩
theorem keepXA (o : Obj) (h : w1.cell? a0 = some v0 ∧ w1.cell? a1 = some v1 ∧ w1.cell? a2 = some v2 ∧ w1.cell? a3 = some v3 ∧ w1.cell? a4 = some v4 ∧ w1.cell? a5 = some v5 ∧ w1.cell? a6 = some v6 ∧ w1.cell? a7 = some v7 ∧ w1.cell? a8 = some v8 ∧ w1.cell? a9 = some v9 ∧ w1.cell? a10 = some v10 ∧ w1.cell? a11 = some v11 ∧ w1.cell? a12 = some v12 ∧ w1.cell? a13 = some v13 ∧ w1.cell? a14 = some v14 ∧ w1.cell? a15 = some v15 ∧ Below w.heap.size w w1) : (w1.alloc o).cell? a0 = some v0 ∧ (w1.alloc o).cell? a1 = some v1 ∧ (w1.alloc o).cell? a2 = some v2 ∧ (w1.alloc o).cell? a3 = some v3 ∧ (w1.alloc o).cell? a4 = some v4 ∧ (w1.alloc o).cell? a5 = some v5 ∧ (w1.alloc o).cell? a6 = some v6 ∧ (w1.alloc o).cell? a7 = some v7 ∧ (w1.alloc o).cell? a8 = some v8 ∧ (w1.alloc o).cell? a9 = some v9 ∧ (w1.alloc o).cell? a10 = some v10 ∧ (w1.alloc o).cell? a11 = some v11 ∧ (w1.alloc o).cell? a12 = some v12 ∧ (w1.alloc o).cell? a13 = some v13 ∧ (w1.alloc o).cell? a14 = some v14 ∧ (w1.alloc o).cell? a15 = some v15 ∧ Below w.heap.size w (w1.alloc o) := keepX (below_alloc _ _) h
end
theorem aw15_ok : ¬ Tok.bad ⟨3, 1, 9, 100, 200, 5⟩ := by decide
theorem aw15_first : ¬ Tok.bad ⟨0, 1, 2, 0, 1, 1⟩ := by decide
theorem aw15_txt : txtB (encB 0 1 2 0 1 1 0#64) = [48, 48, 49, 48, 56, 48, 48, 50, 48, 56, 48, 48, 48, 48, 48, 48, 48, 48, 48, 48, 48, 48, 48] := by kernel_rfl
theorem aw15_idx : ∀ j, j < 23 → idxA (([48, 48, 49, 48, 56, 48, 48, 50, 48, 56, 48, 48, 48, 48, 48, 48, 48, 48, 48, 48, 48, 48, 48] : List UInt8).getD j 0) < 32 := by decide
theorem aw15_rd : rdS (decB [48, 48, 49, 48, 56, 48, 48, 50, 48, 56, 48, 48, 48, 48, 48, 48, 48, 48, 48, 48, 48, 48, 48]) 6 = some ([0, 1, 2, 0, 1, 1], 6) := by kernel_rfl
theorem aw15_len : (decB [48, 48, 49, 48, 56, 48, 48, 50, 48, 56, 48, 48, 48, 48, 48, 48, 48, 48, 48, 48, 48, 48, 48]).length = 6 + 8 := by kernel_rfl
theorem aw15_tag : tagR ((decB [48, 48, 49, 48, 56, 48, 48, 50, 48, 56, 48, 48, 48, 48, 48, 48, 48, 48, 48, 48, 48, 48, 48]).drop 6) = 0#64 := by kernel_rfl
theorem aw15_none : rdS (decB []) 6 = none := by kernel_rfl
theorem aw15_nz : (tagOf 1#64 2#64 3 1 9 100 200 5) = 2837742347150846373#64 := by kernel_rfl
theorem aw15_use {ka kb G : BitVec 64} {b r d f t n bike lo hi last : Int} (hok : ¬ Tok.bad ⟨b, r, d, f, t, n⟩) (hG : tagOf ka kb b r d f t n = G) : usable ka kb b r d f t n G bike lo hi last = if b ≠ bike then 7 else if n ≤ last then 20 else if lo < f then 18 else if t ≤ hi then 19 else if hi < lo then 1 else 0 := by
  unfold usable
  rw [gen_ok hok, hG, decide_eq_true rfl, if_neg (by decide)]
theorem first_any (w : World) : Calls Try.prog 44 #[] w (RetB (.agg #[.int .i64 0, .int .i64 1, .int .i64 2, .int .i64 0, .int .i64 1, .int .i64 1, .int .u64 0]) w) := by
  go_enter Try.func44, Try.ntmps44
  go_wp2
  refine bodyPost_ret (v := .agg #[.int .i64 0, .int .i64 1, .int .i64 2, .int .i64 0, .int .i64 1, .int .i64 1, .int .u64 0]) ?_ rfl ⟨rfl, ?_⟩
  · rw [results_cell1 rfl]
    go_simp
  · exact below_alloc _ _
/-- What the examples keep. -/
structure Aw15 (w : World) (kb tb xb : Nat) (W : World) : Prop where
  k : BlkAt W kb #[.int .u64 1, .int .u64 2]
  t : BlkAt W tb #[.int .i64 3, .int .i64 1, .int .i64 9, .int .i64 100, .int .i64 200, .int .i64 5, .int .u64 2837742347150846373]
  x : BlkAt W xb #[.int .i64 0, .int .i64 1, .int .i64 2, .int .i64 0, .int .i64 1, .int .i64 1, .int .u64 0]
  lo : Below w.heap.size w W
theorem aw15_step {w W W' : World} {kb tb xb : Nat} (h : Hid (Aw15 w kb tb xb W)) (hb : Below W.heap.size W W') : Hid (Aw15 w kb tb xb W') := ⟨blkBelow hb h.out.k, blkBelow hb h.out.t, blkBelow hb h.out.x, below_step h.out.lo hb⟩
theorem aw15_cells {w W : World} {kb tb xb : Nat} (h : Hid (Aw15 w kb tb xb W)) : W.cell? ⟨kb, 0, none⟩ = some (.int .u64 1) ∧ W.cell? ⟨kb, 1, none⟩ = some (.int .u64 2) ∧ W.cell? ⟨tb, 0, none⟩ = some (.int .i64 3) ∧ W.cell? ⟨tb, 1, none⟩ = some (.int .i64 1) ∧ W.cell? ⟨tb, 2, none⟩ = some (.int .i64 9) ∧ W.cell? ⟨tb, 3, none⟩ = some (.int .i64 100) ∧ W.cell? ⟨tb, 4, none⟩ = some (.int .i64 200) ∧ W.cell? ⟨tb, 5, none⟩ = some (.int .i64 5) ∧ W.cell? ⟨tb, 6, none⟩ = some (.int .u64 2837742347150846373) ∧ W.cell? ⟨xb, 0, none⟩ = some (.int .i64 0) ∧ W.cell? ⟨xb, 1, none⟩ = some (.int .i64 1) ∧ W.cell? ⟨xb, 2, none⟩ = some (.int .i64 2) ∧ W.cell? ⟨xb, 3, none⟩ = some (.int .i64 0) ∧ W.cell? ⟨xb, 4, none⟩ = some (.int .i64 1) ∧ W.cell? ⟨xb, 5, none⟩ = some (.int .i64 1) ∧ W.cell? ⟨xb, 6, none⟩ = some (.int .u64 0) ∧ Below W.heap.size W W := by
  obtain ⟨k0, k1⟩ := key_cells2 h.out.k
  obtain ⟨c0, c1, c2, c3, c4, c5, c6⟩ := tok_cells (w := w) (E := 0) h.out.t
  obtain ⟨d0, d1, d2, d3, d4, d5, d6⟩ := tok_cells (w := w) (E := 0) h.out.x
  exact ⟨k0, k1, c0, c1, c2, c3, c4, c5, c6, d0, d1, d2, d3, d4, d5, d6, Below.refl _ _⟩
theorem aw15_cells9 {w W : World} {kb tb xb : Nat} (h : Hid (Aw15 w kb tb xb W)) : W.cell? ⟨kb, 0, none⟩ = some (.int .u64 1) ∧ W.cell? ⟨kb, 1, none⟩ = some (.int .u64 2) ∧ W.cell? ⟨tb, 0, none⟩ = some (.int .i64 3) ∧ W.cell? ⟨tb, 1, none⟩ = some (.int .i64 1) ∧ W.cell? ⟨tb, 2, none⟩ = some (.int .i64 9) ∧ W.cell? ⟨tb, 3, none⟩ = some (.int .i64 100) ∧ W.cell? ⟨tb, 4, none⟩ = some (.int .i64 200) ∧ W.cell? ⟨tb, 5, none⟩ = some (.int .i64 5) ∧ W.cell? ⟨tb, 6, none⟩ = some (.int .u64 2837742347150846373) ∧ Below W.heap.size W W := by
  obtain ⟨k0, k1⟩ := key_cells2 h.out.k
  obtain ⟨c0, c1, c2, c3, c4, c5, c6⟩ := tok_cells (w := w) (E := 0) h.out.t
  exact ⟨k0, k1, c0, c1, c2, c3, c4, c5, c6, Below.refl _ _⟩
set_option maxRecDepth 100000 in
set_option maxHeartbeats 2000000 in
theorem awake15_any (w : World) : Calls Try.prog 24 #[] w (RetB (.bool true) w) := by
  have hG := aw15_nz
  have HIS : Hid (∀ W, Calls Try.prog 18 #[.agg #[.int .u64 1, .int .u64 2], .agg #[.int .i64 3, .int .i64 1, .int .i64 9, .int .i64 100, .int .i64 200, .int .i64 5, .int .u64 0]] W (RetB (.tuple #[.agg #[.int .i64 3, .int .i64 1, .int .i64 9, .int .i64 100, .int .i64 200, .int .i64 5, .int .u64 2837742347150846373], .int .i64 0]) W)) := fun W => by
    have := issue_ok 1#64 2#64 3 1 9 100 200 5 0#64 W aw15_ok
    rw [hG] at this
    exact this
  have HTX : Hid (∀ W, Calls Try.prog 29 #[.agg #[.int .i64 0, .int .i64 1, .int .i64 2, .int .i64 0, .int .i64 1, .int .i64 1, .int .u64 0]] W (RetB (.tuple #[.string ⟨#[48, 48, 49, 48, 56, 48, 48, 50, 48, 56, 48, 48, 48, 48, 48, 48, 48, 48, 48, 48, 48, 48, 48]⟩, .int .i64 0]) W)) := fun W => by
    have := text_ok 0 1 2 0 1 1 0#64 W aw15_first
    rw [aw15_txt] at this
    exact this
  have HP1 : Hid (∀ W, Calls Try.prog 31 #[.string ⟨#[48, 48, 49, 48, 56, 48, 48, 50, 48, 56, 48, 48, 48, 48, 48, 48, 48, 48, 48, 48, 48, 48, 48]⟩] W (RetB (.tuple #[.agg #[.int .i64 0, .int .i64 1, .int .i64 2, .int .i64 0, .int .i64 1, .int .i64 1, .int .u64 0], .int .i64 0]) W)) := fun W => by
    have := parse_ok ⟨#[48, 48, 49, 48, 56, 48, 48, 50, 48, 56, 48, 48, 48, 48, 48, 48, 48, 48, 48, 48, 48, 48, 48]⟩ W (by decide) aw15_idx 0 1 2 0 1 1 6 aw15_rd aw15_len aw15_first (by rw [aw15_tag]; exact aw15_txt)
    rw [aw15_tag] at this
    exact this
  have HP2 : Hid (∀ W, Calls Try.prog 31 #[.string ⟨#[]⟩] W (RetB (.tuple #[.agg #[.int .i64 0, .int .i64 0, .int .i64 0, .int .i64 0, .int .i64 0, .int .i64 0, .int .u64 0], .int .i64 3]) W)) := fun W => parse_read ⟨#[]⟩ W (by decide) (fun j hj => absurd hj (by simp)) (fun l a h => by rw [aw15_none] at h; cases h)
  have HU1 : Hid (∀ W, Calls Try.prog 25 #[.agg #[.int .u64 1, .int .u64 2], .agg #[.int .i64 3, .int .i64 1, .int .i64 9, .int .i64 100, .int .i64 200, .int .i64 5, .int .u64 2837742347150846373], .int .i64 3, .agg #[.int .i64 100, .int .i64 199], .int .i64 4] W (RetB (.int .i64 0) W)) := fun W => by
    have := usable_any 1#64 2#64 3 1 9 100 200 5 2837742347150846373#64 3 100 199 4 W
    rw [aw15_use aw15_ok hG] at this
    exact this
  have HU2 : Hid (∀ W, Calls Try.prog 25 #[.agg #[.int .u64 1, .int .u64 2], .agg #[.int .i64 3, .int .i64 1, .int .i64 9, .int .i64 100, .int .i64 200, .int .i64 5, .int .u64 2837742347150846373], .int .i64 3, .agg #[.int .i64 99, .int .i64 150], .int .i64 4] W (RetB (.int .i64 18) W)) := fun W => by
    have := usable_any 1#64 2#64 3 1 9 100 200 5 2837742347150846373#64 3 99 150 4 W
    rw [aw15_use aw15_ok hG] at this
    exact this
  have HU3 : Hid (∀ W, Calls Try.prog 25 #[.agg #[.int .u64 1, .int .u64 2], .agg #[.int .i64 3, .int .i64 1, .int .i64 9, .int .i64 100, .int .i64 200, .int .i64 5, .int .u64 2837742347150846373], .int .i64 3, .agg #[.int .i64 150, .int .i64 200], .int .i64 4] W (RetB (.int .i64 19) W)) := fun W => by
    have := usable_any 1#64 2#64 3 1 9 100 200 5 2837742347150846373#64 3 150 200 4 W
    rw [aw15_use aw15_ok hG] at this
    exact this
  have HU4 : Hid (∀ W, Calls Try.prog 25 #[.agg #[.int .u64 1, .int .u64 2], .agg #[.int .i64 3, .int .i64 1, .int .i64 9, .int .i64 100, .int .i64 200, .int .i64 5, .int .u64 2837742347150846373], .int .i64 3, .agg #[.int .i64 150, .int .i64 150], .int .i64 5] W (RetB (.int .i64 20) W)) := fun W => by
    have := usable_any 1#64 2#64 3 1 9 100 200 5 2837742347150846373#64 3 150 150 5 W
    rw [aw15_use aw15_ok hG] at this
    exact this
  have HU5 : Hid (∀ W, Calls Try.prog 25 #[.agg #[.int .u64 1, .int .u64 2], .agg #[.int .i64 3, .int .i64 1, .int .i64 9, .int .i64 100, .int .i64 200, .int .i64 5, .int .u64 2837742347150846373], .int .i64 2, .agg #[.int .i64 0, .int .i64 0], .int .i64 0] W (RetB (.int .i64 7) W)) := fun W => by
    have := usable_any 1#64 2#64 3 1 9 100 200 5 2837742347150846373#64 2 0 0 0 W
    rw [aw15_use aw15_ok hG] at this
    exact this
  have heq : ∀ w : World, (binOp .eql 36 (.agg #[.int .i64 0, .int .i64 1, .int .i64 2, .int .i64 0, .int .i64 1, .int .i64 1, .int .u64 0]) (.agg #[.int .i64 0, .int .i64 1, .int .i64 2, .int .i64 0, .int .i64 1, .int .i64 1, .int .u64 0])).run Try.prog w = .ok (.bool true) w := fun w => by
    have := tok_eql 0 1 2 0 1 1 0#64 0#64 w
    rw [decide_eq_true rfl] at this
    exact this
  have HK0 : Hid (BlkAt (w.alloc (.cells #[.int .u64 1, .int .u64 2] 32)) w.heap.size #[.int .u64 1, .int .u64 2] ∧ Below w.heap.size w (w.alloc (.cells #[.int .u64 1, .int .u64 2] 32))) := ⟨blkNew rfl, below_alloc _ _⟩
  clear hG
  go_enter Try.func24, Try.ntmps24
  go_wp2_with fail
  refine (HIS.out _).mono ?_
  rintro e w1 ⟨rfl, hb1⟩
  have HK1 : Hid (BlkAt (w1.alloc (.cells #[.int .i64 3, .int .i64 1, .int .i64 9, .int .i64 100, .int .i64 200, .int .i64 5, .int .u64 2837742347150846373] 36)) w.heap.size #[.int .u64 1, .int .u64 2] ∧ BlkAt (w1.alloc (.cells #[.int .i64 3, .int .i64 1, .int .i64 9, .int .i64 100, .int .i64 200, .int .i64 5, .int .u64 2837742347150846373] 36)) w1.heap.size #[.int .i64 3, .int .i64 1, .int .i64 9, .int .i64 100, .int .i64 200, .int .i64 5, .int .u64 2837742347150846373] ∧ Below w.heap.size w (w1.alloc (.cells #[.int .i64 3, .int .i64 1, .int .i64 9, .int .i64 100, .int .i64 200, .int .i64 5, .int .u64 2837742347150846373] 36))) := ⟨blkOld (blkBelow hb1 HK0.out.1), blkNew rfl, below_step (below_step HK0.out.2 hb1) (below_alloc _ _)⟩
  clear hb1 HK0
  go_upto_region 3 with (fail)
  generalize w1.alloc (.cells #[.int .i64 3, .int .i64 1, .int .i64 9, .int .i64 100, .int .i64 200, .int .i64 5, .int .u64 2837742347150846373] 36) = W1 at *
  generalize w1.heap.size = tb at *
  go_wp2_with fail
  refine (first_any _).mono ?_
  rintro e w2 ⟨rfl, hb2⟩
  go_wp2_with fail
  refine (HTX.out _).mono ?_
  rintro e w3 ⟨rfl, hb3⟩
  go_wp2_with fail
  refine (HP1.out _).mono ?_
  rintro e w4 ⟨rfl, hb4⟩
  have HK4 : Hid (Aw15 w w.heap.size tb w4.heap.size (w4.alloc (.cells #[.int .i64 0, .int .i64 1, .int .i64 2, .int .i64 0, .int .i64 1, .int .i64 1, .int .u64 0] 36))) := ⟨blkOld (blkBelow hb4 (blkBelow hb3 (blkBelow hb2 HK1.out.1))), blkOld (blkBelow hb4 (blkBelow hb3 (blkBelow hb2 HK1.out.2.1))), blkNew rfl, by
    have := HK1.out.2.2
    exact below_step (below_step (below_step (below_step this hb2) hb3) hb4) (below_alloc _ _)⟩
  clear hb2 hb3 hb4 HK1
  go_upto_region 5 with (fail)
  generalize w4.alloc (.cells #[.int .i64 0, .int .i64 1, .int .i64 2, .int .i64 0, .int .i64 1, .int .i64 1, .int .u64 0] 36) = W4 at *
  generalize w4.heap.size = xb at *
  go_wp2_with fail
  refine (HP2.out _).mono ?_
  rintro e w5 ⟨rfl, hb5⟩
  have HK6 := aw15_step (aw15_step HK4 hb5) (below_alloc w5 (.cells #[.int .i64 0, .int .i64 0, .int .i64 0, .int .i64 0, .int .i64 0, .int .i64 0, .int .u64 0] 36))
  clear hb5 HK4
  go_upto_region 6 with (fail)
  generalize w5.alloc (.cells #[.int .i64 0, .int .i64 0, .int .i64 0, .int .i64 0, .int .i64 0, .int .i64 0, .int .u64 0] 36) = W6 at *
  generalize w5.heap.size = zb at *
  have hk0 := aw15_cells9 HK6
  go_cut [10, 11] (fun a b wx => a = .int .i64 0 ∧ b = .int .i64 18 ∧ Hid (Below W6.heap.size W6 wx))
  case first =>
    go_region_held3 (fun w9 => w9.cell? ⟨w.heap.size, 0, none⟩ = some (.int .u64 1) ∧ w9.cell? ⟨w.heap.size, 1, none⟩ = some (.int .u64 2) ∧ w9.cell? ⟨tb, 0, none⟩ = some (.int .i64 3) ∧ w9.cell? ⟨tb, 1, none⟩ = some (.int .i64 1) ∧ w9.cell? ⟨tb, 2, none⟩ = some (.int .i64 9) ∧ w9.cell? ⟨tb, 3, none⟩ = some (.int .i64 100) ∧ w9.cell? ⟨tb, 4, none⟩ = some (.int .i64 200) ∧ w9.cell? ⟨tb, 5, none⟩ = some (.int .i64 5) ∧ w9.cell? ⟨tb, 6, none⟩ = some (.int .u64 2837742347150846373) ∧ Below W6.heap.size W6 w9)
      (repeat (with_reducible first | assumption | refine keepND ?_ | refine keepNA _ ?_ | (apply keepN; focus assumption)))
      (first
        | (go_at_call 25; (with_reducible refine (HU1.out _).mono ?_); rintro e w5 ⟨rfl, hb5⟩)
        | (go_at_call 25; (with_reducible refine (HU2.out _).mono ?_); rintro e w5 ⟨rfl, hb5⟩))
    all_goals
      go_wp2_with fail
      go_meet
      exact ⟨rfl, rfl, by go_split_ands; assumption⟩
  case rest =>
    obtain ⟨rfl, rfl, hcut⟩ := hcut
    have HK7 := aw15_step HK6 hcut.out
    clear hcut hk0 HK6
    clear W6
    obtain ⟨W6, hW6⟩ : ∃ W, W = wc := ⟨_, rfl⟩
    subst hW6
    have hk0 := aw15_cells9 HK7
    go_upto_region 7 with (fail)
    go_cut [12, 13] (fun a b wx => a = .int .i64 19 ∧ b = .int .i64 20 ∧ Hid (Below W6.heap.size W6 wx))
    case first =>
      go_region_held3 (fun w9 => w9.cell? ⟨w.heap.size, 0, none⟩ = some (.int .u64 1) ∧ w9.cell? ⟨w.heap.size, 1, none⟩ = some (.int .u64 2) ∧ w9.cell? ⟨tb, 0, none⟩ = some (.int .i64 3) ∧ w9.cell? ⟨tb, 1, none⟩ = some (.int .i64 1) ∧ w9.cell? ⟨tb, 2, none⟩ = some (.int .i64 9) ∧ w9.cell? ⟨tb, 3, none⟩ = some (.int .i64 100) ∧ w9.cell? ⟨tb, 4, none⟩ = some (.int .i64 200) ∧ w9.cell? ⟨tb, 5, none⟩ = some (.int .i64 5) ∧ w9.cell? ⟨tb, 6, none⟩ = some (.int .u64 2837742347150846373) ∧ Below W6.heap.size W6 w9)
        (repeat (with_reducible first | assumption | refine keepND ?_ | refine keepNA _ ?_ | (apply keepN; focus assumption)))
        (first
          | (go_at_call 25; (with_reducible refine (HU3.out _).mono ?_); rintro e w5 ⟨rfl, hb5⟩)
          | (go_at_call 25; (with_reducible refine (HU4.out _).mono ?_); rintro e w5 ⟨rfl, hb5⟩))
      all_goals
        go_wp2_with fail
        go_meet
        exact ⟨rfl, rfl, by go_split_ands; assumption⟩
    case rest =>
      obtain ⟨rfl, rfl, hcut⟩ := hcut
      have HK8 := aw15_step HK7 hcut.out
      clear hcut hk0 HK7
      clear W6
      obtain ⟨W6, hW6⟩ : ∃ W, W = wc := ⟨_, rfl⟩
      subst hW6
      have hk0 := aw15_cells HK8
      go_upto_region 8 with (fail)
      go_cut [0] (fun a wx => a = .bool true ∧ Hid (Below W6.heap.size W6 wx))
      case first =>
        go_region_held3 (fun w9 => w9.cell? ⟨w.heap.size, 0, none⟩ = some (.int .u64 1) ∧ w9.cell? ⟨w.heap.size, 1, none⟩ = some (.int .u64 2) ∧ w9.cell? ⟨tb, 0, none⟩ = some (.int .i64 3) ∧ w9.cell? ⟨tb, 1, none⟩ = some (.int .i64 1) ∧ w9.cell? ⟨tb, 2, none⟩ = some (.int .i64 9) ∧ w9.cell? ⟨tb, 3, none⟩ = some (.int .i64 100) ∧ w9.cell? ⟨tb, 4, none⟩ = some (.int .i64 200) ∧ w9.cell? ⟨tb, 5, none⟩ = some (.int .i64 5) ∧ w9.cell? ⟨tb, 6, none⟩ = some (.int .u64 2837742347150846373) ∧ w9.cell? ⟨xb, 0, none⟩ = some (.int .i64 0) ∧ w9.cell? ⟨xb, 1, none⟩ = some (.int .i64 1) ∧ w9.cell? ⟨xb, 2, none⟩ = some (.int .i64 2) ∧ w9.cell? ⟨xb, 3, none⟩ = some (.int .i64 0) ∧ w9.cell? ⟨xb, 4, none⟩ = some (.int .i64 1) ∧ w9.cell? ⟨xb, 5, none⟩ = some (.int .i64 1) ∧ w9.cell? ⟨xb, 6, none⟩ = some (.int .u64 0) ∧ Below W6.heap.size W6 w9)
          (repeat (with_reducible first | assumption | refine keepXD ?_ | refine keepXA _ ?_ | (apply keepX; focus assumption)))
          (first
            | (go_at_call 44; (with_reducible refine (first_any _).mono ?_); rintro e w5 ⟨rfl, hb5⟩)
            | (go_at_call 25; (with_reducible refine (HU5.out _).mono ?_); rintro e w5 ⟨rfl, hb5⟩))
        all_goals
          go_wp2_with fail
          go_meet
          exact ⟨rfl, by go_split_ands; assumption⟩
      case rest =>
        obtain ⟨rfl, hcut⟩ := hcut
        have HB9 := Lib.hid (below_step HK8.out.lo hcut.out)
        clear hcut hk0
        go_wp2
        go_ret
        exact ⟨rfl, HB9.out⟩
end Go.Proofs.Ytomilmaeiokaaaa
