/-
  TOKENS, THE LAWS: TokenChecks.
-/
import Derived.Test.YtgfgkgidpinmoaaProg
import Derived.Test.YtgfgkgidpinmoaaBase1
import Derived.Test.YtgfgkgidpinmoaaBase2
import Derived.Test.YtgfgkgidpinmoaaBase3
import Derived.Test.YtgfgkgidpinmoaaBase5
import Derived.Test.YtgfgkgidpinmoaaBase6
import Derived.Test.YtgfgkgidpinmoaaBase7
import Derived.Test.YtgfgkgidpinmoaaBase15
import Derived.Test.YtgfgkgidpinmoaaMacP
import Derived.Test.YtgfgkgidpinmoaaTokP
import Derived.Test.YtgfgkgidpinmoaaTkP
import Derived.Test.YtgfgkgidpinmoaaTok1
import Derived.Test.YtgfgkgidpinmoaaTok2
import Derived.Test.YtgfgkgidpinmoaaWire1
import Derived.Test.YtgfgkgidpinmoaaWire2
import Derived.Test.YtgfgkgidpinmoaaWire5
import Derived.Test.YtgfgkgidpinmoaaTok2R
import Derived.Test.YtgfgkgidpinmoaaTok3
import Derived.Test.YtgfgkgidpinmoaaTkA
import Derived.Test.YtgfgkgidpinmoaaHeld
import Derived.BigQuiet
import Derived.Laws.StructEq
import Derived.StillTailTactics
import Derived.RegionTactic
import Derived.BigRegion
import Derived.Deep.RegionHeld3
import Derived.Deep.DeepCutAuto
import Derived.Deep.QuietTactic
import Derived.WalkSpells
import Derived.WalkLawsBesides
namespace Go.Proofs.Ytgfgkgidpinmoaa
open Go.RowKit
set_option linter.unusedVariables false

section
variable {w w1 w2 : World} {a0 a1 a2 a3 a4 a5 a6 a7 a8 a9 a10 a11 a12 a13 a14 a15 a16 a17 a18 a19 a20 a21 a22 : Addr} {v0 v1 v2 v3 v4 v5 v6 v7 v8 v9 v10 v11 v12 v13 v14 v15 v16 v17 v18 v19 v20 v21 v22 : Value}
theorem keepV (hb : Below w1.heap.size w1 w2) (h : w1.cell? a0 = some v0 ∧ w1.cell? a1 = some v1 ∧ w1.cell? a2 = some v2 ∧ w1.cell? a3 = some v3 ∧ w1.cell? a4 = some v4 ∧ w1.cell? a5 = some v5 ∧ w1.cell? a6 = some v6 ∧ w1.cell? a7 = some v7 ∧ w1.cell? a8 = some v8 ∧ w1.cell? a9 = some v9 ∧ w1.cell? a10 = some v10 ∧ w1.cell? a11 = some v11 ∧ w1.cell? a12 = some v12 ∧ w1.cell? a13 = some v13 ∧ w1.cell? a14 = some v14 ∧ w1.cell? a15 = some v15 ∧ w1.cell? a16 = some v16 ∧ w1.cell? a17 = some v17 ∧ w1.cell? a18 = some v18 ∧ w1.cell? a19 = some v19 ∧ w1.cell? a20 = some v20 ∧ w1.cell? a21 = some v21 ∧ w1.cell? a22 = some v22 ∧ Below w.heap.size w w1) : w2.cell? a0 = some v0 ∧ w2.cell? a1 = some v1 ∧ w2.cell? a2 = some v2 ∧ w2.cell? a3 = some v3 ∧ w2.cell? a4 = some v4 ∧ w2.cell? a5 = some v5 ∧ w2.cell? a6 = some v6 ∧ w2.cell? a7 = some v7 ∧ w2.cell? a8 = some v8 ∧ w2.cell? a9 = some v9 ∧ w2.cell? a10 = some v10 ∧ w2.cell? a11 = some v11 ∧ w2.cell? a12 = some v12 ∧ w2.cell? a13 = some v13 ∧ w2.cell? a14 = some v14 ∧ w2.cell? a15 = some v15 ∧ w2.cell? a16 = some v16 ∧ w2.cell? a17 = some v17 ∧ w2.cell? a18 = some v18 ∧ w2.cell? a19 = some v19 ∧ w2.cell? a20 = some v20 ∧ w2.cell? a21 = some v21 ∧ w2.cell? a22 = some v22 ∧ Below w.heap.size w w2 := ⟨cell_keep hb h.1, cell_keep hb h.2.1, cell_keep hb h.2.2.1, cell_keep hb h.2.2.2.1, cell_keep hb h.2.2.2.2.1, cell_keep hb h.2.2.2.2.2.1, cell_keep hb h.2.2.2.2.2.2.1, cell_keep hb h.2.2.2.2.2.2.2.1, cell_keep hb h.2.2.2.2.2.2.2.2.1, cell_keep hb h.2.2.2.2.2.2.2.2.2.1, cell_keep hb h.2.2.2.2.2.2.2.2.2.2.1, cell_keep hb h.2.2.2.2.2.2.2.2.2.2.2.1, cell_keep hb h.2.2.2.2.2.2.2.2.2.2.2.2.1, cell_keep hb h.2.2.2.2.2.2.2.2.2.2.2.2.2.1, cell_keep hb h.2.2.2.2.2.2.2.2.2.2.2.2.2.2.1, cell_keep hb h.2.2.2.2.2.2.2.2.2.2.2.2.2.2.2.1, cell_keep hb h.2.2.2.2.2.2.2.2.2.2.2.2.2.2.2.2.1, cell_keep hb h.2.2.2.2.2.2.2.2.2.2.2.2.2.2.2.2.2.1, cell_keep hb h.2.2.2.2.2.2.2.2.2.2.2.2.2.2.2.2.2.2.1, cell_keep hb h.2.2.2.2.2.2.2.2.2.2.2.2.2.2.2.2.2.2.2.1, cell_keep hb h.2.2.2.2.2.2.2.2.2.2.2.2.2.2.2.2.2.2.2.2.1, cell_keep hb h.2.2.2.2.2.2.2.2.2.2.2.2.2.2.2.2.2.2.2.2.2.1, cell_keep hb h.2.2.2.2.2.2.2.2.2.2.2.2.2.2.2.2.2.2.2.2.2.2.1, below_step h.2.2.2.2.2.2.2.2.2.2.2.2.2.2.2.2.2.2.2.2.2.2.2 hb⟩
theorem keepVD (h : w1.cell? a0 = some v0 ∧ w1.cell? a1 = some v1 ∧ w1.cell? a2 = some v2 ∧ w1.cell? a3 = some v3 ∧ w1.cell? a4 = some v4 ∧ w1.cell? a5 = some v5 ∧ w1.cell? a6 = some v6 ∧ w1.cell? a7 = some v7 ∧ w1.cell? a8 = some v8 ∧ w1.cell? a9 = some v9 ∧ w1.cell? a10 = some v10 ∧ w1.cell? a11 = some v11 ∧ w1.cell? a12 = some v12 ∧ w1.cell? a13 = some v13 ∧ w1.cell? a14 = some v14 ∧ w1.cell? a15 = some v15 ∧ w1.cell? a16 = some v16 ∧ w1.cell? a17 = some v17 ∧ w1.cell? a18 = some v18 ∧ w1.cell? a19 = some v19 ∧ w1.cell? a20 = some v20 ∧ w1.cell? a21 = some v21 ∧ w1.cell? a22 = some v22 ∧ Below w.heap.size w w1) : w1.drew.cell? a0 = some v0 ∧ w1.drew.cell? a1 = some v1 ∧ w1.drew.cell? a2 = some v2 ∧ w1.drew.cell? a3 = some v3 ∧ w1.drew.cell? a4 = some v4 ∧ w1.drew.cell? a5 = some v5 ∧ w1.drew.cell? a6 = some v6 ∧ w1.drew.cell? a7 = some v7 ∧ w1.drew.cell? a8 = some v8 ∧ w1.drew.cell? a9 = some v9 ∧ w1.drew.cell? a10 = some v10 ∧ w1.drew.cell? a11 = some v11 ∧ w1.drew.cell? a12 = some v12 ∧ w1.drew.cell? a13 = some v13 ∧ w1.drew.cell? a14 = some v14 ∧ w1.drew.cell? a15 = some v15 ∧ w1.drew.cell? a16 = some v16 ∧ w1.drew.cell? a17 = some v17 ∧ w1.drew.cell? a18 = some v18 ∧ w1.drew.cell? a19 = some v19 ∧ w1.drew.cell? a20 = some v20 ∧ w1.drew.cell? a21 = some v21 ∧ w1.drew.cell? a22 = some v22 ∧ Below w.heap.size w w1.drew := ⟨h.1, h.2.1, h.2.2.1, h.2.2.2.1, h.2.2.2.2.1, h.2.2.2.2.2.1, h.2.2.2.2.2.2.1, h.2.2.2.2.2.2.2.1, h.2.2.2.2.2.2.2.2.1, h.2.2.2.2.2.2.2.2.2.1, h.2.2.2.2.2.2.2.2.2.2.1, h.2.2.2.2.2.2.2.2.2.2.2.1, h.2.2.2.2.2.2.2.2.2.2.2.2.1, h.2.2.2.2.2.2.2.2.2.2.2.2.2.1, h.2.2.2.2.2.2.2.2.2.2.2.2.2.2.1, h.2.2.2.2.2.2.2.2.2.2.2.2.2.2.2.1, h.2.2.2.2.2.2.2.2.2.2.2.2.2.2.2.2.1, h.2.2.2.2.2.2.2.2.2.2.2.2.2.2.2.2.2.1, h.2.2.2.2.2.2.2.2.2.2.2.2.2.2.2.2.2.2.1, h.2.2.2.2.2.2.2.2.2.2.2.2.2.2.2.2.2.2.2.1, h.2.2.2.2.2.2.2.2.2.2.2.2.2.2.2.2.2.2.2.2.1, h.2.2.2.2.2.2.2.2.2.2.2.2.2.2.2.2.2.2.2.2.2.1, h.2.2.2.2.2.2.2.2.2.2.2.2.2.2.2.2.2.2.2.2.2.2.1, below_drew h.2.2.2.2.2.2.2.2.2.2.2.2.2.2.2.2.2.2.2.2.2.2.2⟩
theorem keepVA (o : Obj) (h : w1.cell? a0 = some v0 ∧ w1.cell? a1 = some v1 ∧ w1.cell? a2 = some v2 ∧ w1.cell? a3 = some v3 ∧ w1.cell? a4 = some v4 ∧ w1.cell? a5 = some v5 ∧ w1.cell? a6 = some v6 ∧ w1.cell? a7 = some v7 ∧ w1.cell? a8 = some v8 ∧ w1.cell? a9 = some v9 ∧ w1.cell? a10 = some v10 ∧ w1.cell? a11 = some v11 ∧ w1.cell? a12 = some v12 ∧ w1.cell? a13 = some v13 ∧ w1.cell? a14 = some v14 ∧ w1.cell? a15 = some v15 ∧ w1.cell? a16 = some v16 ∧ w1.cell? a17 = some v17 ∧ w1.cell? a18 = some v18 ∧ w1.cell? a19 = some v19 ∧ w1.cell? a20 = some v20 ∧ w1.cell? a21 = some v21 ∧ w1.cell? a22 = some v22 ∧ Below w.heap.size w w1) : (w1.alloc o).cell? a0 = some v0 ∧ (w1.alloc o).cell? a1 = some v1 ∧ (w1.alloc o).cell? a2 = some v2 ∧ (w1.alloc o).cell? a3 = some v3 ∧ (w1.alloc o).cell? a4 = some v4 ∧ (w1.alloc o).cell? a5 = some v5 ∧ (w1.alloc o).cell? a6 = some v6 ∧ (w1.alloc o).cell? a7 = some v7 ∧ (w1.alloc o).cell? a8 = some v8 ∧ (w1.alloc o).cell? a9 = some v9 ∧ (w1.alloc o).cell? a10 = some v10 ∧ (w1.alloc o).cell? a11 = some v11 ∧ (w1.alloc o).cell? a12 = some v12 ∧ (w1.alloc o).cell? a13 = some v13 ∧ (w1.alloc o).cell? a14 = some v14 ∧ (w1.alloc o).cell? a15 = some v15 ∧ (w1.alloc o).cell? a16 = some v16 ∧ (w1.alloc o).cell? a17 = some v17 ∧ (w1.alloc o).cell? a18 = some v18 ∧ (w1.alloc o).cell? a19 = some v19 ∧ (w1.alloc o).cell? a20 = some v20 ∧ (w1.alloc o).cell? a21 = some v21 ∧ (w1.alloc o).cell? a22 = some v22 ∧ Below w.heap.size w (w1.alloc o) := keepV (below_alloc _ _) h
end
set_option maxRecDepth 100000 in
set_option maxHeartbeats 2000000 in
theorem tokenChecks_ok (x y : BitVec 64) (b r d f t n : Int) (g : BitVec 64) (w : World) (hok : ¬ Tok.bad ⟨b, r, d, f, t, n⟩) : Calls Try.prog 4 #[.agg #[u64 x, u64 y], .agg #[.int .i64 b, .int .i64 r, .int .i64 d, .int .i64 f, .int .i64 t, .int .i64 n, u64 g]] w (RetB (.bool true) w) := by
  have HI1 : Hid (∀ W, Calls Try.prog 26 #[.agg #[u64 x, u64 y], .agg #[.int .i64 b, .int .i64 r, .int .i64 d, .int .i64 f, .int .i64 t, .int .i64 n, u64 g]] W (RetB (.tuple #[.agg #[.int .i64 b, .int .i64 r, .int .i64 d, .int .i64 f, .int .i64 t, .int .i64 n, u64 (tagOf x y b r d f t n)], .int .i64 0]) W)) := fun W => issue_ok x y b r d f t n g W hok
  have HI2 : Hid (∀ W, Calls Try.prog 27 #[.agg #[u64 x, u64 y], .agg #[.int .i64 b, .int .i64 r, .int .i64 d, .int .i64 f, .int .i64 t, .int .i64 n, u64 g]] W (RetB (.tuple #[.agg #[.int .i64 b, .int .i64 r, .int .i64 d, .int .i64 f, .int .i64 t, .int .i64 n, u64 (tagOf x y b r d f t n)], .int .i64 0]) W)) := fun W => refIssue_ok x y b r d f t n g W hok
  obtain ⟨C, hC⟩ : ∃ C, Tok.chk ⟨b, r, d, f, t, n⟩ = C := ⟨_, rfl⟩
  obtain ⟨B, hB⟩ : ∃ B, gen x y b r d f t n g = B := ⟨_, rfl⟩
  have HC1 : Hid (∀ W, Calls Try.prog 28 #[.agg #[.int .i64 b, .int .i64 r, .int .i64 d, .int .i64 f, .int .i64 t, .int .i64 n, u64 g]] W (RetB (.int .i64 C) W)) := fun W => by rw [← hC]; exact check_any b r d f t n g W
  have HC2 : Hid (∀ W, Calls Try.prog 29 #[.agg #[.int .i64 b, .int .i64 r, .int .i64 d, .int .i64 f, .int .i64 t, .int .i64 n, u64 g]] W (RetB (.int .i64 C) W)) := fun W => by rw [← hC]; exact refCheck_tok b r d f t n g W
  have HG1 : Hid (∀ W, Calls Try.prog 30 #[.agg #[u64 x, u64 y], .agg #[.int .i64 b, .int .i64 r, .int .i64 d, .int .i64 f, .int .i64 t, .int .i64 n, u64 g]] W (RetB (.bool B) W)) := fun W => by rw [← hB]; exact genuine_any x y b r d f t n g W
  have HG2 : Hid (∀ W, Calls Try.prog 31 #[.agg #[u64 x, u64 y], .agg #[.int .i64 b, .int .i64 r, .int .i64 d, .int .i64 f, .int .i64 t, .int .i64 n, u64 g]] W (RetB (.bool B) W)) := fun W => by rw [← hB]; exact refGenuine_any x y b r d f t n g W
  clear hC hB hok
  generalize tagOf x y b r d f t n = G at *
  have heq : ∀ w : World, (binOp .eql 36 (.agg #[.int .i64 b, .int .i64 r, .int .i64 d, .int .i64 f, .int .i64 t, .int .i64 n, u64 G]) (.agg #[.int .i64 b, .int .i64 r, .int .i64 d, .int .i64 f, .int .i64 t, .int .i64 n, u64 G])).run Try.prog w = .ok (.bool true) w := fun w => by
    have := tok_eql b r d f t n G G w
    rw [decide_eq_true rfl] at this
    exact this
  have hbb : (B == B) = true := by cases B <;> rfl
  have HQ := Lib.hid (GenW.mk0 w x y #[.int .i64 b, .int .i64 r, .int .i64 d, .int .i64 f, .int .i64 t, .int .i64 n, u64 g] 32 36)
  go_enter Try.func4, Try.ntmps4
  go_wp2_with fail
  refine (HI1.out _).mono ?_
  rintro e w1 ⟨rfl, hb1⟩
  have HQ1 := Lib.hid ((HQ.out.step hb1).step (below_alloc w1 (.cells #[.int .i64 b, .int .i64 r, .int .i64 d, .int .i64 f, .int .i64 t, .int .i64 n, u64 G] 36)))
  have HX1 : Hid (BlkAt (w1.alloc (.cells #[.int .i64 b, .int .i64 r, .int .i64 d, .int .i64 f, .int .i64 t, .int .i64 n, u64 G] 36)) w1.heap.size #[.int .i64 b, .int .i64 r, .int .i64 d, .int .i64 f, .int .i64 t, .int .i64 n, u64 G]) := blkNew rfl
  clear hb1 HQ
  go_upto_region 2 with (fail)
  generalize w1.alloc (.cells #[.int .i64 b, .int .i64 r, .int .i64 d, .int .i64 f, .int .i64 t, .int .i64 n, u64 G] 36) = W2 at *
  generalize w1.heap.size = xb at *
  obtain ⟨k0, k1⟩ := key_cells2 HQ1.out.k
  obtain ⟨c0, c1, c2, c3, c4, c5, c6⟩ := tok_cells (w := w) (E := 0) HQ1.out.t
  go_wp2_with fail
  refine (HI2.out _).mono ?_
  rintro e w3 ⟨rfl, hb3⟩
  have HQ4 := Lib.hid ((HQ1.out.step hb3).step (below_alloc w3 (.cells #[.int .i64 b, .int .i64 r, .int .i64 d, .int .i64 f, .int .i64 t, .int .i64 n, u64 G] 36)))
  have HX4 : Hid (BlkAt (w3.alloc (.cells #[.int .i64 b, .int .i64 r, .int .i64 d, .int .i64 f, .int .i64 t, .int .i64 n, u64 G] 36)) xb #[.int .i64 b, .int .i64 r, .int .i64 d, .int .i64 f, .int .i64 t, .int .i64 n, u64 G]) := blkOld (blkBelow hb3 HX1.out)
  have HY4 : Hid (BlkAt (w3.alloc (.cells #[.int .i64 b, .int .i64 r, .int .i64 d, .int .i64 f, .int .i64 t, .int .i64 n, u64 G] 36)) w3.heap.size #[.int .i64 b, .int .i64 r, .int .i64 d, .int .i64 f, .int .i64 t, .int .i64 n, u64 G]) := blkNew rfl
  clear hb3 HQ1 HX1 k0 k1 c0 c1 c2 c3 c4 c5 c6
  go_upto_region 3 with (fail)
  generalize w3.alloc (.cells #[.int .i64 b, .int .i64 r, .int .i64 d, .int .i64 f, .int .i64 t, .int .i64 n, u64 G] 36) = W1 at *
  generalize w3.heap.size = yb at *
  obtain ⟨k0, k1⟩ := key_cells2 HQ4.out.k
  obtain ⟨c0, c1, c2, c3, c4, c5, c6⟩ := tok_cells (w := w) (E := 0) HQ4.out.t
  obtain ⟨d0, d1, d2, d3, d4, d5, d6⟩ := tok_cells (w := w) (E := 0) HX4.out
  obtain ⟨e0, e1, e2, e3, e4, e5, e6⟩ := tok_cells (w := w) (E := 0) HY4.out
  have hk0 : W1.cell? ⟨w.heap.size, 0, none⟩ = some (u64 x) ∧ W1.cell? ⟨w.heap.size, 1, none⟩ = some (u64 y) ∧ W1.cell? ⟨w.heap.size + 1, 0, none⟩ = some (.int .i64 b) ∧ W1.cell? ⟨w.heap.size + 1, 1, none⟩ = some (.int .i64 r) ∧ W1.cell? ⟨w.heap.size + 1, 2, none⟩ = some (.int .i64 d) ∧ W1.cell? ⟨w.heap.size + 1, 3, none⟩ = some (.int .i64 f) ∧ W1.cell? ⟨w.heap.size + 1, 4, none⟩ = some (.int .i64 t) ∧ W1.cell? ⟨w.heap.size + 1, 5, none⟩ = some (.int .i64 n) ∧ W1.cell? ⟨w.heap.size + 1, 6, none⟩ = some (u64 g) ∧ W1.cell? ⟨xb, 0, none⟩ = some (.int .i64 b) ∧ W1.cell? ⟨xb, 1, none⟩ = some (.int .i64 r) ∧ W1.cell? ⟨xb, 2, none⟩ = some (.int .i64 d) ∧ W1.cell? ⟨xb, 3, none⟩ = some (.int .i64 f) ∧ W1.cell? ⟨xb, 4, none⟩ = some (.int .i64 t) ∧ W1.cell? ⟨xb, 5, none⟩ = some (.int .i64 n) ∧ W1.cell? ⟨xb, 6, none⟩ = some (u64 G) ∧ W1.cell? ⟨yb, 0, none⟩ = some (.int .i64 b) ∧ W1.cell? ⟨yb, 1, none⟩ = some (.int .i64 r) ∧ W1.cell? ⟨yb, 2, none⟩ = some (.int .i64 d) ∧ W1.cell? ⟨yb, 3, none⟩ = some (.int .i64 f) ∧ W1.cell? ⟨yb, 4, none⟩ = some (.int .i64 t) ∧ W1.cell? ⟨yb, 5, none⟩ = some (.int .i64 n) ∧ W1.cell? ⟨yb, 6, none⟩ = some (u64 G) ∧ Below W1.heap.size W1 W1 := ⟨k0, k1, c0, c1, c2, c3, c4, c5, c6, d0, d1, d2, d3, d4, d5, d6, e0, e1, e2, e3, e4, e5, e6, Below.refl _ _⟩
  clear k0 k1 c0 c1 c2 c3 c4 c5 c6 d0 d1 d2 d3 d4 d5 d6 e0 e1 e2 e3 e4 e5 e6
  go_cut [4] (fun a wx => a = .bool true ∧ Hid (Below W1.heap.size W1 wx))
  case first =>
    go_region_held3 (fun w9 => w9.cell? ⟨w.heap.size, 0, none⟩ = some (u64 x) ∧ w9.cell? ⟨w.heap.size, 1, none⟩ = some (u64 y) ∧ w9.cell? ⟨w.heap.size + 1, 0, none⟩ = some (.int .i64 b) ∧ w9.cell? ⟨w.heap.size + 1, 1, none⟩ = some (.int .i64 r) ∧ w9.cell? ⟨w.heap.size + 1, 2, none⟩ = some (.int .i64 d) ∧ w9.cell? ⟨w.heap.size + 1, 3, none⟩ = some (.int .i64 f) ∧ w9.cell? ⟨w.heap.size + 1, 4, none⟩ = some (.int .i64 t) ∧ w9.cell? ⟨w.heap.size + 1, 5, none⟩ = some (.int .i64 n) ∧ w9.cell? ⟨w.heap.size + 1, 6, none⟩ = some (u64 g) ∧ w9.cell? ⟨xb, 0, none⟩ = some (.int .i64 b) ∧ w9.cell? ⟨xb, 1, none⟩ = some (.int .i64 r) ∧ w9.cell? ⟨xb, 2, none⟩ = some (.int .i64 d) ∧ w9.cell? ⟨xb, 3, none⟩ = some (.int .i64 f) ∧ w9.cell? ⟨xb, 4, none⟩ = some (.int .i64 t) ∧ w9.cell? ⟨xb, 5, none⟩ = some (.int .i64 n) ∧ w9.cell? ⟨xb, 6, none⟩ = some (u64 G) ∧ w9.cell? ⟨yb, 0, none⟩ = some (.int .i64 b) ∧ w9.cell? ⟨yb, 1, none⟩ = some (.int .i64 r) ∧ w9.cell? ⟨yb, 2, none⟩ = some (.int .i64 d) ∧ w9.cell? ⟨yb, 3, none⟩ = some (.int .i64 f) ∧ w9.cell? ⟨yb, 4, none⟩ = some (.int .i64 t) ∧ w9.cell? ⟨yb, 5, none⟩ = some (.int .i64 n) ∧ w9.cell? ⟨yb, 6, none⟩ = some (u64 G) ∧ Below W1.heap.size W1 w9)
      (repeat (with_reducible first | assumption | refine keepVD ?_ | refine keepVA _ ?_ | (apply keepV; focus assumption)))
      (first
        | (go_at_call 28; (with_reducible refine (HC1.out _).mono ?_); rintro e w5 ⟨rfl, hb5⟩)
        | (go_at_call 29; (with_reducible refine (HC2.out _).mono ?_); rintro e w5 ⟨rfl, hb5⟩)
        | (go_at_call 30; (with_reducible refine (HG1.out _).mono ?_); rintro e w5 ⟨rfl, hb5⟩)
        | (go_at_call 31; (with_reducible refine (HG2.out _).mono ?_); rintro e w5 ⟨rfl, hb5⟩)
        | (go_at_call 32; (with_reducible refine (awake15_any _).mono ?_); rintro e w5 ⟨rfl, hb5⟩))
    all_goals
      go_wp2_with fail
      go_meet
      exact ⟨rfl, by go_split_ands; assumption⟩
  case rest =>
    obtain ⟨rfl, hcut⟩ := hcut
    have HB9 := Lib.hid (below_step HQ4.out.b hcut.out)
    clear hcut hk0
    go_wp2
    go_ret
    exact ⟨rfl, HB9.out⟩
set_option maxRecDepth 100000 in
set_option maxHeartbeats 2000000 in
theorem tokenChecks_bad (x y : BitVec 64) (b r d f t n : Int) (g : BitVec 64) (w : World) (hbad : Tok.bad ⟨b, r, d, f, t, n⟩) : Calls Try.prog 4 #[.agg #[u64 x, u64 y], .agg #[.int .i64 b, .int .i64 r, .int .i64 d, .int .i64 f, .int .i64 t, .int .i64 n, u64 g]] w (RetB (.bool true) w) := by
  have HI1 : Hid (∀ W, Calls Try.prog 26 #[.agg #[u64 x, u64 y], .agg #[.int .i64 b, .int .i64 r, .int .i64 d, .int .i64 f, .int .i64 t, .int .i64 n, u64 g]] W (RetB (.tuple #[.agg #[.int .i64 0, .int .i64 0, .int .i64 0, .int .i64 0, .int .i64 0, .int .i64 0, .int .u64 0], .int .i64 1]) W)) := fun W => issue_bad x y b r d f t n g W (chk_bad hbad)
  have HI2 : Hid (∀ W, Calls Try.prog 27 #[.agg #[u64 x, u64 y], .agg #[.int .i64 b, .int .i64 r, .int .i64 d, .int .i64 f, .int .i64 t, .int .i64 n, u64 g]] W (RetB (.tuple #[.agg #[.int .i64 0, .int .i64 0, .int .i64 0, .int .i64 0, .int .i64 0, .int .i64 0, .int .u64 0], .int .i64 1]) W)) := fun W => refIssue_bad x y b r d f t n g W (chk_bad hbad)
  obtain ⟨C, hC⟩ : ∃ C, Tok.chk ⟨b, r, d, f, t, n⟩ = C := ⟨_, rfl⟩
  obtain ⟨B, hB⟩ : ∃ B, gen x y b r d f t n g = B := ⟨_, rfl⟩
  have HC1 : Hid (∀ W, Calls Try.prog 28 #[.agg #[.int .i64 b, .int .i64 r, .int .i64 d, .int .i64 f, .int .i64 t, .int .i64 n, u64 g]] W (RetB (.int .i64 C) W)) := fun W => by rw [← hC]; exact check_any b r d f t n g W
  have HC2 : Hid (∀ W, Calls Try.prog 29 #[.agg #[.int .i64 b, .int .i64 r, .int .i64 d, .int .i64 f, .int .i64 t, .int .i64 n, u64 g]] W (RetB (.int .i64 C) W)) := fun W => by rw [← hC]; exact refCheck_tok b r d f t n g W
  have HG1 : Hid (∀ W, Calls Try.prog 30 #[.agg #[u64 x, u64 y], .agg #[.int .i64 b, .int .i64 r, .int .i64 d, .int .i64 f, .int .i64 t, .int .i64 n, u64 g]] W (RetB (.bool B) W)) := fun W => by rw [← hB]; exact genuine_any x y b r d f t n g W
  have HG2 : Hid (∀ W, Calls Try.prog 31 #[.agg #[u64 x, u64 y], .agg #[.int .i64 b, .int .i64 r, .int .i64 d, .int .i64 f, .int .i64 t, .int .i64 n, u64 g]] W (RetB (.bool B) W)) := fun W => by rw [← hB]; exact refGenuine_any x y b r d f t n g W
  clear hC hB hbad
  have heq : ∀ w : World, (binOp .eql 36 (.agg #[.int .i64 0, .int .i64 0, .int .i64 0, .int .i64 0, .int .i64 0, .int .i64 0, .int .u64 0]) (.agg #[.int .i64 0, .int .i64 0, .int .i64 0, .int .i64 0, .int .i64 0, .int .i64 0, .int .u64 0])).run Try.prog w = .ok (.bool true) w := fun w => by
    have := tok_eql 0 0 0 0 0 0 0#64 0#64 w
    rw [decide_eq_true rfl] at this
    exact this
  have hbb : (B == B) = true := by cases B <;> rfl
  have HQ := Lib.hid (GenW.mk0 w x y #[.int .i64 b, .int .i64 r, .int .i64 d, .int .i64 f, .int .i64 t, .int .i64 n, u64 g] 32 36)
  go_enter Try.func4, Try.ntmps4
  go_wp2_with fail
  refine (HI1.out _).mono ?_
  rintro e w1 ⟨rfl, hb1⟩
  have HQ1 := Lib.hid ((HQ.out.step hb1).step (below_alloc w1 (.cells #[.int .i64 0, .int .i64 0, .int .i64 0, .int .i64 0, .int .i64 0, .int .i64 0, .int .u64 0] 36)))
  have HX1 : Hid (BlkAt (w1.alloc (.cells #[.int .i64 0, .int .i64 0, .int .i64 0, .int .i64 0, .int .i64 0, .int .i64 0, .int .u64 0] 36)) w1.heap.size #[.int .i64 0, .int .i64 0, .int .i64 0, .int .i64 0, .int .i64 0, .int .i64 0, .int .u64 0]) := blkNew rfl
  clear hb1 HQ
  go_upto_region 2 with (fail)
  generalize w1.alloc (.cells #[.int .i64 0, .int .i64 0, .int .i64 0, .int .i64 0, .int .i64 0, .int .i64 0, .int .u64 0] 36) = W2 at *
  generalize w1.heap.size = xb at *
  obtain ⟨k0, k1⟩ := key_cells2 HQ1.out.k
  obtain ⟨c0, c1, c2, c3, c4, c5, c6⟩ := tok_cells (w := w) (E := 0) HQ1.out.t
  go_wp2_with fail
  refine (HI2.out _).mono ?_
  rintro e w3 ⟨rfl, hb3⟩
  have HQ4 := Lib.hid ((HQ1.out.step hb3).step (below_alloc w3 (.cells #[.int .i64 0, .int .i64 0, .int .i64 0, .int .i64 0, .int .i64 0, .int .i64 0, .int .u64 0] 36)))
  have HX4 : Hid (BlkAt (w3.alloc (.cells #[.int .i64 0, .int .i64 0, .int .i64 0, .int .i64 0, .int .i64 0, .int .i64 0, .int .u64 0] 36)) xb #[.int .i64 0, .int .i64 0, .int .i64 0, .int .i64 0, .int .i64 0, .int .i64 0, .int .u64 0]) := blkOld (blkBelow hb3 HX1.out)
  have HY4 : Hid (BlkAt (w3.alloc (.cells #[.int .i64 0, .int .i64 0, .int .i64 0, .int .i64 0, .int .i64 0, .int .i64 0, .int .u64 0] 36)) w3.heap.size #[.int .i64 0, .int .i64 0, .int .i64 0, .int .i64 0, .int .i64 0, .int .i64 0, .int .u64 0]) := blkNew rfl
  clear hb3 HQ1 HX1 k0 k1 c0 c1 c2 c3 c4 c5 c6
  go_upto_region 3 with (fail)
  generalize w3.alloc (.cells #[.int .i64 0, .int .i64 0, .int .i64 0, .int .i64 0, .int .i64 0, .int .i64 0, .int .u64 0] 36) = W1 at *
  generalize w3.heap.size = yb at *
  obtain ⟨k0, k1⟩ := key_cells2 HQ4.out.k
  obtain ⟨c0, c1, c2, c3, c4, c5, c6⟩ := tok_cells (w := w) (E := 0) HQ4.out.t
  obtain ⟨d0, d1, d2, d3, d4, d5, d6⟩ := tok_cells (w := w) (E := 0) HX4.out
  obtain ⟨e0, e1, e2, e3, e4, e5, e6⟩ := tok_cells (w := w) (E := 0) HY4.out
  have hk0 : W1.cell? ⟨w.heap.size, 0, none⟩ = some (u64 x) ∧ W1.cell? ⟨w.heap.size, 1, none⟩ = some (u64 y) ∧ W1.cell? ⟨w.heap.size + 1, 0, none⟩ = some (.int .i64 b) ∧ W1.cell? ⟨w.heap.size + 1, 1, none⟩ = some (.int .i64 r) ∧ W1.cell? ⟨w.heap.size + 1, 2, none⟩ = some (.int .i64 d) ∧ W1.cell? ⟨w.heap.size + 1, 3, none⟩ = some (.int .i64 f) ∧ W1.cell? ⟨w.heap.size + 1, 4, none⟩ = some (.int .i64 t) ∧ W1.cell? ⟨w.heap.size + 1, 5, none⟩ = some (.int .i64 n) ∧ W1.cell? ⟨w.heap.size + 1, 6, none⟩ = some (u64 g) ∧ W1.cell? ⟨xb, 0, none⟩ = some (.int .i64 0) ∧ W1.cell? ⟨xb, 1, none⟩ = some (.int .i64 0) ∧ W1.cell? ⟨xb, 2, none⟩ = some (.int .i64 0) ∧ W1.cell? ⟨xb, 3, none⟩ = some (.int .i64 0) ∧ W1.cell? ⟨xb, 4, none⟩ = some (.int .i64 0) ∧ W1.cell? ⟨xb, 5, none⟩ = some (.int .i64 0) ∧ W1.cell? ⟨xb, 6, none⟩ = some (.int .u64 0) ∧ W1.cell? ⟨yb, 0, none⟩ = some (.int .i64 0) ∧ W1.cell? ⟨yb, 1, none⟩ = some (.int .i64 0) ∧ W1.cell? ⟨yb, 2, none⟩ = some (.int .i64 0) ∧ W1.cell? ⟨yb, 3, none⟩ = some (.int .i64 0) ∧ W1.cell? ⟨yb, 4, none⟩ = some (.int .i64 0) ∧ W1.cell? ⟨yb, 5, none⟩ = some (.int .i64 0) ∧ W1.cell? ⟨yb, 6, none⟩ = some (.int .u64 0) ∧ Below W1.heap.size W1 W1 := ⟨k0, k1, c0, c1, c2, c3, c4, c5, c6, d0, d1, d2, d3, d4, d5, d6, e0, e1, e2, e3, e4, e5, e6, Below.refl _ _⟩
  clear k0 k1 c0 c1 c2 c3 c4 c5 c6 d0 d1 d2 d3 d4 d5 d6 e0 e1 e2 e3 e4 e5 e6
  go_cut [4] (fun a wx => a = .bool true ∧ Hid (Below W1.heap.size W1 wx))
  case first =>
    go_region_held3 (fun w9 => w9.cell? ⟨w.heap.size, 0, none⟩ = some (u64 x) ∧ w9.cell? ⟨w.heap.size, 1, none⟩ = some (u64 y) ∧ w9.cell? ⟨w.heap.size + 1, 0, none⟩ = some (.int .i64 b) ∧ w9.cell? ⟨w.heap.size + 1, 1, none⟩ = some (.int .i64 r) ∧ w9.cell? ⟨w.heap.size + 1, 2, none⟩ = some (.int .i64 d) ∧ w9.cell? ⟨w.heap.size + 1, 3, none⟩ = some (.int .i64 f) ∧ w9.cell? ⟨w.heap.size + 1, 4, none⟩ = some (.int .i64 t) ∧ w9.cell? ⟨w.heap.size + 1, 5, none⟩ = some (.int .i64 n) ∧ w9.cell? ⟨w.heap.size + 1, 6, none⟩ = some (u64 g) ∧ w9.cell? ⟨xb, 0, none⟩ = some (.int .i64 0) ∧ w9.cell? ⟨xb, 1, none⟩ = some (.int .i64 0) ∧ w9.cell? ⟨xb, 2, none⟩ = some (.int .i64 0) ∧ w9.cell? ⟨xb, 3, none⟩ = some (.int .i64 0) ∧ w9.cell? ⟨xb, 4, none⟩ = some (.int .i64 0) ∧ w9.cell? ⟨xb, 5, none⟩ = some (.int .i64 0) ∧ w9.cell? ⟨xb, 6, none⟩ = some (.int .u64 0) ∧ w9.cell? ⟨yb, 0, none⟩ = some (.int .i64 0) ∧ w9.cell? ⟨yb, 1, none⟩ = some (.int .i64 0) ∧ w9.cell? ⟨yb, 2, none⟩ = some (.int .i64 0) ∧ w9.cell? ⟨yb, 3, none⟩ = some (.int .i64 0) ∧ w9.cell? ⟨yb, 4, none⟩ = some (.int .i64 0) ∧ w9.cell? ⟨yb, 5, none⟩ = some (.int .i64 0) ∧ w9.cell? ⟨yb, 6, none⟩ = some (.int .u64 0) ∧ Below W1.heap.size W1 w9)
      (repeat (with_reducible first | assumption | refine keepVD ?_ | refine keepVA _ ?_ | (apply keepV; focus assumption)))
      (first
        | (go_at_call 28; (with_reducible refine (HC1.out _).mono ?_); rintro e w5 ⟨rfl, hb5⟩)
        | (go_at_call 29; (with_reducible refine (HC2.out _).mono ?_); rintro e w5 ⟨rfl, hb5⟩)
        | (go_at_call 30; (with_reducible refine (HG1.out _).mono ?_); rintro e w5 ⟨rfl, hb5⟩)
        | (go_at_call 31; (with_reducible refine (HG2.out _).mono ?_); rintro e w5 ⟨rfl, hb5⟩)
        | (go_at_call 32; (with_reducible refine (awake15_any _).mono ?_); rintro e w5 ⟨rfl, hb5⟩))
    all_goals
      go_wp2_with fail
      go_meet
      exact ⟨rfl, by go_split_ands; assumption⟩
  case rest =>
    obtain ⟨rfl, hcut⟩ := hcut
    have HB9 := Lib.hid (below_step HQ4.out.b hcut.out)
    clear hcut hk0
    go_wp2
    go_ret
    exact ⟨rfl, HB9.out⟩
theorem tokenChecks_walk (x y : BitVec 64) (b r d f t n : Int) (g : BitVec 64) (w : World) : Calls Try.prog 4 #[.agg #[u64 x, u64 y], .agg #[.int .i64 b, .int .i64 r, .int .i64 d, .int .i64 f, .int .i64 t, .int .i64 n, u64 g]] w (RetB (.bool true) w) := by
  by_cases h : Tok.bad ⟨b, r, d, f, t, n⟩
  · exact tokenChecks_bad x y b r d f t n g w h
  · exact tokenChecks_ok x y b r d f t n g w h
end Go.Proofs.Ytgfgkgidpinmoaa
