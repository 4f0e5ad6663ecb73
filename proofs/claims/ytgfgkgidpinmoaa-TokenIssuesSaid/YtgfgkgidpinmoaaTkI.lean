/-
  TOKENS, THE LAWS: TokenIssues.
-/
import Derived.Test.YtgfgkgidpinmoaaProg
import Derived.Test.YtgfgkgidpinmoaaBase1
import Derived.Test.YtgfgkgidpinmoaaBase2
import Derived.Test.YtgfgkgidpinmoaaBase3
import Derived.Test.YtgfgkgidpinmoaaBase5
import Derived.Test.YtgfgkgidpinmoaaBase6
import Derived.Test.YtgfgkgidpinmoaaBase7
import Derived.Test.YtgfgkgidpinmoaaBase15
import Derived.Test.YtgfgkgidpinmoaaMacP
import Derived.Test.YtgfgkgidpinmoaaTokP
import Derived.Test.YtgfgkgidpinmoaaTkP
import Derived.Test.YtgfgkgidpinmoaaTok1
import Derived.Test.YtgfgkgidpinmoaaTok2
import Derived.Test.YtgfgkgidpinmoaaWire1
import Derived.Test.YtgfgkgidpinmoaaWire2
import Derived.Test.YtgfgkgidpinmoaaWire5
import Derived.Test.YtgfgkgidpinmoaaMac4D
import Derived.Test.YtgfgkgidpinmoaaMac4
import Derived.Test.YtgfgkgidpinmoaaTok3
import Derived.Test.YtgfgkgidpinmoaaTkA
import Derived.Test.YtgfgkgidpinmoaaHeld
import Derived.BigQuiet
import Derived.Laws.StructEq
import Derived.StillTailTactics
import Derived.RegionTactic
import Derived.BigRegion
import Derived.Deep.RegionHeld3
import Derived.Deep.DeepCutAuto
import Derived.Deep.QuietTactic
import Derived.WalkSpells
import Derived.WalkLawsBesides
namespace Go.Proofs.Ytgfgkgidpinmoaa
open Go.RowKit
set_option linter.unusedVariables false

set_option maxRecDepth 100000 in
set_option maxHeartbeats 1000000 in
theorem tokenIssues_bad (x y : BitVec 64) (b r d f t n : Int) (g z : BitVec 64) (w : World) (hbad : Tok.bad ⟨b, r, d, f, t, n⟩) : Calls Try.prog 7 #[.agg #[Ytgfgkgidpinmoaa.u64 x, Ytgfgkgidpinmoaa.u64 y], .agg #[.int .i64 b, .int .i64 r, .int .i64 d, .int .i64 f, .int .i64 t, .int .i64 n, Ytgfgkgidpinmoaa.u64 g], Ytgfgkgidpinmoaa.u64 z] w (RetB (.bool true) w) := by
  have HI := Lib.hid (fun W => issue_bad x y b r d f t n g W (chk_bad hbad))
  have HC : Hid (∀ W, Calls Try.prog 28 #[.agg #[.int .i64 b, .int .i64 r, .int .i64 d, .int .i64 f, .int .i64 t, .int .i64 n, Ytgfgkgidpinmoaa.u64 g]] W (RetB (.int .i64 1) W)) := fun W => by have := check_any b r d f t n g W; rw [chk_bad hbad] at this; exact this
  have HG : Hid (∀ W, Calls Try.prog 30 #[.agg #[Ytgfgkgidpinmoaa.u64 x, Ytgfgkgidpinmoaa.u64 y], .agg #[.int .i64 b, .int .i64 r, .int .i64 d, .int .i64 f, .int .i64 t, .int .i64 n, Ytgfgkgidpinmoaa.u64 g]] W (RetB (.bool false) W)) := fun W => by have := genuine_any x y b r d f t n g W; rw [gen_bad hbad] at this; exact this
  clear hbad
  have heq : ∀ w : World, (binOp .eql 36 (.agg #[.int .i64 0, .int .i64 0, .int .i64 0, .int .i64 0, .int .i64 0, .int .i64 0, .int .u64 0]) (.agg #[.int .i64 0, .int .i64 0, .int .i64 0, .int .i64 0, .int .i64 0, .int .i64 0, .int .u64 0])).run Try.prog w = .ok (.bool true) w := fun w => by
    have := tok_eql 0 0 0 0 0 0 0#64 0#64 w
    rw [decide_eq_true rfl] at this
    exact this
  have HQ := Lib.hid (GenW.mk0 w x y #[.int .i64 b, .int .i64 r, .int .i64 d, .int .i64 f, .int .i64 t, .int .i64 n, Ytgfgkgidpinmoaa.u64 g] 32 36)
  go_enter Try.func7, Try.ntmps7
  go_wp2_with fail
  refine (HI.out _).mono ?_
  rintro e w1 ⟨rfl, hb1⟩
  have HQ1 := Lib.hid ((HQ.out.step hb1).step (below_alloc w1 (.cells #[.int .i64 0, .int .i64 0, .int .i64 0, .int .i64 0, .int .i64 0, .int .i64 0, .int .u64 0] 36)))
  have HX1 : Hid (BlkAt (w1.alloc (.cells #[.int .i64 0, .int .i64 0, .int .i64 0, .int .i64 0, .int .i64 0, .int .i64 0, .int .u64 0] 36)) w1.heap.size #[.int .i64 0, .int .i64 0, .int .i64 0, .int .i64 0, .int .i64 0, .int .i64 0, .int .u64 0]) := blkNew rfl
  clear hb1 HQ
  go_upto_region 3 with (fail)
  generalize w1.alloc (.cells #[.int .i64 0, .int .i64 0, .int .i64 0, .int .i64 0, .int .i64 0, .int .i64 0, .int .u64 0] 36) = W2 at *
  generalize w1.heap.size = xb at *
  obtain ⟨k0, k1⟩ := key_cells2 HQ1.out.k
  obtain ⟨c0, c1, c2, c3, c4, c5, c6⟩ := tok_cells (w := w) (E := 0) HQ1.out.t
  obtain ⟨d0, d1, d2, d3, d4, d5, d6⟩ := tok_cells (w := w) (E := 0) HX1.out
  go_wp2_with fail
  refine (HC.out _).mono ?_
  rintro e w3 ⟨rfl, hb3⟩
  have HQ3 := Lib.hid (HQ1.out.step hb3)
  clear hb3 HQ1 HX1 k0 k1 c0 c1 c2 c3 c4 c5 c6 d0 d1 d2 d3 d4 d5 d6
  obtain ⟨k0, k1⟩ := key_cells2 HQ3.out.k
  obtain ⟨c0, c1, c2, c3, c4, c5, c6⟩ := tok_cells (w := w) (E := 0) HQ3.out.t
  go_wp2_with fail
  refine (HG.out _).mono ?_
  rintro e w4 ⟨rfl, hb4⟩
  have HQ4 := Lib.hid (HQ3.out.step hb4)
  clear hb4
  go_wp2_with fail
  refine (awake15_any _).mono ?_
  rintro e w5 ⟨rfl, hb5⟩
  have HB := Lib.hid (below_step HQ4.out.b hb5)
  clear hb5
  go_wp2
  go_ret
  exact ⟨rfl, HB.out⟩
set_option maxRecDepth 100000 in
set_option maxHeartbeats 2000000 in
theorem tokenIssues_ok (x y : BitVec 64) (b r d f t n : Int) (g z : BitVec 64) (w : World) (hok : ¬ Tok.bad ⟨b, r, d, f, t, n⟩) : Calls Try.prog 7 #[.agg #[Ytgfgkgidpinmoaa.u64 x, Ytgfgkgidpinmoaa.u64 y], .agg #[.int .i64 b, .int .i64 r, .int .i64 d, .int .i64 f, .int .i64 t, .int .i64 n, Ytgfgkgidpinmoaa.u64 g], Ytgfgkgidpinmoaa.u64 z] w (RetB (.bool true) w) := by
  have HI := Lib.hid (fun W => issue_ok x y b r d f t n g W hok)
  have hbb : (-1000000 : Int) ≤ b ∧ b ≤ 1000000 := by have := hok; unfold Tok.bad at this; dsimp only at this; omega
  have HDE : Hid (∀ W, Calls Try.prog 36 #[.agg #[Ytgfgkgidpinmoaa.u64 x, Ytgfgkgidpinmoaa.u64 y], .int .i64 b] W (RetB (.agg #[Ytgfgkgidpinmoaa.u64 (dKA x y b), Ytgfgkgidpinmoaa.u64 (dKB x y b)]) W)) := fun W => derive_any x y b W (by omega)
  have HTA : Hid (∀ (W : World) (k : Nat) (hk : BlkAt W k #[.int .i64 b, .int .i64 r, .int .i64 d, .int .i64 f, .int .i64 t, .int .i64 n]), Calls Try.prog 35 #[.agg #[Ytgfgkgidpinmoaa.u64 (dKA x y b), Ytgfgkgidpinmoaa.u64 (dKB x y b)], .slice (some ⟨k, 0, none⟩) 6 6] W (RetB (Ytgfgkgidpinmoaa.u64 (tagOf x y b r d f t n)) W)) := fun W k hk => tag_any (dKA x y b) (dKB x y b) [b, r, d, f, t, n] (some ⟨k, 0, none⟩) 6 6 W (six_slice hk) (six_small hok) (by decide)
  have HG1 : Hid (∀ W, Calls Try.prog 30 #[.agg #[Ytgfgkgidpinmoaa.u64 x, Ytgfgkgidpinmoaa.u64 y], .agg #[.int .i64 b, .int .i64 r, .int .i64 d, .int .i64 f, .int .i64 t, .int .i64 n, Ytgfgkgidpinmoaa.u64 (tagOf x y b r d f t n)]] W (RetB (.bool true) W)) := fun W => by have := genuine_any x y b r d f t n (tagOf x y b r d f t n) W; rw [gen_ok hok, decide_eq_true rfl] at this; exact this
  have HG2 : Hid (∀ W, Calls Try.prog 30 #[.agg #[Ytgfgkgidpinmoaa.u64 x, Ytgfgkgidpinmoaa.u64 y], .agg #[.int .i64 b, .int .i64 r, .int .i64 d, .int .i64 f, .int .i64 t, .int .i64 n, Ytgfgkgidpinmoaa.u64 z]] W (RetB (.bool (decide (z = tagOf x y b r d f t n))) W)) := fun W => by
    have := genuine_any x y b r d f t n z W
    rw [gen_ok hok, show decide (tagOf x y b r d f t n = z) = decide (z = tagOf x y b r d f t n) from by rw [decide_eq_decide]; exact eq_comm] at this
    exact this
  clear hok hbb
  generalize tagOf x y b r d f t n = G at *
  generalize dKA x y b = DA at *
  generalize dKB x y b = DB at *
  have HQ := Lib.hid (GenW.mk0 w x y #[.int .i64 b, .int .i64 r, .int .i64 d, .int .i64 f, .int .i64 t, .int .i64 n, Ytgfgkgidpinmoaa.u64 g] 32 36)
  go_enter Try.func7, Try.ntmps7
  go_wp2_with fail
  refine (HI.out _).mono ?_
  rintro e w1 ⟨rfl, hb1⟩
  have HQ1 := Lib.hid ((HQ.out.step hb1).step (below_alloc w1 (.cells #[.int .i64 b, .int .i64 r, .int .i64 d, .int .i64 f, .int .i64 t, .int .i64 n, Ytgfgkgidpinmoaa.u64 G] 36)))
  have HX1 : Hid (BlkAt (w1.alloc (.cells #[.int .i64 b, .int .i64 r, .int .i64 d, .int .i64 f, .int .i64 t, .int .i64 n, Ytgfgkgidpinmoaa.u64 G] 36)) w1.heap.size #[.int .i64 b, .int .i64 r, .int .i64 d, .int .i64 f, .int .i64 t, .int .i64 n, Ytgfgkgidpinmoaa.u64 G]) := blkNew rfl
  clear hb1 HQ
  go_upto_region 4 with (fail)
  generalize w1.alloc (.cells #[.int .i64 b, .int .i64 r, .int .i64 d, .int .i64 f, .int .i64 t, .int .i64 n, Ytgfgkgidpinmoaa.u64 G] 36) = W1 at *
  generalize w1.heap.size = xb at *
  obtain ⟨k0, k1⟩ := key_cells2 HQ1.out.k
  obtain ⟨c0, c1, c2, c3, c4, c5, c6⟩ := tok_cells (w := w) (E := 0) HQ1.out.t
  obtain ⟨d0, d1, d2, d3, d4, d5, d6⟩ := tok_cells (w := w) (E := 0) HX1.out
  have hk0 : W1.cell? ⟨w.heap.size, 0, none⟩ = some (Ytgfgkgidpinmoaa.u64 x) ∧ W1.cell? ⟨w.heap.size, 1, none⟩ = some (Ytgfgkgidpinmoaa.u64 y) ∧ W1.cell? ⟨w.heap.size + 1, 0, none⟩ = some (.int .i64 b) ∧ W1.cell? ⟨w.heap.size + 1, 1, none⟩ = some (.int .i64 r) ∧ W1.cell? ⟨w.heap.size + 1, 2, none⟩ = some (.int .i64 d) ∧ W1.cell? ⟨w.heap.size + 1, 3, none⟩ = some (.int .i64 f) ∧ W1.cell? ⟨w.heap.size + 1, 4, none⟩ = some (.int .i64 t) ∧ W1.cell? ⟨w.heap.size + 1, 5, none⟩ = some (.int .i64 n) ∧ W1.cell? ⟨w.heap.size + 1, 6, none⟩ = some (Ytgfgkgidpinmoaa.u64 g) ∧ W1.cell? ⟨xb, 0, none⟩ = some (.int .i64 b) ∧ W1.cell? ⟨xb, 1, none⟩ = some (.int .i64 r) ∧ W1.cell? ⟨xb, 2, none⟩ = some (.int .i64 d) ∧ W1.cell? ⟨xb, 3, none⟩ = some (.int .i64 f) ∧ W1.cell? ⟨xb, 4, none⟩ = some (.int .i64 t) ∧ W1.cell? ⟨xb, 5, none⟩ = some (.int .i64 n) ∧ W1.cell? ⟨xb, 6, none⟩ = some (Ytgfgkgidpinmoaa.u64 G) ∧ Below W1.heap.size W1 W1 := ⟨k0, k1, c0, c1, c2, c3, c4, c5, c6, d0, d1, d2, d3, d4, d5, d6, Below.refl _ _⟩
  clear k0 k1 c0 c1 c2 c3 c4 c5 c6 d0 d1 d2 d3 d4 d5 d6
  go_cut [64] (fun a wx => a = .bool false ∧ Hid (Below W1.heap.size W1 wx))
  case first =>
    go_region_held3 (fun w9 => w9.cell? ⟨w.heap.size, 0, none⟩ = some (Ytgfgkgidpinmoaa.u64 x) ∧ w9.cell? ⟨w.heap.size, 1, none⟩ = some (Ytgfgkgidpinmoaa.u64 y) ∧ w9.cell? ⟨w.heap.size + 1, 0, none⟩ = some (.int .i64 b) ∧ w9.cell? ⟨w.heap.size + 1, 1, none⟩ = some (.int .i64 r) ∧ w9.cell? ⟨w.heap.size + 1, 2, none⟩ = some (.int .i64 d) ∧ w9.cell? ⟨w.heap.size + 1, 3, none⟩ = some (.int .i64 f) ∧ w9.cell? ⟨w.heap.size + 1, 4, none⟩ = some (.int .i64 t) ∧ w9.cell? ⟨w.heap.size + 1, 5, none⟩ = some (.int .i64 n) ∧ w9.cell? ⟨w.heap.size + 1, 6, none⟩ = some (Ytgfgkgidpinmoaa.u64 g) ∧ w9.cell? ⟨xb, 0, none⟩ = some (.int .i64 b) ∧ w9.cell? ⟨xb, 1, none⟩ = some (.int .i64 r) ∧ w9.cell? ⟨xb, 2, none⟩ = some (.int .i64 d) ∧ w9.cell? ⟨xb, 3, none⟩ = some (.int .i64 f) ∧ w9.cell? ⟨xb, 4, none⟩ = some (.int .i64 t) ∧ w9.cell? ⟨xb, 5, none⟩ = some (.int .i64 n) ∧ w9.cell? ⟨xb, 6, none⟩ = some (Ytgfgkgidpinmoaa.u64 G) ∧ Below W1.heap.size W1 w9)
      (repeat (with_reducible first | assumption | refine keepXD ?_ | refine keepXA _ ?_ | (apply keepX; focus assumption)))
      (first
        | (go_at_call 36; (with_reducible refine (HDE.out _).mono ?_); rintro e w5 ⟨rfl, hb5⟩)
        | (go_at_call 35; (with_reducible refine (HTA.out _ _ ?_).mono ?_); (repeat (first | ((with_reducible refine blkNew ?_); focus (simp; done)) | (with_reducible assumption) | (with_reducible refine blkDrew ?_) | ((with_reducible apply blkBelow); focus (with_reducible assumption)) | (with_reducible refine blkOld ?_))); rintro e w5 ⟨rfl, hb6⟩)
        | (go_at_call 30; (with_reducible refine (HG1.out _).mono ?_); rintro e w5 ⟨rfl, hb7⟩))
    all_goals
      go_wp2_with fail
      go_meet
      exact ⟨rfl, by go_split_ands; assumption⟩
  case rest =>
    obtain ⟨rfl, hcut⟩ := hcut
    obtain ⟨W2, hW2⟩ : ∃ W, W = wc := ⟨_, rfl⟩
    subst hW2
    have HQ2 := Lib.hid (HQ1.out.step hcut.out)
    have HX2 := Lib.hid (blkBelow hcut.out HX1.out)
    clear hcut hk0 HQ1 HX1
    clear W1
    obtain ⟨d0, d1, d2, d3, d4, d5, d6⟩ := tok_cells (w := w) (E := 0) HX2.out
    go_upto_region 8 with (fail)
    have HQ3 := Lib.hid (HQ2.out.step (below_alloc W2 (.cells #[.int .i64 b, .int .i64 r, .int .i64 d, .int .i64 f, .int .i64 t, .int .i64 n, Ytgfgkgidpinmoaa.u64 z] 36)))
    have HX3 : Hid (BlkAt (W2.alloc (.cells #[.int .i64 b, .int .i64 r, .int .i64 d, .int .i64 f, .int .i64 t, .int .i64 n, Ytgfgkgidpinmoaa.u64 z] 36)) xb #[.int .i64 b, .int .i64 r, .int .i64 d, .int .i64 f, .int .i64 t, .int .i64 n, Ytgfgkgidpinmoaa.u64 G]) := blkOld HX2.out
    have HY3 : Hid (BlkAt (W2.alloc (.cells #[.int .i64 b, .int .i64 r, .int .i64 d, .int .i64 f, .int .i64 t, .int .i64 n, Ytgfgkgidpinmoaa.u64 z] 36)) W2.heap.size #[.int .i64 b, .int .i64 r, .int .i64 d, .int .i64 f, .int .i64 t, .int .i64 n, Ytgfgkgidpinmoaa.u64 z]) := blkNew rfl
    generalize W2.alloc (.cells #[.int .i64 b, .int .i64 r, .int .i64 d, .int .i64 f, .int .i64 t, .int .i64 n, Ytgfgkgidpinmoaa.u64 z] 36) = W1 at *
    generalize W2.heap.size = yb at *
    clear d0 d1 d2 d3 d4 d5 d6 HQ2 HX2
    obtain ⟨k0, k1⟩ := key_cells2 HQ3.out.k
    obtain ⟨d0, d1, d2, d3, d4, d5, d6⟩ := tok_cells (w := w) (E := 0) HX3.out
    obtain ⟨e0, e1, e2, e3, e4, e5, e6⟩ := tok_cells (w := w) (E := 0) HY3.out
    have hk0 : W1.cell? ⟨w.heap.size, 0, none⟩ = some (Ytgfgkgidpinmoaa.u64 x) ∧ W1.cell? ⟨w.heap.size, 1, none⟩ = some (Ytgfgkgidpinmoaa.u64 y) ∧ W1.cell? ⟨xb, 0, none⟩ = some (.int .i64 b) ∧ W1.cell? ⟨xb, 1, none⟩ = some (.int .i64 r) ∧ W1.cell? ⟨xb, 2, none⟩ = some (.int .i64 d) ∧ W1.cell? ⟨xb, 3, none⟩ = some (.int .i64 f) ∧ W1.cell? ⟨xb, 4, none⟩ = some (.int .i64 t) ∧ W1.cell? ⟨xb, 5, none⟩ = some (.int .i64 n) ∧ W1.cell? ⟨xb, 6, none⟩ = some (Ytgfgkgidpinmoaa.u64 G) ∧ W1.cell? ⟨yb, 0, none⟩ = some (.int .i64 b) ∧ W1.cell? ⟨yb, 1, none⟩ = some (.int .i64 r) ∧ W1.cell? ⟨yb, 2, none⟩ = some (.int .i64 d) ∧ W1.cell? ⟨yb, 3, none⟩ = some (.int .i64 f) ∧ W1.cell? ⟨yb, 4, none⟩ = some (.int .i64 t) ∧ W1.cell? ⟨yb, 5, none⟩ = some (.int .i64 n) ∧ W1.cell? ⟨yb, 6, none⟩ = some (Ytgfgkgidpinmoaa.u64 z) ∧ Below W1.heap.size W1 W1 := ⟨k0, k1, d0, d1, d2, d3, d4, d5, d6, e0, e1, e2, e3, e4, e5, e6, Below.refl _ _⟩
    clear k0 k1 d0 d1 d2 d3 d4 d5 d6 e0 e1 e2 e3 e4 e5 e6
    go_cut [6] (fun a wx => a = .bool true ∧ Hid (Below W1.heap.size W1 wx))
    case first =>
      go_region_held3 (fun w9 => w9.cell? ⟨w.heap.size, 0, none⟩ = some (Ytgfgkgidpinmoaa.u64 x) ∧ w9.cell? ⟨w.heap.size, 1, none⟩ = some (Ytgfgkgidpinmoaa.u64 y) ∧ w9.cell? ⟨xb, 0, none⟩ = some (.int .i64 b) ∧ w9.cell? ⟨xb, 1, none⟩ = some (.int .i64 r) ∧ w9.cell? ⟨xb, 2, none⟩ = some (.int .i64 d) ∧ w9.cell? ⟨xb, 3, none⟩ = some (.int .i64 f) ∧ w9.cell? ⟨xb, 4, none⟩ = some (.int .i64 t) ∧ w9.cell? ⟨xb, 5, none⟩ = some (.int .i64 n) ∧ w9.cell? ⟨xb, 6, none⟩ = some (Ytgfgkgidpinmoaa.u64 G) ∧ w9.cell? ⟨yb, 0, none⟩ = some (.int .i64 b) ∧ w9.cell? ⟨yb, 1, none⟩ = some (.int .i64 r) ∧ w9.cell? ⟨yb, 2, none⟩ = some (.int .i64 d) ∧ w9.cell? ⟨yb, 3, none⟩ = some (.int .i64 f) ∧ w9.cell? ⟨yb, 4, none⟩ = some (.int .i64 t) ∧ w9.cell? ⟨yb, 5, none⟩ = some (.int .i64 n) ∧ w9.cell? ⟨yb, 6, none⟩ = some (Ytgfgkgidpinmoaa.u64 z) ∧ Below W1.heap.size W1 w9)
        (repeat (with_reducible first | assumption | refine keepXD ?_ | refine keepXA _ ?_ | (apply keepX; focus assumption)))
        (first
          | (go_at_call 30; (with_reducible refine (HG2.out _).mono ?_); rintro e w5 ⟨rfl, hb7⟩)
          | (go_at_call 32; (with_reducible refine (awake15_any _).mono ?_); rintro e w5 ⟨rfl, hb5⟩))
      all_goals
        go_wp2_with fail
        go_meet
        exact ⟨rfl, by go_split_ands; assumption⟩
    case rest =>
      obtain ⟨rfl, hcut⟩ := hcut
      have HB9 := Lib.hid (below_step HQ3.out.b hcut.out)
      clear hcut hk0
      go_wp2
      go_ret
      exact ⟨rfl, HB9.out⟩
theorem tokenIssues_walk (x y : BitVec 64) (b r d f t n : Int) (g z : BitVec 64) (w : World) : Calls Try.prog 7 #[.agg #[Ytgfgkgidpinmoaa.u64 x, Ytgfgkgidpinmoaa.u64 y], .agg #[.int .i64 b, .int .i64 r, .int .i64 d, .int .i64 f, .int .i64 t, .int .i64 n, Ytgfgkgidpinmoaa.u64 g], Ytgfgkgidpinmoaa.u64 z] w (RetB (.bool true) w) := by
  by_cases h : Tok.bad ⟨b, r, d, f, t, n⟩
  · exact tokenIssues_bad x y b r d f t n g z w h
  · exact tokenIssues_ok x y b r d f t n g z w h
end Go.Proofs.Ytgfgkgidpinmoaa
