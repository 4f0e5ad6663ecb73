/-
  TOKENS, THE LAWS: TokenUses.
-/
import Derived.Test.YtgfgkgidpinmoaaProg
import Derived.Test.YtgfgkgidpinmoaaBase1
import Derived.Test.YtgfgkgidpinmoaaBase2
import Derived.Test.YtgfgkgidpinmoaaBase3
import Derived.Test.YtgfgkgidpinmoaaBase5
import Derived.Test.YtgfgkgidpinmoaaBase6
import Derived.Test.YtgfgkgidpinmoaaBase7
import Derived.Test.YtgfgkgidpinmoaaBase15
import Derived.Test.YtgfgkgidpinmoaaMacP
import Derived.Test.YtgfgkgidpinmoaaTokP
import Derived.Test.YtgfgkgidpinmoaaTkP
import Derived.Test.YtgfgkgidpinmoaaTok1
import Derived.Test.YtgfgkgidpinmoaaTok2
import Derived.Test.YtgfgkgidpinmoaaWire1
import Derived.Test.YtgfgkgidpinmoaaWire2
import Derived.Test.YtgfgkgidpinmoaaWire5
import Derived.Test.YtgfgkgidpinmoaaTok2R
import Derived.Test.YtgfgkgidpinmoaaTok3
import Derived.Test.YtgfgkgidpinmoaaTkA
import Derived.Test.YtgfgkgidpinmoaaHeld
import Derived.BigQuiet
import Derived.Laws.StructEq
import Derived.StillTailTactics
import Derived.RegionTactic
import Derived.BigRegion
import Derived.Deep.RegionHeld3
import Derived.Deep.DeepCutAuto
import Derived.Deep.QuietTactic
import Derived.WalkSpells
import Derived.WalkLawsBesides
namespace Go.Proofs.Ytgfgkgidpinmoaa
open Go.RowKit
set_option linter.unusedVariables false

section
variable {w w1 w2 : World} {a0 a1 a2 a3 a4 a5 a6 a7 a8 a9 a10 : Addr} {v0 v1 v2 v3 v4 v5 v6 v7 v8 v9 v10 : Value}
theorem keepU (hb : Below w1.heap.size w1 w2) (h : w1.cell? a0 = some v0 ∧ w1.cell? a1 = some v1 ∧ w1.cell? a2 = some v2 ∧ w1.cell? a3 = some v3 ∧ w1.cell? a4 = some v4 ∧ w1.cell? a5 = some v5 ∧ w1.cell? a6 = some v6 ∧ w1.cell? a7 = some v7 ∧ w1.cell? a8 = some v8 ∧ w1.cell? a9 = some v9 ∧ w1.cell? a10 = some v10 ∧ Below w.heap.size w w1) : w2.cell? a0 = some v0 ∧ w2.cell? a1 = some v1 ∧ w2.cell? a2 = some v2 ∧ w2.cell? a3 = some v3 ∧ w2.cell? a4 = some v4 ∧ w2.cell? a5 = some v5 ∧ w2.cell? a6 = some v6 ∧ w2.cell? a7 = some v7 ∧ w2.cell? a8 = some v8 ∧ w2.cell? a9 = some v9 ∧ w2.cell? a10 = some v10 ∧ Below w.heap.size w w2 := ⟨cell_keep hb h.1, cell_keep hb h.2.1, cell_keep hb h.2.2.1, cell_keep hb h.2.2.2.1, cell_keep hb h.2.2.2.2.1, cell_keep hb h.2.2.2.2.2.1, cell_keep hb h.2.2.2.2.2.2.1, cell_keep hb h.2.2.2.2.2.2.2.1, cell_keep hb h.2.2.2.2.2.2.2.2.1, cell_keep hb h.2.2.2.2.2.2.2.2.2.1, cell_keep hb h.2.2.2.2.2.2.2.2.2.2.1, below_step h.2.2.2.2.2.2.2.2.2.2.2 hb⟩
theorem keepUD (h : w1.cell? a0 = some v0 ∧ w1.cell? a1 = some v1 ∧ w1.cell? a2 = some v2 ∧ w1.cell? a3 = some v3 ∧ w1.cell? a4 = some v4 ∧ w1.cell? a5 = some v5 ∧ w1.cell? a6 = some v6 ∧ w1.cell? a7 = some v7 ∧ w1.cell? a8 = some v8 ∧ w1.cell? a9 = some v9 ∧ w1.cell? a10 = some v10 ∧ Below w.heap.size w w1) : w1.drew.cell? a0 = some v0 ∧ w1.drew.cell? a1 = some v1 ∧ w1.drew.cell? a2 = some v2 ∧ w1.drew.cell? a3 = some v3 ∧ w1.drew.cell? a4 = some v4 ∧ w1.drew.cell? a5 = some v5 ∧ w1.drew.cell? a6 = some v6 ∧ w1.drew.cell? a7 = some v7 ∧ w1.drew.cell? a8 = some v8 ∧ w1.drew.cell? a9 = some v9 ∧ w1.drew.cell? a10 = some v10 ∧ Below w.heap.size w w1.drew := ⟨h.1, h.2.1, h.2.2.1, h.2.2.2.1, h.2.2.2.2.1, h.2.2.2.2.2.1, h.2.2.2.2.2.2.1, h.2.2.2.2.2.2.2.1, h.2.2.2.2.2.2.2.2.1, h.2.2.2.2.2.2.2.2.2.1, h.2.2.2.2.2.2.2.2.2.2.1, below_drew h.2.2.2.2.2.2.2.2.2.2.2⟩
theorem keepUA (o : Obj) (h : w1.cell? a0 = some v0 ∧ w1.cell? a1 = some v1 ∧ w1.cell? a2 = some v2 ∧ w1.cell? a3 = some v3 ∧ w1.cell? a4 = some v4 ∧ w1.cell? a5 = some v5 ∧ w1.cell? a6 = some v6 ∧ w1.cell? a7 = some v7 ∧ w1.cell? a8 = some v8 ∧ w1.cell? a9 = some v9 ∧ w1.cell? a10 = some v10 ∧ Below w.heap.size w w1) : (w1.alloc o).cell? a0 = some v0 ∧ (w1.alloc o).cell? a1 = some v1 ∧ (w1.alloc o).cell? a2 = some v2 ∧ (w1.alloc o).cell? a3 = some v3 ∧ (w1.alloc o).cell? a4 = some v4 ∧ (w1.alloc o).cell? a5 = some v5 ∧ (w1.alloc o).cell? a6 = some v6 ∧ (w1.alloc o).cell? a7 = some v7 ∧ (w1.alloc o).cell? a8 = some v8 ∧ (w1.alloc o).cell? a9 = some v9 ∧ (w1.alloc o).cell? a10 = some v10 ∧ Below w.heap.size w (w1.alloc o) := keepU (below_alloc _ _) h
end
set_option maxRecDepth 100000 in
set_option maxHeartbeats 2000000 in
theorem tokenUses_ok (x y : BitVec 64) (b r d f t n : Int) (g : BitVec 64) (bike lo hi last : Int) (w : World) (hok : ¬ Tok.bad ⟨b, r, d, f, t, n⟩) : Calls Try.prog 5 #[.agg #[u64 x, u64 y], .agg #[.int .i64 b, .int .i64 r, .int .i64 d, .int .i64 f, .int .i64 t, .int .i64 n, u64 g], .int .i64 bike, .agg #[.int .i64 lo, .int .i64 hi], .int .i64 last] w (RetB (.bool true) w) := by
  have HIS : Hid (∀ W, Calls Try.prog 27 #[.agg #[u64 x, u64 y], .agg #[.int .i64 b, .int .i64 r, .int .i64 d, .int .i64 f, .int .i64 t, .int .i64 n, u64 g]] W (RetB (.tuple #[.agg #[.int .i64 b, .int .i64 r, .int .i64 d, .int .i64 f, .int .i64 t, .int .i64 n, u64 (tagOf x y b r d f t n)], .int .i64 0]) W)) := fun W => refIssue_ok x y b r d f t n g W hok
  obtain ⟨U1, hU1⟩ : ∃ U, usable x y b r d f t n g bike lo hi last = U := ⟨_, rfl⟩
  obtain ⟨U2, hU2⟩ : ∃ U, usable x y b r d f t n (tagOf x y b r d f t n) bike lo hi last = U := ⟨_, rfl⟩
  have HA1 : Hid (∀ W, Calls Try.prog 33 #[.agg #[u64 x, u64 y], .agg #[.int .i64 b, .int .i64 r, .int .i64 d, .int .i64 f, .int .i64 t, .int .i64 n, u64 g], .int .i64 bike, .agg #[.int .i64 lo, .int .i64 hi], .int .i64 last] W (RetB (.int .i64 U1) W)) := fun W => by rw [← hU1]; exact usable_any x y b r d f t n g bike lo hi last W
  have HB1 : Hid (∀ W, Calls Try.prog 34 #[.agg #[u64 x, u64 y], .agg #[.int .i64 b, .int .i64 r, .int .i64 d, .int .i64 f, .int .i64 t, .int .i64 n, u64 g], .int .i64 bike, .agg #[.int .i64 lo, .int .i64 hi], .int .i64 last] W (RetB (.int .i64 U1) W)) := fun W => by rw [← hU1]; exact refUsable_any x y b r d f t n g bike lo hi last W
  have HA2 : Hid (∀ W, Calls Try.prog 33 #[.agg #[u64 x, u64 y], .agg #[.int .i64 b, .int .i64 r, .int .i64 d, .int .i64 f, .int .i64 t, .int .i64 n, u64 (tagOf x y b r d f t n)], .int .i64 bike, .agg #[.int .i64 lo, .int .i64 hi], .int .i64 last] W (RetB (.int .i64 U2) W)) := fun W => by rw [← hU2]; exact usable_any x y b r d f t n (tagOf x y b r d f t n) bike lo hi last W
  have HB2 : Hid (∀ W, Calls Try.prog 34 #[.agg #[u64 x, u64 y], .agg #[.int .i64 b, .int .i64 r, .int .i64 d, .int .i64 f, .int .i64 t, .int .i64 n, u64 (tagOf x y b r d f t n)], .int .i64 bike, .agg #[.int .i64 lo, .int .i64 hi], .int .i64 last] W (RetB (.int .i64 U2) W)) := fun W => by rw [← hU2]; exact refUsable_any x y b r d f t n (tagOf x y b r d f t n) bike lo hi last W
  clear hU1 hU2 hok
  generalize tagOf x y b r d f t n = G at *
  have HQ := Lib.hid (UseW.mk0 w x y #[.int .i64 b, .int .i64 r, .int .i64 d, .int .i64 f, .int .i64 t, .int .i64 n, u64 g] lo hi 32 36 43)
  go_enter Try.func5, Try.ntmps5
  go_upto_region 1 with (fail)
  generalize ((w.alloc (.cells #[u64 x, u64 y] 32)).alloc (.cells #[.int .i64 b, .int .i64 r, .int .i64 d, .int .i64 f, .int .i64 t, .int .i64 n, u64 g] 36)).alloc (.cells #[.int .i64 lo, .int .i64 hi] 43) = W1 at *
  obtain ⟨k0, k1⟩ := key_cells2 HQ.out.k
  obtain ⟨c0, c1, c2, c3, c4, c5, c6⟩ := tok_cells (w := w) (E := 0) HQ.out.t
  obtain ⟨s0, s1⟩ := key_cells2 HQ.out.s
  have hk0 : W1.cell? ⟨w.heap.size, 0, none⟩ = some (u64 x) ∧ W1.cell? ⟨w.heap.size, 1, none⟩ = some (u64 y) ∧ W1.cell? ⟨w.heap.size + 1, 0, none⟩ = some (.int .i64 b) ∧ W1.cell? ⟨w.heap.size + 1, 1, none⟩ = some (.int .i64 r) ∧ W1.cell? ⟨w.heap.size + 1, 2, none⟩ = some (.int .i64 d) ∧ W1.cell? ⟨w.heap.size + 1, 3, none⟩ = some (.int .i64 f) ∧ W1.cell? ⟨w.heap.size + 1, 4, none⟩ = some (.int .i64 t) ∧ W1.cell? ⟨w.heap.size + 1, 5, none⟩ = some (.int .i64 n) ∧ W1.cell? ⟨w.heap.size + 1, 6, none⟩ = some (u64 g) ∧ W1.cell? ⟨w.heap.size + 1 + 1, 0, none⟩ = some (.int .i64 lo) ∧ W1.cell? ⟨w.heap.size + 1 + 1, 1, none⟩ = some (.int .i64 hi) ∧ Below W1.heap.size W1 W1 := ⟨k0, k1, c0, c1, c2, c3, c4, c5, c6, s0, s1, Below.refl _ _⟩
  clear k0 k1 c0 c1 c2 c3 c4 c5 c6 s0 s1
  go_cut [25] (fun a wx => a = .bool false ∧ Hid (Below W1.heap.size W1 wx))
  case first =>
    go_region_held3 (fun w9 => w9.cell? ⟨w.heap.size, 0, none⟩ = some (u64 x) ∧ w9.cell? ⟨w.heap.size, 1, none⟩ = some (u64 y) ∧ w9.cell? ⟨w.heap.size + 1, 0, none⟩ = some (.int .i64 b) ∧ w9.cell? ⟨w.heap.size + 1, 1, none⟩ = some (.int .i64 r) ∧ w9.cell? ⟨w.heap.size + 1, 2, none⟩ = some (.int .i64 d) ∧ w9.cell? ⟨w.heap.size + 1, 3, none⟩ = some (.int .i64 f) ∧ w9.cell? ⟨w.heap.size + 1, 4, none⟩ = some (.int .i64 t) ∧ w9.cell? ⟨w.heap.size + 1, 5, none⟩ = some (.int .i64 n) ∧ w9.cell? ⟨w.heap.size + 1, 6, none⟩ = some (u64 g) ∧ w9.cell? ⟨w.heap.size + 1 + 1, 0, none⟩ = some (.int .i64 lo) ∧ w9.cell? ⟨w.heap.size + 1 + 1, 1, none⟩ = some (.int .i64 hi) ∧ Below W1.heap.size W1 w9)
      (repeat (with_reducible first | assumption | refine keepUD ?_ | refine keepUA _ ?_ | (apply keepU; focus assumption)))
      (first
        | (go_at_call 33; (with_reducible refine (HA1.out _).mono ?_); rintro e w5 ⟨rfl, hb5⟩)
        | (go_at_call 34; (with_reducible refine (HB1.out _).mono ?_); rintro e w5 ⟨rfl, hb5⟩))
    all_goals
      go_wp2_with fail
      go_meet
      exact ⟨rfl, by go_split_ands; assumption⟩
  case rest =>
    obtain ⟨rfl, hcut⟩ := hcut
    obtain ⟨W2, hW2⟩ : ∃ W, W = wc := ⟨_, rfl⟩
    subst hW2
    have HQ2 := Lib.hid (HQ.out.step hcut.out)
    clear hcut hk0 HQ
    clear W1
    obtain ⟨k0, k1⟩ := key_cells2 HQ2.out.k
    obtain ⟨c0, c1, c2, c3, c4, c5, c6⟩ := tok_cells (w := w) (E := 0) HQ2.out.t
    go_wp2_with fail
    refine (HIS.out _).mono ?_
    rintro e w3 ⟨rfl, hb3⟩
    have HQ4 := Lib.hid ((HQ2.out.step hb3).step (below_alloc w3 (.cells #[.int .i64 b, .int .i64 r, .int .i64 d, .int .i64 f, .int .i64 t, .int .i64 n, u64 G] 36)))
    have HX : Hid (BlkAt (w3.alloc (.cells #[.int .i64 b, .int .i64 r, .int .i64 d, .int .i64 f, .int .i64 t, .int .i64 n, u64 G] 36)) w3.heap.size #[.int .i64 b, .int .i64 r, .int .i64 d, .int .i64 f, .int .i64 t, .int .i64 n, u64 G]) := blkNew rfl
    clear hb3 HQ2 k0 k1 c0 c1 c2 c3 c4 c5 c6
    go_upto_region 4 with (fail)
    generalize w3.alloc (.cells #[.int .i64 b, .int .i64 r, .int .i64 d, .int .i64 f, .int .i64 t, .int .i64 n, u64 G] 36) = W1 at *
    generalize w3.heap.size = xb at *
    obtain ⟨k0, k1⟩ := key_cells2 HQ4.out.k
    obtain ⟨c0, c1, c2, c3, c4, c5, c6⟩ := tok_cells (w := w) (E := 0) HX.out
    obtain ⟨s0, s1⟩ := key_cells2 HQ4.out.s
    have hk0 : W1.cell? ⟨w.heap.size, 0, none⟩ = some (u64 x) ∧ W1.cell? ⟨w.heap.size, 1, none⟩ = some (u64 y) ∧ W1.cell? ⟨xb, 0, none⟩ = some (.int .i64 b) ∧ W1.cell? ⟨xb, 1, none⟩ = some (.int .i64 r) ∧ W1.cell? ⟨xb, 2, none⟩ = some (.int .i64 d) ∧ W1.cell? ⟨xb, 3, none⟩ = some (.int .i64 f) ∧ W1.cell? ⟨xb, 4, none⟩ = some (.int .i64 t) ∧ W1.cell? ⟨xb, 5, none⟩ = some (.int .i64 n) ∧ W1.cell? ⟨xb, 6, none⟩ = some (u64 G) ∧ W1.cell? ⟨w.heap.size + 1 + 1, 0, none⟩ = some (.int .i64 lo) ∧ W1.cell? ⟨w.heap.size + 1 + 1, 1, none⟩ = some (.int .i64 hi) ∧ Below W1.heap.size W1 W1 := ⟨k0, k1, c0, c1, c2, c3, c4, c5, c6, s0, s1, Below.refl _ _⟩
    clear k0 k1 c0 c1 c2 c3 c4 c5 c6 s0 s1
    go_cut [10] (fun a wx => a = .bool true ∧ Hid (Below W1.heap.size W1 wx))
    case first =>
      go_region_held3 (fun w9 => w9.cell? ⟨w.heap.size, 0, none⟩ = some (u64 x) ∧ w9.cell? ⟨w.heap.size, 1, none⟩ = some (u64 y) ∧ w9.cell? ⟨xb, 0, none⟩ = some (.int .i64 b) ∧ w9.cell? ⟨xb, 1, none⟩ = some (.int .i64 r) ∧ w9.cell? ⟨xb, 2, none⟩ = some (.int .i64 d) ∧ w9.cell? ⟨xb, 3, none⟩ = some (.int .i64 f) ∧ w9.cell? ⟨xb, 4, none⟩ = some (.int .i64 t) ∧ w9.cell? ⟨xb, 5, none⟩ = some (.int .i64 n) ∧ w9.cell? ⟨xb, 6, none⟩ = some (u64 G) ∧ w9.cell? ⟨w.heap.size + 1 + 1, 0, none⟩ = some (.int .i64 lo) ∧ w9.cell? ⟨w.heap.size + 1 + 1, 1, none⟩ = some (.int .i64 hi) ∧ Below W1.heap.size W1 w9)
        (repeat (with_reducible first | assumption | refine keepUD ?_ | refine keepUA _ ?_ | (apply keepU; focus assumption)))
        (first
          | (go_at_call 33; (with_reducible refine (HA2.out _).mono ?_); rintro e w5 ⟨rfl, hb5⟩)
          | (go_at_call 34; (with_reducible refine (HB2.out _).mono ?_); rintro e w5 ⟨rfl, hb5⟩)
          | (go_at_call 32; (with_reducible refine (awake15_any _).mono ?_); rintro e w5 ⟨rfl, hb5⟩))
      all_goals
        go_wp2_with fail
        go_meet
        exact ⟨rfl, by go_split_ands; assumption⟩
    case rest =>
      obtain ⟨rfl, hcut⟩ := hcut
      have HB9 := Lib.hid (below_step HQ4.out.b hcut.out)
      clear hcut hk0
      go_wp2
      go_ret
      exact ⟨rfl, HB9.out⟩
set_option maxRecDepth 100000 in
set_option maxHeartbeats 2000000 in
theorem tokenUses_bad (x y : BitVec 64) (b r d f t n : Int) (g : BitVec 64) (bike lo hi last : Int) (w : World) (hbad : Tok.bad ⟨b, r, d, f, t, n⟩) : Calls Try.prog 5 #[.agg #[u64 x, u64 y], .agg #[.int .i64 b, .int .i64 r, .int .i64 d, .int .i64 f, .int .i64 t, .int .i64 n, u64 g], .int .i64 bike, .agg #[.int .i64 lo, .int .i64 hi], .int .i64 last] w (RetB (.bool true) w) := by
  have HIS : Hid (∀ W, Calls Try.prog 27 #[.agg #[u64 x, u64 y], .agg #[.int .i64 b, .int .i64 r, .int .i64 d, .int .i64 f, .int .i64 t, .int .i64 n, u64 g]] W (RetB (.tuple #[.agg #[.int .i64 0, .int .i64 0, .int .i64 0, .int .i64 0, .int .i64 0, .int .i64 0, .int .u64 0], .int .i64 1]) W)) := fun W => refIssue_bad x y b r d f t n g W (chk_bad hbad)
  obtain ⟨U1, hU1⟩ : ∃ U, usable x y b r d f t n g bike lo hi last = U := ⟨_, rfl⟩
  obtain ⟨U2, hU2⟩ : ∃ U, usable x y 0 0 0 0 0 0 0 bike lo hi last = U := ⟨_, rfl⟩
  have HA1 : Hid (∀ W, Calls Try.prog 33 #[.agg #[u64 x, u64 y], .agg #[.int .i64 b, .int .i64 r, .int .i64 d, .int .i64 f, .int .i64 t, .int .i64 n, u64 g], .int .i64 bike, .agg #[.int .i64 lo, .int .i64 hi], .int .i64 last] W (RetB (.int .i64 U1) W)) := fun W => by rw [← hU1]; exact usable_any x y b r d f t n g bike lo hi last W
  have HB1 : Hid (∀ W, Calls Try.prog 34 #[.agg #[u64 x, u64 y], .agg #[.int .i64 b, .int .i64 r, .int .i64 d, .int .i64 f, .int .i64 t, .int .i64 n, u64 g], .int .i64 bike, .agg #[.int .i64 lo, .int .i64 hi], .int .i64 last] W (RetB (.int .i64 U1) W)) := fun W => by rw [← hU1]; exact refUsable_any x y b r d f t n g bike lo hi last W
  have HA2 : Hid (∀ W, Calls Try.prog 33 #[.agg #[u64 x, u64 y], .agg #[.int .i64 0, .int .i64 0, .int .i64 0, .int .i64 0, .int .i64 0, .int .i64 0, .int .u64 0], .int .i64 bike, .agg #[.int .i64 lo, .int .i64 hi], .int .i64 last] W (RetB (.int .i64 U2) W)) := fun W => by rw [← hU2]; exact usable_any x y 0 0 0 0 0 0 0 bike lo hi last W
  have HB2 : Hid (∀ W, Calls Try.prog 34 #[.agg #[u64 x, u64 y], .agg #[.int .i64 0, .int .i64 0, .int .i64 0, .int .i64 0, .int .i64 0, .int .i64 0, .int .u64 0], .int .i64 bike, .agg #[.int .i64 lo, .int .i64 hi], .int .i64 last] W (RetB (.int .i64 U2) W)) := fun W => by rw [← hU2]; exact refUsable_any x y 0 0 0 0 0 0 0 bike lo hi last W
  clear hU1 hU2 hbad
  have HQ := Lib.hid (UseW.mk0 w x y #[.int .i64 b, .int .i64 r, .int .i64 d, .int .i64 f, .int .i64 t, .int .i64 n, u64 g] lo hi 32 36 43)
  go_enter Try.func5, Try.ntmps5
  go_upto_region 1 with (fail)
  generalize ((w.alloc (.cells #[u64 x, u64 y] 32)).alloc (.cells #[.int .i64 b, .int .i64 r, .int .i64 d, .int .i64 f, .int .i64 t, .int .i64 n, u64 g] 36)).alloc (.cells #[.int .i64 lo, .int .i64 hi] 43) = W1 at *
  obtain ⟨k0, k1⟩ := key_cells2 HQ.out.k
  obtain ⟨c0, c1, c2, c3, c4, c5, c6⟩ := tok_cells (w := w) (E := 0) HQ.out.t
  obtain ⟨s0, s1⟩ := key_cells2 HQ.out.s
  have hk0 : W1.cell? ⟨w.heap.size, 0, none⟩ = some (u64 x) ∧ W1.cell? ⟨w.heap.size, 1, none⟩ = some (u64 y) ∧ W1.cell? ⟨w.heap.size + 1, 0, none⟩ = some (.int .i64 b) ∧ W1.cell? ⟨w.heap.size + 1, 1, none⟩ = some (.int .i64 r) ∧ W1.cell? ⟨w.heap.size + 1, 2, none⟩ = some (.int .i64 d) ∧ W1.cell? ⟨w.heap.size + 1, 3, none⟩ = some (.int .i64 f) ∧ W1.cell? ⟨w.heap.size + 1, 4, none⟩ = some (.int .i64 t) ∧ W1.cell? ⟨w.heap.size + 1, 5, none⟩ = some (.int .i64 n) ∧ W1.cell? ⟨w.heap.size + 1, 6, none⟩ = some (u64 g) ∧ W1.cell? ⟨w.heap.size + 1 + 1, 0, none⟩ = some (.int .i64 lo) ∧ W1.cell? ⟨w.heap.size + 1 + 1, 1, none⟩ = some (.int .i64 hi) ∧ Below W1.heap.size W1 W1 := ⟨k0, k1, c0, c1, c2, c3, c4, c5, c6, s0, s1, Below.refl _ _⟩
  clear k0 k1 c0 c1 c2 c3 c4 c5 c6 s0 s1
  go_cut [25] (fun a wx => a = .bool false ∧ Hid (Below W1.heap.size W1 wx))
  case first =>
    go_region_held3 (fun w9 => w9.cell? ⟨w.heap.size, 0, none⟩ = some (u64 x) ∧ w9.cell? ⟨w.heap.size, 1, none⟩ = some (u64 y) ∧ w9.cell? ⟨w.heap.size + 1, 0, none⟩ = some (.int .i64 b) ∧ w9.cell? ⟨w.heap.size + 1, 1, none⟩ = some (.int .i64 r) ∧ w9.cell? ⟨w.heap.size + 1, 2, none⟩ = some (.int .i64 d) ∧ w9.cell? ⟨w.heap.size + 1, 3, none⟩ = some (.int .i64 f) ∧ w9.cell? ⟨w.heap.size + 1, 4, none⟩ = some (.int .i64 t) ∧ w9.cell? ⟨w.heap.size + 1, 5, none⟩ = some (.int .i64 n) ∧ w9.cell? ⟨w.heap.size + 1, 6, none⟩ = some (u64 g) ∧ w9.cell? ⟨w.heap.size + 1 + 1, 0, none⟩ = some (.int .i64 lo) ∧ w9.cell? ⟨w.heap.size + 1 + 1, 1, none⟩ = some (.int .i64 hi) ∧ Below W1.heap.size W1 w9)
      (repeat (with_reducible first | assumption | refine keepUD ?_ | refine keepUA _ ?_ | (apply keepU; focus assumption)))
      (first
        | (go_at_call 33; (with_reducible refine (HA1.out _).mono ?_); rintro e w5 ⟨rfl, hb5⟩)
        | (go_at_call 34; (with_reducible refine (HB1.out _).mono ?_); rintro e w5 ⟨rfl, hb5⟩))
    all_goals
      go_wp2_with fail
      go_meet
      exact ⟨rfl, by go_split_ands; assumption⟩
  case rest =>
    obtain ⟨rfl, hcut⟩ := hcut
    obtain ⟨W2, hW2⟩ : ∃ W, W = wc := ⟨_, rfl⟩
    subst hW2
    have HQ2 := Lib.hid (HQ.out.step hcut.out)
    clear hcut hk0 HQ
    clear W1
    obtain ⟨k0, k1⟩ := key_cells2 HQ2.out.k
    obtain ⟨c0, c1, c2, c3, c4, c5, c6⟩ := tok_cells (w := w) (E := 0) HQ2.out.t
    go_wp2_with fail
    refine (HIS.out _).mono ?_
    rintro e w3 ⟨rfl, hb3⟩
    have HQ4 := Lib.hid ((HQ2.out.step hb3).step (below_alloc w3 (.cells #[.int .i64 0, .int .i64 0, .int .i64 0, .int .i64 0, .int .i64 0, .int .i64 0, .int .u64 0] 36)))
    have HX : Hid (BlkAt (w3.alloc (.cells #[.int .i64 0, .int .i64 0, .int .i64 0, .int .i64 0, .int .i64 0, .int .i64 0, .int .u64 0] 36)) w3.heap.size #[.int .i64 0, .int .i64 0, .int .i64 0, .int .i64 0, .int .i64 0, .int .i64 0, .int .u64 0]) := blkNew rfl
    clear hb3 HQ2 k0 k1 c0 c1 c2 c3 c4 c5 c6
    go_upto_region 4 with (fail)
    generalize w3.alloc (.cells #[.int .i64 0, .int .i64 0, .int .i64 0, .int .i64 0, .int .i64 0, .int .i64 0, .int .u64 0] 36) = W1 at *
    generalize w3.heap.size = xb at *
    obtain ⟨k0, k1⟩ := key_cells2 HQ4.out.k
    obtain ⟨c0, c1, c2, c3, c4, c5, c6⟩ := tok_cells (w := w) (E := 0) HX.out
    obtain ⟨s0, s1⟩ := key_cells2 HQ4.out.s
    have hk0 : W1.cell? ⟨w.heap.size, 0, none⟩ = some (u64 x) ∧ W1.cell? ⟨w.heap.size, 1, none⟩ = some (u64 y) ∧ W1.cell? ⟨xb, 0, none⟩ = some (.int .i64 0) ∧ W1.cell? ⟨xb, 1, none⟩ = some (.int .i64 0) ∧ W1.cell? ⟨xb, 2, none⟩ = some (.int .i64 0) ∧ W1.cell? ⟨xb, 3, none⟩ = some (.int .i64 0) ∧ W1.cell? ⟨xb, 4, none⟩ = some (.int .i64 0) ∧ W1.cell? ⟨xb, 5, none⟩ = some (.int .i64 0) ∧ W1.cell? ⟨xb, 6, none⟩ = some (.int .u64 0) ∧ W1.cell? ⟨w.heap.size + 1 + 1, 0, none⟩ = some (.int .i64 lo) ∧ W1.cell? ⟨w.heap.size + 1 + 1, 1, none⟩ = some (.int .i64 hi) ∧ Below W1.heap.size W1 W1 := ⟨k0, k1, c0, c1, c2, c3, c4, c5, c6, s0, s1, Below.refl _ _⟩
    clear k0 k1 c0 c1 c2 c3 c4 c5 c6 s0 s1
    go_cut [10] (fun a wx => a = .bool true ∧ Hid (Below W1.heap.size W1 wx))
    case first =>
      go_region_held3 (fun w9 => w9.cell? ⟨w.heap.size, 0, none⟩ = some (u64 x) ∧ w9.cell? ⟨w.heap.size, 1, none⟩ = some (u64 y) ∧ w9.cell? ⟨xb, 0, none⟩ = some (.int .i64 0) ∧ w9.cell? ⟨xb, 1, none⟩ = some (.int .i64 0) ∧ w9.cell? ⟨xb, 2, none⟩ = some (.int .i64 0) ∧ w9.cell? ⟨xb, 3, none⟩ = some (.int .i64 0) ∧ w9.cell? ⟨xb, 4, none⟩ = some (.int .i64 0) ∧ w9.cell? ⟨xb, 5, none⟩ = some (.int .i64 0) ∧ w9.cell? ⟨xb, 6, none⟩ = some (.int .u64 0) ∧ w9.cell? ⟨w.heap.size + 1 + 1, 0, none⟩ = some (.int .i64 lo) ∧ w9.cell? ⟨w.heap.size + 1 + 1, 1, none⟩ = some (.int .i64 hi) ∧ Below W1.heap.size W1 w9)
        (repeat (with_reducible first | assumption | refine keepUD ?_ | refine keepUA _ ?_ | (apply keepU; focus assumption)))
        (first
          | (go_at_call 33; (with_reducible refine (HA2.out _).mono ?_); rintro e w5 ⟨rfl, hb5⟩)
          | (go_at_call 34; (with_reducible refine (HB2.out _).mono ?_); rintro e w5 ⟨rfl, hb5⟩)
          | (go_at_call 32; (with_reducible refine (awake15_any _).mono ?_); rintro e w5 ⟨rfl, hb5⟩))
      all_goals
        go_wp2_with fail
        go_meet
        exact ⟨rfl, by go_split_ands; assumption⟩
    case rest =>
      obtain ⟨rfl, hcut⟩ := hcut
      have HB9 := Lib.hid (below_step HQ4.out.b hcut.out)
      clear hcut hk0
      go_wp2
      go_ret
      exact ⟨rfl, HB9.out⟩
theorem tokenUses_walk (x y : BitVec 64) (b r d f t n : Int) (g : BitVec 64) (bike lo hi last : Int) (w : World) : Calls Try.prog 5 #[.agg #[u64 x, u64 y], .agg #[.int .i64 b, .int .i64 r, .int .i64 d, .int .i64 f, .int .i64 t, .int .i64 n, u64 g], .int .i64 bike, .agg #[.int .i64 lo, .int .i64 hi], .int .i64 last] w (RetB (.bool true) w) := by
  by_cases h : Tok.bad ⟨b, r, d, f, t, n⟩
  · exact tokenUses_bad x y b r d f t n g bike lo hi last w h
  · exact tokenUses_ok x y b r d f t n g bike lo hi last w h
end Go.Proofs.Ytgfgkgidpinmoaa
