/-
  FORECAST, THE LAWS' WALKS: ForecastGrows.
-/
import Derived.Test.YtfhmhkpplcbiiaaProg
import Derived.Test.YtfhmhkpplcbiiaaBase3
import Derived.Test.YtfhmhkpplcbiiaaBase5
import Derived.Test.YtfhmhkpplcbiiaaBase6
import Derived.Test.YtfhmhkpplcbiiaaBase7
import Derived.Test.YtfhmhkpplcbiiaaDrawP
import Derived.Test.YtfhmhkpplcbiiaaDraw4
import Derived.Test.YtfhmhkpplcbiiaaFcP
import Derived.Test.YtfhmhkpplcbiiaaFc1
import Derived.Test.YtfhmhkpplcbiiaaFcP2
import Derived.Test.YtfhmhkpplcbiiaaFcP3
import Derived.Test.YtfhmhkpplcbiiaaFc10
import Derived.Test.YtfhmhkpplcbiiaaFc11
import Derived.Test.YtfhmhkpplcbiiaaHeld
import Derived.BigQuiet
import Derived.Laws.StructEq
import Derived.StillTailTactics
import Derived.RegionTactic
import Derived.BigRegion
import Derived.Deep.DeepCutAuto
import Derived.Deep.QuietTactic
import Derived.WalkSpells
import Derived.WalkLawsBesides
namespace Go.Proofs.Ytfhmhkpplcbiiaa
open Go.RowKit
set_option linter.unusedVariables false

theorem rate_s {c k p n e : Int} (h : Hid (rate c k p = (n, e))) (w : World) : Calls Try.prog 41 #[.int .i64 c, .int .i64 k, .int .i64 p] w (fun q w' => q = .returned (.tuple #[.int .i64 n, .int .i64 e]) ∧ w' = w) := by
  have := rate_any c k p w
  rw [h.out] at this
  exact this
theorem three_stored {W : World} {g i : Nat} {C : Array Value} {v : Value} (h : BlkAt W g C) : BlkAt (W.setCell ⟨g, i, none⟩ v) g (C.setIfInBounds i v) := blk_set h
/-- Both arrays' cells. -/
structure Two3 (w : World) (a b c x y z : Int) (W : World) : Prop where
  f : BlkAt W w.heap.size #[.int .i64 a, .int .i64 b, .int .i64 c]
  g : BlkAt W (w.heap.size + 1) #[.int .i64 x, .int .i64 y, .int .i64 z]
  b : Below w.heap.size w W
theorem Two3.step {w W W' : World} {a b c x y z : Int} (q : Two3 w a b c x y z W) (hb : Below W.heap.size W W') : Two3 w a b c x y z W' := ⟨blkBelow hb q.f, blkBelow hb q.g, below_step q.b hb⟩
theorem Two3.cells {w W : World} {a b c x y z : Int} (q : Two3 w a b c x y z W) : W.cell? ⟨w.heap.size, 0, none⟩ = some (.int .i64 a) ∧ W.cell? ⟨w.heap.size, 1, none⟩ = some (.int .i64 b) ∧ W.cell? ⟨w.heap.size, 2, none⟩ = some (.int .i64 c) ∧
    W.cell? ⟨w.heap.size + 1, 0, none⟩ = some (.int .i64 x) ∧ W.cell? ⟨w.heap.size + 1, 1, none⟩ = some (.int .i64 y) ∧ W.cell? ⟨w.heap.size + 1, 2, none⟩ = some (.int .i64 z) := by
  obtain ⟨d0, d1, d2, _⟩ := three_cells q.f
  obtain ⟨e0, e1, e2, _⟩ := three_cells q.g
  exact ⟨d0, d1, d2, e0, e1, e2⟩
/-- What a round learns. -/
theorem grows_c {c k p m R F : Int} (h : ¬ rateBad c k p) (hm : 0 ≤ m) (hr : rate (c + m) k p = (R, F)) : F = 0 → rq c k p ≤ R := by
  intro hF
  unfold rate at hr
  split at hr
  · cases hr; cases hF
  · cases hr; exact rq_mono_c (by omega) (by unfold rateBad at h; omega)
theorem grows_p {c k p m R F : Int} (h : ¬ rateBad c k p) (hm : 0 ≤ m) (hr : rate c k (p + m) = (R, F)) : F = 0 → rq c k p ≤ R := by
  intro hF
  unfold rate at hr
  split at hr
  · cases hr; cases hF
  · cases hr; exact rq_mono_p (by omega) (by unfold rateBad at h; omega)
theorem grows_k {c k p m R F : Int} (h : ¬ rateBad c k p) (hm : 0 ≤ m) (hr : rate c (k + m) p = (R, F)) : F = 0 → R ≤ rq c k p := by
  intro hF
  unfold rate at hr
  split at hr
  · cases hr; cases hF
  · cases hr; unfold rateBad at h; exact rq_mono_k (by omega) (by omega) (by omega) (by omega)
theorem rate_F {c k p R F : Int} (hr : rate c k p = (R, F)) : F = 0 ∨ F = 1 := by
  unfold rate at hr
  split at hr <;> cases hr <;> simp

set_option maxRecDepth 100000 in
set_option maxHeartbeats 4000000 in
theorem forecastGrows_walk (a b c x y z : Int) (w : World) : Calls Try.prog 17 #[.agg #[.int .i64 a, .int .i64 b, .int .i64 c], .agg #[.int .i64 x, .int .i64 y, .int .i64 z]] w (RetB (.bool true) w) := by
  have HQ : Hid (Two3 w a b c x y z ((w.alloc (.cells #[.int .i64 a, .int .i64 b, .int .i64 c] 72)).alloc (.cells #[.int .i64 x, .int .i64 y, .int .i64 z] 72))) := ⟨blkOld (blkNew rfl), blkNew (by simp), below_step (below_alloc _ _) (below_alloc _ _)⟩
  by_cases hbad : rateBad a b c
  · have hr : rate a b c = (0, 1) := by unfold rate; rw [if_pos hbad]
    have HR := Lib.hid hr
    have HBAD := Lib.hid hbad
    clear hr hbad
    have hcs : a < 0 ∨ (¬ a < 0 ∧ 1000000 < a) ∨ (¬ a < 0 ∧ ¬ 1000000 < a ∧ b < 0) ∨ (¬ a < 0 ∧ ¬ 1000000 < a ∧ ¬ b < 0 ∧ 512 < b) ∨ (¬ a < 0 ∧ ¬ 1000000 < a ∧ ¬ b < 0 ∧ ¬ 512 < b ∧ c < 0) ∨ (¬ a < 0 ∧ ¬ 1000000 < a ∧ ¬ b < 0 ∧ ¬ 512 < b ∧ ¬ c < 0 ∧ 1000000 < c) := by
      have := HBAD.out; unfold rateBad at this; omega
    rcases hcs with h0 | ⟨h0, h1⟩ | ⟨h0, h1, h2⟩ | ⟨h0, h1, h2, h3⟩ | ⟨h0, h1, h2, h3, h4⟩ | ⟨h0, h1, h2, h3, h4, h5⟩
    all_goals
      go_enter Try.func17, Try.ntmps17
      go_wp2_with fail
      refine (rate_s HR _).mono ?_
      rintro er w1 ⟨rfl, rfl⟩
      go_wp2_with fail
      refine (awake40_any _).mono ?_
      rintro er w1 ⟨rfl, hb⟩
      have HB := Lib.hid (HQ.out.step hb).b
      clear hb
      go_wp2
      go_ret
      exact ⟨rfl, HB.out⟩
  · have hr := rate_ok hbad
    have hn := rq_bounds hbad
    have hk : 0 ≤ a ∧ a ≤ 1000000 ∧ 0 ≤ b ∧ b ≤ 512 ∧ 0 ≤ c ∧ c ≤ 1000000 := by unfold rateBad at hbad; omega
    obtain ⟨k0, k1, k2, k3, k4, k5⟩ := hk
    have G0 := Lib.hid (fun m R F => @grows_c a b c m R F hbad)
    have G1 := Lib.hid (fun m R F => @grows_k a b c m R F hbad)
    have G2 := Lib.hid (fun m R F => @grows_p a b c m R F hbad)
    have HR := Lib.hid hr
    clear hr hbad
    generalize rq a b c = n at *
    obtain ⟨hn0, hn1⟩ := hn
    go_enter Try.func17, Try.ntmps17
    go_wp2_with fail
    refine (rate_s HR _).mono ?_
    rintro er w1 ⟨rfl, hw1⟩
    have HQ1 : Hid (Two3 w a b c x y z w1) := by rw [hw1]; exact HQ.out
    clear hw1 HQ
    go_wp2_with fail
    go_loopw [7] (fun i wr => ∃ k : Nat, k ≤ 3 ∧ i = .int .i64 k ∧ Hid (Two3 w a b c x y z wr)) (fun i _ => 3 - (intOf i).toNat)
    case atStart => exact ⟨0, by omega, rfl, HQ1⟩
    case round =>
      obtain ⟨k, hk, rfl, hq⟩ := hrel
      clear HQ1
      obtain ⟨d0, d1, d2, e0, e1, e2⟩ := hq.out.cells
      have hz := World.block_lt_of_cell? _ _ e0
      have hcs : k = 0 ∨ k = 1 ∨ k = 2 ∨ k = 3 := by omega
      rcases hcs with rfl | rfl | rfl | rfl
      · by_cases g0 : x < 0
        · go_wp2_with fail
          go_roundw
          case rel => exact ⟨1, by omega, by go_num, Lib.hid (hq.out.step (below_alloc _ _))⟩
          case measure => simp [intOf]
        · by_cases g1 : 1000000 < x
          · go_wp2_with fail
            go_roundw
            case rel => exact ⟨1, by omega, by go_num, Lib.hid (hq.out.step (below_alloc _ _))⟩
            case measure => simp [intOf]
          · obtain ⟨⟨R, F⟩, hR⟩ : ∃ r, rate (a + x) b c = r := ⟨_, rfl⟩
            have hG := G0.out x R F (by omega) hR
            have hF := rate_F hR
            have hwr : IntKind.i64.wrap (a + x) = a + x := by rw [IntKind.wrap_i64]; omega
            have hs0 : 0 ≤ a + x := by omega
            have hs1 : a + x ≤ 2000000 := by omega
            have HRR := Lib.hid hR
            clear hR
            go_wp2_with fail
            go_region
            all_goals
              go_wp2_with fail
              refine (rate_s HRR _).mono ?_
              rintro er w2 ⟨rfl, hw2⟩
              have HQ2 : Hid (Two3 w a b c x y z w2) := by
                show Two3 w a b c x y z w2
                rw [hw2]
                first
                  | exact hq.out.step (below_alloc _ _)
                  | exact hq.out.step (below_drew (below_alloc _ _))
                  | exact hq.out.step ((below_alloc _ _).drew.setCell (p := ⟨wr.heap.size, 0, none⟩) (Nat.le_refl _) _)
                  | exact hq.out.step (below_drew ((below_alloc _ _).setCell (p := ⟨wr.heap.size, 0, none⟩) (Nat.le_refl _) _))
                  | exact hq.out.step ((below_alloc _ _).setCell (p := ⟨wr.heap.size, 0, none⟩) (Nat.le_refl _) _)
              clear hw2
              rcases hF with rfl | rfl
              · have hG2 := hG rfl
                clear hG
                go_wp2_with fail
                go_roundw
                case rel => exact ⟨1, by omega, by go_num, HQ2⟩
                case measure => simp [intOf]
              · clear hG
                go_wp2_with fail
                go_roundw
                case rel => exact ⟨1, by omega, by go_num, HQ2⟩
                case measure => simp [intOf]
      · by_cases g0 : y < 0
        · go_wp2_with fail
          go_roundw
          case rel => exact ⟨2, by omega, by go_num, Lib.hid (hq.out.step (below_alloc _ _))⟩
          case measure => simp [intOf]
        · by_cases g1 : 1000000 < y
          · go_wp2_with fail
            go_roundw
            case rel => exact ⟨2, by omega, by go_num, Lib.hid (hq.out.step (below_alloc _ _))⟩
            case measure => simp [intOf]
          · obtain ⟨⟨R, F⟩, hR⟩ : ∃ r, rate a (b + y) c = r := ⟨_, rfl⟩
            have hG := G1.out y R F (by omega) hR
            have hF := rate_F hR
            have hwr : IntKind.i64.wrap (b + y) = b + y := by rw [IntKind.wrap_i64]; omega
            have hs0 : 0 ≤ b + y := by omega
            have hs1 : b + y ≤ 2000000 := by omega
            have HRR := Lib.hid hR
            clear hR
            go_wp2_with fail
            go_region
            all_goals
              go_wp2_with fail
              refine (rate_s HRR _).mono ?_
              rintro er w2 ⟨rfl, hw2⟩
              have HQ2 : Hid (Two3 w a b c x y z w2) := by
                show Two3 w a b c x y z w2
                rw [hw2]
                first
                  | exact hq.out.step (below_alloc _ _)
                  | exact hq.out.step (below_drew (below_alloc _ _))
                  | exact hq.out.step ((below_alloc _ _).drew.setCell (p := ⟨wr.heap.size, 1, none⟩) (Nat.le_refl _) _)
                  | exact hq.out.step (below_drew ((below_alloc _ _).setCell (p := ⟨wr.heap.size, 1, none⟩) (Nat.le_refl _) _))
                  | exact hq.out.step ((below_alloc _ _).setCell (p := ⟨wr.heap.size, 1, none⟩) (Nat.le_refl _) _)
              clear hw2
              rcases hF with rfl | rfl
              · have hG2 := hG rfl
                clear hG
                go_wp2_with fail
                go_roundw
                case rel => exact ⟨2, by omega, by go_num, HQ2⟩
                case measure => simp [intOf]
              · clear hG
                go_wp2_with fail
                go_roundw
                case rel => exact ⟨2, by omega, by go_num, HQ2⟩
                case measure => simp [intOf]
      · by_cases g0 : z < 0
        · go_wp2_with fail
          go_roundw
          case rel => exact ⟨3, by omega, by go_num, Lib.hid (hq.out.step (below_alloc _ _))⟩
          case measure => simp [intOf]
        · by_cases g1 : 1000000 < z
          · go_wp2_with fail
            go_roundw
            case rel => exact ⟨3, by omega, by go_num, Lib.hid (hq.out.step (below_alloc _ _))⟩
            case measure => simp [intOf]
          · obtain ⟨⟨R, F⟩, hR⟩ : ∃ r, rate a b (c + z) = r := ⟨_, rfl⟩
            have hG := G2.out z R F (by omega) hR
            have hF := rate_F hR
            have hwr : IntKind.i64.wrap (c + z) = c + z := by rw [IntKind.wrap_i64]; omega
            have hs0 : 0 ≤ c + z := by omega
            have hs1 : c + z ≤ 2000000 := by omega
            have HRR := Lib.hid hR
            clear hR
            go_wp2_with fail
            go_region
            all_goals
              go_wp2_with fail
              refine (rate_s HRR _).mono ?_
              rintro er w2 ⟨rfl, hw2⟩
              have HQ2 : Hid (Two3 w a b c x y z w2) := by
                show Two3 w a b c x y z w2
                rw [hw2]
                first
                  | exact hq.out.step (below_alloc _ _)
                  | exact hq.out.step (below_drew (below_alloc _ _))
                  | exact hq.out.step ((below_alloc _ _).drew.setCell (p := ⟨wr.heap.size, 2, none⟩) (Nat.le_refl _) _)
                  | exact hq.out.step (below_drew ((below_alloc _ _).setCell (p := ⟨wr.heap.size, 2, none⟩) (Nat.le_refl _) _))
                  | exact hq.out.step ((below_alloc _ _).setCell (p := ⟨wr.heap.size, 2, none⟩) (Nat.le_refl _) _)
              clear hw2
              rcases hF with rfl | rfl
              · have hG2 := hG rfl
                clear hG
                go_wp2_with fail
                go_roundw
                case rel => exact ⟨3, by omega, by go_num, HQ2⟩
                case measure => simp [intOf]
              · clear hG
                go_wp2_with fail
                go_roundw
                case rel => exact ⟨3, by omega, by go_num, HQ2⟩
                case measure => simp [intOf]
      · go_wp2_with fail
        refine (awake40_any _).mono ?_
        rintro er w2 ⟨rfl, hb⟩
        have HB := Lib.hid (hq.out.step hb).b
        clear hb
        go_wp2
        go_ret
        exact ⟨rfl, HB.out⟩
end Go.Proofs.Ytfhmhkpplcbiiaa
