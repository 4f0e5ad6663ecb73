/-
  LOCKS OVER A LINK: the interval of a clock, and the event of a report.
-/
import Derived.Test.YtpmjgiabedjlgaaProg
import Derived.Test.YtpmjgiabedjlgaaBase7
import Derived.Test.YtpmjgiabedjlgaaBase14
import Derived.Test.YtpmjgiabedjlgaaLockP
import Derived.Test.YtpmjgiabedjlgaaLock3
import Derived.BigQuiet
import Derived.BigRegion
import Derived.Laws.StructEq
import Derived.StillTailTactics
import Derived.RegionTactic
import Derived.Deep.DeepCutAuto
import Derived.Deep.QuietTactic
import Derived.WalkSpells
import Derived.WalkLawsBesides
namespace Go.Proofs.Ytpmjgiabedjlgaa
open Go.RowKit
set_option linter.unusedVariables false

theorem within_yes (n lo hi : Int) (w : World) (h1 : lo ≤ n) (h2 : n ≤ hi) : Calls Try.prog 41 #[.int .i64 n, .int .i64 lo, .int .i64 hi] w (fun e w' => e = .returned (.bool true) ∧ w' = w) := by
  go_enter Try.func41, Try.ntmps41
  go_wp2
  go_ret
  exact ⟨rfl, rfl⟩
theorem moment_yes (n : Int) (w : World) (h1 : 0 ≤ n) (h2 : n ≤ 4294943999) : Calls Try.prog 58 #[.int .i64 n] w (fun e w' => e = .returned (.bool true) ∧ w' = w) := by
  go_enter Try.func58, Try.ntmps58
  go_wp2
  go_ret
  exact ⟨rfl, rfl⟩
theorem rate_yes (n : Int) (w : World) (h1 : 0 ≤ n) (h2 : n ≤ 100000) : Calls Try.prog 57 #[.int .i64 n] w (fun e w' => e = .returned (.bool true) ∧ w' = w) := by
  go_enter Try.func57, Try.ntmps57
  go_wp2
  go_ret
  exact ⟨rfl, rfl⟩
/-- The bounds of a clock's true seconds. -/
def elLo (s p : Int) : Int := s * 1000000 / (1000000 + p)
def elHi (s p : Int) : Int := (s * 1000000 + (1000000 - p) - 1) / (1000000 - p)
theorem elLo_le (s p : Int) (hs : 0 ≤ s) (hp : 0 ≤ p) : 0 ≤ elLo s p ∧ elLo s p ≤ s := by
  unfold elLo
  refine ⟨Int.ediv_nonneg (by omega) (by omega), ?_⟩
  have h := Int.ediv_le_ediv (a := s * 1000000) (b := s * (1000000 + p)) (c := 1000000 + p) (by omega) (Int.mul_le_mul_of_nonneg_left (by omega) hs)
  rwa [Int.mul_ediv_cancel _ (by omega)] at h
theorem elHi_ge (s p : Int) (hs : 0 ≤ s) (hs2 : s ≤ 10000) (hp : 0 ≤ p) (hp2 : p ≤ 100000) : s ≤ elHi s p ∧ elHi s p ≤ 20000 := by
  unfold elHi
  constructor
  · rw [Int.le_ediv_iff_mul_le (by omega)]
    have : s * (1000000 - p) = s * 1000000 - s * p := by rw [Int.mul_sub]
    have := Int.mul_nonneg hs hp
    omega
  · refine Int.le_of_lt_add_one ?_
    rw [Int.ediv_lt_iff_lt_mul (by omega)]
    omega
set_option maxRecDepth 100000 in
set_option maxHeartbeats 1000000 in
theorem elapsed_any (s p : Int) (w : World) (h0 : 0 ≤ s) (h1 : s ≤ 10000) (h2 : 0 ≤ p) (h3 : p ≤ 100000) : Calls Try.prog 60 #[.int .i64 s, .int .i64 p] w (RetB (.agg #[.int .i64 (elLo s p), .int .i64 (elHi s p)]) w) := by
  have hz1 : ¬ (1000000 + p) = 0 := by omega
  have hz2 : ¬ (1000000 - p) = 0 := by omega
  have hd1 : 0 ≤ 1000000 + p := by omega
  have hd2 : 0 ≤ 1000000 - p := by omega
  have hm : 0 ≤ s * 1000000 := by omega
  have hm2 : 0 ≤ s * 1000000 + (1000000 - p) - 1 := by omega
  go_enter Try.func60, Try.ntmps60
  go_wp2
  go_region
  all_goals
    go_wp2
    refine bodyPost_ret (v := .agg #[.int .i64 (elLo s p), .int .i64 (elHi s p)]) ?_ rfl ⟨rfl, ?_⟩
    · rw [results_cell1 rfl]
      unfold elLo elHi
      go_simp
    · exact below_drew (below_alloc _ _)
theorem three_cells {W : World} {k : Nat} {x y z : Value} (h : BlkAt W k #[x, y, z]) : W.cell? ⟨k, 0, none⟩ = some x ∧ W.cell? ⟨k, 1, none⟩ = some y ∧ W.cell? ⟨k, 2, none⟩ = some z := by
  obtain ⟨E, h⟩ := h
  refine ⟨?_, ?_, ?_⟩ <;> (rw [cell_of_row _ _ _ _ _ _ h]; rfl)
set_option maxRecDepth 100000 in
set_option maxHeartbeats 1000000 in
theorem check1 (b : Nat) (base : Int) (w : World) (h : Hid (BlkAt w b #[.int .i64 0, .int .i64 base, .int .i64 base])) (h0 : 0 ≤ base) (h1 : base ≤ 1000000) : Calls Try.prog 56 #[.slice (some ⟨b, 0, none⟩) 1 1] w (RetB (.int .i64 0) w) := by
  go_enter Try.func56, Try.ntmps56
  go_wp2_with fail
  go_loopw [16] (fun i wr => ∃ k : Nat, k ≤ 1 ∧ i = .int .i64 (k : Int) ∧ Hid (Below w.heap.size w wr)) (fun i _ => 1 - (intOf i).toNat)
  case atStart => exact ⟨0, by omega, rfl, Lib.hid (Below.refl _ _)⟩
  case round =>
    obtain ⟨k, hk, rfl, HB⟩ := hrel
    by_cases hk0 : k = 0
    · subst hk0
      obtain ⟨c0, c1, c2⟩ := three_cells (blkBelow HB.out h.out)
      go_wp2_with (first
        | (go_at_call 58; (with_reducible refine (moment_yes _ _ (by omega) (by omega)).mono ?_); rintro e w' ⟨rfl, rfl⟩))
      go_roundw
      case rel => exact ⟨1, by omega, by go_num, Lib.hid (below_step HB.out (below_alloc _ _))⟩
      case measure => simp [intOf]
    · obtain rfl : k = 1 := by omega
      go_wp2_with fail
      go_loopw [47] (fun i w2 => i = .int .i64 0 ∧ w2 = wr) (fun i _ => 0)
      case atStart => exact ⟨rfl, rfl⟩
      case round =>
        obtain ⟨rfl, rfl⟩ := hrel
        go_wp2
        go_ret
        exact ⟨rfl, HB.out⟩
set_option maxRecDepth 100000 in
set_option maxHeartbeats 1000000 in
theorem allow_any (g : Nat) (lo hi f t : Int) (w : World) (h : Hid (BlkAt w g #[.int .i64 lo, .int .i64 hi])) (hf : lo ≤ f) (ht : t ≤ hi) : Calls Try.prog 59 #[.int .i64 f, .int .i64 t, .pointer (some ⟨g, 0, none⟩)] w (fun e w' => e = .returned (.tuple #[]) ∧ w' = (w.setCell ⟨g, 0, none⟩ (.int .i64 f)).setCell ⟨g, 1, none⟩ (.int .i64 t)) := by
  obtain ⟨c0, c1, f0, f1⟩ := two_facts h.out
  clear h
  rcases Int.lt_or_eq_of_le hf with hf' | rfl <;> rcases Int.lt_or_eq_of_le ht with ht' | rfl
  all_goals
    clear hf ht
    go_enter Try.func59, Try.ntmps59
    go_wp2
    all_goals
      go_end0
      exact ⟨rfl, rfl⟩
/-- What Bounds keeps: its result, the interval, the synchronization. -/
structure BndW (w : World) (g b : Nat) (base lo hi : Int) (W : World) : Prop where
  r : BlkAt W w.heap.size #[.int .i64 0, .int .i64 0]
  o : BlkAt W g #[.int .i64 lo, .int .i64 hi]
  s : BlkAt W b #[.int .i64 0, .int .i64 base, .int .i64 base]
  lo : Below w.heap.size w W
  hg : w.heap.size < g
  hb : b < w.heap.size
theorem bndBelow {w W W' : World} {g b : Nat} {base lo hi : Int} (h : Hid (BndW w g b base lo hi W)) (hb : Below W.heap.size W W') : Hid (BndW w g b base lo hi W') := ⟨blkBelow hb h.out.r, blkBelow hb h.out.o, blkBelow hb h.out.s, below_step h.out.lo hb, h.out.hg, h.out.hb⟩
theorem blk_lt {W : World} {k : Nat} {C : Array Value} (h : BlkAt W k C) : k < W.heap.size := h.elim fun E h => (Array.getElem?_eq_some_iff.1 h).1
theorem bndStart {w w1 : World} {b : Nat} {base : Int} {E F : TypeId} (h : Hid (BlkAt w b #[.int .i64 0, .int .i64 base, .int .i64 base])) (hb : Below (w.alloc (.cells #[.int .i64 0, .int .i64 0] E)).heap.size (w.alloc (.cells #[.int .i64 0, .int .i64 0] E)) w1) : Hid (BndW w w1.heap.size b base 0 4294943999 (w1.alloc (.cells #[.int .i64 0, .int .i64 4294943999] F))) := by
  have hs := hb.size
  simp at hs
  exact Lib.hid ⟨blkOld (blkBelow hb (blkNew rfl)), blkNew rfl, blkOld (blkBelow hb (blkOld h.out)), below_step (below_step (below_alloc _ _) hb) (below_alloc _ _), by omega, blk_lt h.out⟩
theorem blk_far {W : World} {k i : Nat} {C : Array Value} {a : Addr} {v : Value} (h : BlkAt W k C) (hne : k ≠ a.block) : BlkAt (W.setCell a v) k C := h.elim fun E h => ⟨E, by rw [Below.heap_setCell W a v k hne]; exact h⟩
theorem bndSet {w W : World} {g b : Nat} {base lo hi : Int} (h : Hid (BndW w g b base lo hi W)) (f t : Int) : Hid (BndW w g b base f t ((W.setCell ⟨g, 0, none⟩ (.int .i64 f)).setCell ⟨g, 1, none⟩ (.int .i64 t))) := by
  have h1 := h.out.hg
  have h2 := h.out.hb
  exact Lib.hid ⟨blk_far (i := 0) (blk_far (i := 0) h.out.r (by show w.heap.size ≠ g; omega)) (by show w.heap.size ≠ g; omega), two_set h.out.o _ _, blk_far (i := 0) (blk_far (i := 0) h.out.s (by show b ≠ g; omega)) (by show b ≠ g; omega), (h.out.lo.setCell (by show w.heap.size ≤ g; omega) _).setCell (by show w.heap.size ≤ g; omega) _, h1, h2⟩
set_option maxRecDepth 100000 in
set_option maxHeartbeats 2000000 in
theorem bounds1 (b : Nat) (base ppm loc : Int) (w : World) (h : Hid (BlkAt w b #[.int .i64 0, .int .i64 base, .int .i64 base])) (h0 : 0 ≤ base) (h1 : base ≤ 1000000) (p0 : 0 ≤ ppm) (p1 : ppm ≤ 100000) (l0 : 0 ≤ loc) (l1 : loc ≤ 10000) : Calls Try.prog 40 #[.slice (some ⟨b, 0, none⟩) 1 1, .int .i64 ppm, .int .i64 loc] w (RetB (.tuple #[.agg #[.int .i64 (base + elLo loc ppm), .int .i64 (base + elHi loc ppm)], .int .i64 0]) w) := by
  obtain ⟨e0, e1⟩ := elLo_le loc ppm l0 p0
  obtain ⟨e2, e3⟩ := elHi_ge loc ppm l0 l1 p0 p1
  have HEL := Lib.hid (fun W => elapsed_any loc ppm W l0 l1 p0 p1)
  generalize elLo loc ppm = x at *
  generalize elHi loc ppm = y at *
  go_enter Try.func40, Try.ntmps40
  go_wp2_with fail
  refine (check1 b base _ (Lib.hid (blkOld h.out)) h0 h1).mono ?_
  rintro e w1 ⟨rfl, hb1⟩
  have HW := bndStart (F := 74) h hb1
  clear hb1 h
  go_upto_region 8 with (first
    | (go_at_call 57; (with_reducible refine (rate_yes _ _ (by omega) (by omega)).mono ?_); rintro e w' ⟨rfl, rfl⟩)
    | (go_at_call 58; (with_reducible refine (moment_yes _ _ (by omega) (by omega)).mono ?_); rintro e w' ⟨rfl, rfl⟩))
  generalize w'.alloc (.cells #[.int .i64 0, .int .i64 4294943999] 74) = W at *
  generalize w'.heap.size = g at *
  go_wp2_with fail
  go_loopw [34] (fun i wr => ∃ k : Nat, k ≤ 1 ∧ i = .int .i64 (k : Int) ∧ ((k = 0 → Hid (BndW w g b base 0 4294943999 wr)) ∧ (k = 1 → Hid (BndW w g b base (base + x) (base + y) wr)))) (fun i _ => 1 - (intOf i).toNat)
  case atStart => exact ⟨0, by omega, rfl, fun _ => HW, fun h => by omega⟩
  case round =>
    obtain ⟨k, hk, rfl, HB0, HB1⟩ := hrel
    clear HW
    by_cases hk0 : k = 0
    · subst hk0
      have HB := HB0 rfl
      clear HB0 HB1 hk
      obtain ⟨c0, c1, c2⟩ := three_cells HB.out.s
      go_upto_region 12 with (fail)
      have HB2 := bndBelow HB (below_alloc wr (.cells #[.int .i64 0, .int .i64 base, .int .i64 base] 47))
      have HY : Hid (BlkAt (wr.alloc (.cells #[.int .i64 0, .int .i64 base, .int .i64 base] 47)) wr.heap.size #[.int .i64 0, .int .i64 base, .int .i64 base]) := Lib.hid (blkNew rfl)
      generalize wr.alloc (.cells #[.int .i64 0, .int .i64 base, .int .i64 base] 47) = W2 at *
      generalize wr.heap.size = yb at *
      obtain ⟨d0, d1, d2⟩ := three_cells HY.out
      clear c0 c1 c2 HB
      go_wp2_with fail
      refine (HEL.out _).mono ?_
      rintro e w3 ⟨rfl, hb3⟩
      have HB3 := bndBelow (bndBelow HB2 hb3) (below_alloc w3 (.cells #[.int .i64 x, .int .i64 y] 74))
      have HY3 : Hid (BlkAt (w3.alloc (.cells #[.int .i64 x, .int .i64 y] 74)) yb #[.int .i64 0, .int .i64 base, .int .i64 base]) := Lib.hid (blkOld (blkBelow hb3 HY.out))
      have HX3 : Hid (BlkAt (w3.alloc (.cells #[.int .i64 x, .int .i64 y] 74)) w3.heap.size #[.int .i64 x, .int .i64 y]) := Lib.hid (blkNew rfl)
      clear d0 d1 d2 HB2 HY hb3
      go_upto_region 13 with (fail)
      generalize w3.alloc (.cells #[.int .i64 x, .int .i64 y] 74) = W3 at *
      generalize w3.heap.size = xb at *
      obtain ⟨d0, d1, d2⟩ := three_cells HY3.out
      obtain ⟨f0, f1, _, _⟩ := two_facts HX3.out
      go_wp2_with fail
      refine (allow_any g 0 4294943999 (base + x) (base + y) _ (Lib.hid HB3.out.o) (by omega) (by omega)).mono ?_
      rintro e w5 ⟨rfl, rfl⟩
      have HB5 := bndSet HB3 (base + x) (base + y)
      generalize (W3.setCell ⟨g, 0, none⟩ (.int .i64 (base + x))).setCell ⟨g, 1, none⟩ (.int .i64 (base + y)) = W5 at *
      clear d0 d1 d2 f0 f1 HB3 HY3 HX3
      go_wp2
      go_roundw
      case rel => exact ⟨1, by omega, by go_num, fun h => by omega, fun _ => HB5⟩
      case measure => simp [intOf]
    · obtain rfl : k = 1 := by omega
      have HB := HB1 rfl
      clear HB0 HB1 hk hk0
      obtain ⟨c0, c1, f0, f1⟩ := two_facts HB.out.o
      obtain ⟨d0, d1, g0, g1⟩ := two_facts HB.out.r
      have hxy : ¬ base + y < base + x := by omega
      go_wp2
      refine bodyPost_ret (v := .tuple #[.agg #[.int .i64 (base + x), .int .i64 (base + y)], .int .i64 0]) ?_ rfl ⟨rfl, ?_⟩
      · rw [results_cell_tmp rfl]
        go_simp
      · exact (HB.out.lo.setCell (Nat.le_refl _) _).setCell (Nat.le_refl _) _
end Go.Proofs.Ytpmjgiabedjlgaa
