/-
  MAC, THE WALKS: rounds.
-/
import Derived.Test.YtjfakdbgcinpcaaProg
import Derived.Test.YtjfakdbgcinpcaaBase7
import Derived.Test.YtjfakdbgcinpcaaMacP
import Derived.BigQuiet
import Derived.StillTailTactics
import Derived.RegionTactic
import Derived.Deep.DeepCutAuto
import Derived.Deep.QuietTactic
import Derived.WalkSpells
import Derived.WalkLawsBesides
namespace Go.Proofs.Ytjfakdbgcinpcaa
open Go.RowKit
set_option linter.unusedVariables false



set_option maxRecDepth 100000 in
theorem rot_any (a : BitVec 64) (k : Nat) (w : World) (h : k = 13 ∨ k = 32 ∨ k = 16 ∨ k = 21 ∨ k = 17) : Calls Try.prog 40 #[u64 a, .int .i64 (k : Int)] w (fun e w' => e = .returned (u64 (rotl a k)) ∧ w' = w) := by
  rcases h with rfl | rfl | rfl | rfl | rfl
  all_goals
    go_enter Try.func40, Try.ntmps40
    go_wp2
    go_ret
    exact ⟨rfl, rfl⟩

/-- The four numbers of the method, in block g. -/
def St (w : World) (g : Nat) (v : V4) : Prop := ∃ E, w.heap[g]? = some (.cells #[u64 v.1, u64 v.2.1, u64 v.2.2.1, u64 v.2.2.2] E (0, 0))
section
variable {w : World} {g : Nat} {a b c d : BitVec 64}
theorem St.cells (h : St w g (a, b, c, d)) : w.cell? ⟨g, 0, none⟩ = some (u64 a) ∧ w.cell? ⟨g, 1, none⟩ = some (u64 b) ∧ w.cell? ⟨g, 2, none⟩ = some (u64 c) ∧ w.cell? ⟨g, 3, none⟩ = some (u64 d) ∧
    w.frozen? ⟨g, 0, none⟩ = false ∧ w.frozen? ⟨g, 1, none⟩ = false ∧ w.frozen? ⟨g, 2, none⟩ = false ∧ w.frozen? ⟨g, 3, none⟩ = false := by
  obtain ⟨E, h⟩ := h
  refine ⟨?_, ?_, ?_, ?_, frozen_of_row w g 0 _ E h, frozen_of_row w g 1 _ E h, frozen_of_row w g 2 _ E h, frozen_of_row w g 3 _ E h⟩ <;> (rw [cell_of_row w g _ _ E _ h]; rfl)
theorem St.set0 (h : St w g (a, b, c, d)) (x : BitVec 64) : St (w.drew.setCell ⟨g, 0, none⟩ (u64 x)) g (x, b, c, d) := by
  obtain ⟨E, h⟩ := h; exact ⟨E, heap_setCell_same w.drew g 0 _ E (u64 x) h⟩
theorem St.set1 (h : St w g (a, b, c, d)) (x : BitVec 64) : St (w.drew.setCell ⟨g, 1, none⟩ (u64 x)) g (a, x, c, d) := by
  obtain ⟨E, h⟩ := h; exact ⟨E, heap_setCell_same w.drew g 1 _ E (u64 x) h⟩
theorem St.set2 (h : St w g (a, b, c, d)) (x : BitVec 64) : St (w.drew.setCell ⟨g, 2, none⟩ (u64 x)) g (a, b, x, d) := by
  obtain ⟨E, h⟩ := h; exact ⟨E, heap_setCell_same w.drew g 2 _ E (u64 x) h⟩
theorem St.set3 (h : St w g (a, b, c, d)) (x : BitVec 64) : St (w.drew.setCell ⟨g, 3, none⟩ (u64 x)) g (a, b, c, x) := by
  obtain ⟨E, h⟩ := h; exact ⟨E, heap_setCell_same w.drew g 3 _ E (u64 x) h⟩
/-- Block g alone has turned. -/
def Only (g : Nat) (w w' : World) : Prop := w.grownBy w' (some g)
theorem Only.refl (g : Nat) (w : World) : Only g w w := ⟨rfl, rfl, rfl, Nat.le_refl _, fun _ _ _ => rfl⟩
theorem Only.trans {g : Nat} {w1 w2 w3 : World} (h : Only g w1 w2) (h' : Only g w2 w3) : Only g w1 w3 :=
  ⟨h'.os.trans h.os, h'.tape.trans h.tape, h'.output.trans h.output, Nat.le_trans h.size h'.size, fun k hk hn => (h'.block k (Nat.lt_of_lt_of_le hk h.size) hn).trans (h.block k hk hn)⟩
theorem Only.set {g i : Nat} {w w' : World} (h : Only g w w') (u : Value) : Only g w (w'.drew.setCell ⟨g, i, none⟩ u) :=
  h.trans ⟨rfl, rfl, rfl, by simp, fun k _ hk => heap_setCell_other w'.drew ⟨g, i, none⟩ k u (fun e => hk (by simp [e]))⟩
theorem Only.below {B g : Nat} {w w1 w2 : World} (h : Below B w w1) (h' : Only g w1 w2) (hB : B ≤ w1.heap.size) (hg : B ≤ g) : Below B w w2 := h.grown h' hB (fun k hk => by cases hk; exact hg)
end


set_option maxRecDepth 100000 in
set_option maxHeartbeats 4000000 in
theorem round_any (g : Nat) (a b c d : BitVec 64) (w : World) (h : St w g (a, b, c, d)) :
    Calls Try.prog 37 #[.pointer (some ⟨g, 0, none⟩)] w (fun e w' => e = .returned (.tuple #[]) ∧ St w' g (sip (a, b, c, d)) ∧ Only g w w') := by
  have hw := Only.refl g w
  go_enter Try.func37, Try.ntmps37
  obtain ⟨x0, e0⟩ : ∃ x, x = a + b := ⟨_, rfl⟩
  have E0 := Lib.hid e0
  clear e0
  go_wp2_with fail
  go_cut [] (fun wx => St wx g (x0, b, c, d) ∧ Only g w wx)
  case first =>
    obtain ⟨c0, c1, c2, c3, f0, f1, f2, f3⟩ := h.cells
    refine wp_region_still_tail 11 (by kernel_rfl) (by kernel_rfl) ?_
    simp only [List.take_succ_cons, List.take_zero, List.drop_succ_cons, List.drop_zero]
    repeat still_step
    refine wpStill_nil ?_
    go_wp2_with fail
    go_meet
    rw [E0.out]
    exact ⟨h.set0 _, hw.set _⟩
  case rest =>
    clear h hw
    obtain ⟨h, hw⟩ := hcut
    obtain ⟨x1, e1⟩ : ∃ x, x = rotl b 13 ^^^ x0 := ⟨_, rfl⟩
    have E1 := Lib.hid e1
    clear e1
    go_wp2_with fail
    go_cut [] (fun wx => St wx g (x0, x1, c, d) ∧ Only g w wx)
    case first =>
      obtain ⟨c0, c1, c2, c3, f0, f1, f2, f3⟩ := h.cells
      refine wp_region_still_tail 13 (by kernel_rfl) (by kernel_rfl) ?_
      simp only [List.take_succ_cons, List.take_zero, List.drop_succ_cons, List.drop_zero]
      repeat still_step
      still_call (rot_any _ 13 _ (by simp))
      repeat still_step
      refine wpStill_nil ?_
      go_wp2_with fail
      go_meet
      rw [E1.out]
      exact ⟨h.set1 _, hw.set _⟩
    case rest =>
      clear h hw
      obtain ⟨h, hw⟩ := hcut
      obtain ⟨x2, e2⟩ : ∃ x, x = rotl x0 32 := ⟨_, rfl⟩
      have E2 := Lib.hid e2
      clear e2
      go_wp2_with fail
      go_cut [] (fun wx => St wx g (x2, x1, c, d) ∧ Only g w wx)
      case first =>
        obtain ⟨c0, c1, c2, c3, f0, f1, f2, f3⟩ := h.cells
        refine wp_region_still_tail 8 (by kernel_rfl) (by kernel_rfl) ?_
        simp only [List.take_succ_cons, List.take_zero, List.drop_succ_cons, List.drop_zero]
        repeat still_step
        still_call (rot_any _ 32 _ (by simp))
        repeat still_step
        refine wpStill_nil ?_
        go_wp2_with fail
        go_meet
        rw [E2.out]
        exact ⟨h.set0 _, hw.set _⟩
      case rest =>
        clear h hw
        obtain ⟨h, hw⟩ := hcut
        obtain ⟨x3, e3⟩ : ∃ x, x = c + d := ⟨_, rfl⟩
        have E3 := Lib.hid e3
        clear e3
        go_wp2_with fail
        go_cut [] (fun wx => St wx g (x2, x1, x3, d) ∧ Only g w wx)
        case first =>
          obtain ⟨c0, c1, c2, c3, f0, f1, f2, f3⟩ := h.cells
          refine wp_region_still_tail 11 (by kernel_rfl) (by kernel_rfl) ?_
          simp only [List.take_succ_cons, List.take_zero, List.drop_succ_cons, List.drop_zero]
          repeat still_step
          refine wpStill_nil ?_
          go_wp2_with fail
          go_meet
          rw [E3.out]
          exact ⟨h.set2 _, hw.set _⟩
        case rest =>
          clear h hw
          obtain ⟨h, hw⟩ := hcut
          obtain ⟨x4, e4⟩ : ∃ x, x = rotl d 16 ^^^ x3 := ⟨_, rfl⟩
          have E4 := Lib.hid e4
          clear e4
          go_wp2_with fail
          go_cut [] (fun wx => St wx g (x2, x1, x3, x4) ∧ Only g w wx)
          case first =>
            obtain ⟨c0, c1, c2, c3, f0, f1, f2, f3⟩ := h.cells
            refine wp_region_still_tail 13 (by kernel_rfl) (by kernel_rfl) ?_
            simp only [List.take_succ_cons, List.take_zero, List.drop_succ_cons, List.drop_zero]
            repeat still_step
            still_call (rot_any _ 16 _ (by simp))
            repeat still_step
            refine wpStill_nil ?_
            go_wp2_with fail
            go_meet
            rw [E4.out]
            exact ⟨h.set3 _, hw.set _⟩
          case rest =>
            clear h hw
            obtain ⟨h, hw⟩ := hcut
            obtain ⟨x5, e5⟩ : ∃ x, x = x2 + x4 := ⟨_, rfl⟩
            have E5 := Lib.hid e5
            clear e5
            go_wp2_with fail
            go_cut [] (fun wx => St wx g (x5, x1, x3, x4) ∧ Only g w wx)
            case first =>
              obtain ⟨c0, c1, c2, c3, f0, f1, f2, f3⟩ := h.cells
              refine wp_region_still_tail 11 (by kernel_rfl) (by kernel_rfl) ?_
              simp only [List.take_succ_cons, List.take_zero, List.drop_succ_cons, List.drop_zero]
              repeat still_step
              refine wpStill_nil ?_
              go_wp2_with fail
              go_meet
              rw [E5.out]
              exact ⟨h.set0 _, hw.set _⟩
            case rest =>
              clear h hw
              obtain ⟨h, hw⟩ := hcut
              obtain ⟨x6, e6⟩ : ∃ x, x = rotl x4 21 ^^^ x5 := ⟨_, rfl⟩
              have E6 := Lib.hid e6
              clear e6
              go_wp2_with fail
              go_cut [] (fun wx => St wx g (x5, x1, x3, x6) ∧ Only g w wx)
              case first =>
                obtain ⟨c0, c1, c2, c3, f0, f1, f2, f3⟩ := h.cells
                refine wp_region_still_tail 13 (by kernel_rfl) (by kernel_rfl) ?_
                simp only [List.take_succ_cons, List.take_zero, List.drop_succ_cons, List.drop_zero]
                repeat still_step
                still_call (rot_any _ 21 _ (by simp))
                repeat still_step
                refine wpStill_nil ?_
                go_wp2_with fail
                go_meet
                rw [E6.out]
                exact ⟨h.set3 _, hw.set _⟩
              case rest =>
                clear h hw
                obtain ⟨h, hw⟩ := hcut
                obtain ⟨x7, e7⟩ : ∃ x, x = x3 + x1 := ⟨_, rfl⟩
                have E7 := Lib.hid e7
                clear e7
                go_wp2_with fail
                go_cut [] (fun wx => St wx g (x5, x1, x7, x6) ∧ Only g w wx)
                case first =>
                  obtain ⟨c0, c1, c2, c3, f0, f1, f2, f3⟩ := h.cells
                  refine wp_region_still_tail 11 (by kernel_rfl) (by kernel_rfl) ?_
                  simp only [List.take_succ_cons, List.take_zero, List.drop_succ_cons, List.drop_zero]
                  repeat still_step
                  refine wpStill_nil ?_
                  go_wp2_with fail
                  go_meet
                  rw [E7.out]
                  exact ⟨h.set2 _, hw.set _⟩
                case rest =>
                  clear h hw
                  obtain ⟨h, hw⟩ := hcut
                  obtain ⟨x8, e8⟩ : ∃ x, x = rotl x1 17 ^^^ x7 := ⟨_, rfl⟩
                  have E8 := Lib.hid e8
                  clear e8
                  go_wp2_with fail
                  go_cut [] (fun wx => St wx g (x5, x8, x7, x6) ∧ Only g w wx)
                  case first =>
                    obtain ⟨c0, c1, c2, c3, f0, f1, f2, f3⟩ := h.cells
                    refine wp_region_still_tail 13 (by kernel_rfl) (by kernel_rfl) ?_
                    simp only [List.take_succ_cons, List.take_zero, List.drop_succ_cons, List.drop_zero]
                    repeat still_step
                    still_call (rot_any _ 17 _ (by simp))
                    repeat still_step
                    refine wpStill_nil ?_
                    go_wp2_with fail
                    go_meet
                    rw [E8.out]
                    exact ⟨h.set1 _, hw.set _⟩
                  case rest =>
                    clear h hw
                    obtain ⟨h, hw⟩ := hcut
                    obtain ⟨x9, e9⟩ : ∃ x, x = rotl x7 32 := ⟨_, rfl⟩
                    have E9 := Lib.hid e9
                    clear e9
                    go_wp2_with fail
                    obtain ⟨c0, c1, c2, c3, f0, f1, f2, f3⟩ := h.cells
                    refine wp_region_still_tail 8 (by kernel_rfl) (by kernel_rfl) ?_
                    simp only [List.take_succ_cons, List.take_zero, List.drop_succ_cons, List.drop_zero]
                    repeat still_step
                    still_call (rot_any _ 32 _ (by simp))
                    repeat still_step
                    refine wpStill_nil ?_
                    go_wp2_with fail
                    go_end0
                    refine ⟨rfl, ?_, hw.set _⟩
                    have e : sip (a, b, c, d) = (x5, x8, x9, x6) := by
                      unfold sip
                      rw [E9.out, E8.out, E7.out, E6.out, E5.out, E4.out, E3.out, E2.out, E1.out, E0.out]
                    rw [e, E9.out]
                    exact h.set2 _

theorem round_v (g : Nat) (v : V4) (w : World) (h : St w g v) :
    Calls Try.prog 37 #[.pointer (some ⟨g, 0, none⟩)] w (fun e w' => e = .returned (.tuple #[]) ∧ St w' g (sip v) ∧ Only g w w') := by
  obtain ⟨a, b, c, d⟩ := v
  exact round_any g a b c d w h

set_option maxRecDepth 100000 in
set_option maxHeartbeats 4000000 in
theorem take_any (g : Nat) (v : V4) (m : BitVec 64) (w : World) (h : St w g v) :
    Calls Try.prog 35 #[.pointer (some ⟨g, 0, none⟩), u64 m] w (fun e w' => e = .returned (.tuple #[]) ∧ St w' g (takeS v m) ∧ Only g w w') := by
  obtain ⟨a, b, c, d⟩ := v
  have hw := Only.refl g w
  go_enter Try.func35, Try.ntmps35
  go_wp2_with fail
  go_cut [] (fun wx => St wx g (a, b, c, d ^^^ m) ∧ Only g w wx)
  case first =>
    obtain ⟨c0, c1, c2, c3, f0, f1, f2, f3⟩ := h.cells
    refine wp_region_still_tail 8 (by kernel_rfl) (by kernel_rfl) ?_
    simp only [List.take_succ_cons, List.take_zero, List.drop_succ_cons, List.drop_zero]
    repeat still_step
    refine wpStill_nil ?_
    go_wp2_with fail
    go_meet
    exact ⟨h.set3 _, hw.set _⟩
  case rest =>
    clear h hw
    obtain ⟨h, hw⟩ := hcut
    go_wp2_with fail
    refine (round_v g _ _ h).mono ?_
    rintro e w1 ⟨rfl, h1, o1⟩
    go_wp2_with fail
    refine (round_v g _ _ h1).mono ?_
    rintro e w2 ⟨rfl, h2, o2⟩
    have hw2 := hw.trans (o1.trans o2)
    have e2 : takeS (a, b, c, d) m = ((sip (sip (a, b, c, d ^^^ m))).1 ^^^ m, (sip (sip (a, b, c, d ^^^ m))).2) := rfl
    have E2 := Lib.hid e2
    clear e2 h h1 o1 o2 hw
    generalize sip (sip (a, b, c, d ^^^ m)) = u at *
    obtain ⟨a2, b2, c2, d2⟩ := u
    go_wp2_with fail
    obtain ⟨k0, k1, k2, k3, f0, f1, f2, f3⟩ := h2.cells
    refine wp_region_still_tail 8 (by kernel_rfl) (by kernel_rfl) ?_
    simp only [List.take_succ_cons, List.take_zero, List.drop_succ_cons, List.drop_zero]
    repeat still_step
    refine wpStill_nil ?_
    go_wp2_with fail
    go_end0
    refine ⟨rfl, ?_, hw2.set _⟩
    rw [E2.out]
    exact h2.set0 _
end Go.Proofs.Ytjfakdbgcinpcaa
