/-
  MAC, THE WALKS: the reference's rounds.
-/
import Derived.Test.YtomilmaeiokaaaaProg
import Derived.Test.YtomilmaeiokaaaaBase15
import Derived.Test.YtomilmaeiokaaaaHeld
import Derived.Test.YtomilmaeiokaaaaMac1
import Derived.BigQuiet
import Derived.StillTailTactics
import Derived.RegionTactic
import Derived.Deep.DeepCutAuto
import Derived.Deep.QuietTactic
import Derived.WalkSpells
import Derived.WalkLawsBesides
namespace Go.Proofs.Ytomilmaeiokaaaa
open Go.RowKit
set_option linter.unusedVariables false



set_option maxRecDepth 100000 in
theorem turn_any (a : BitVec 64) (k : Nat) (w : World) (h : k = 13 ∨ k = 32 ∨ k = 16 ∨ k = 21 ∨ k = 17) : Calls Try.prog 66 #[u64 a, .int .i64 (k : Int)] w (fun e w' => e = .returned (u64 (rotl a k)) ∧ ∃ n, w' = w.drewN n) := by
  rcases h with rfl | rfl | rfl | rfl | rfl
  all_goals
    go_enter Try.func66, Try.ntmps66
    go_wp2
    go_quiet (fail)
    go_wp2
    go_ret
    exact ⟨rfl, _, rfl⟩

theorem four_facts {W : World} {k : Nat} {x y z u : Value} (h : BlkAt W k #[x, y, z, u]) : W.cell? ⟨k, 0, none⟩ = some x ∧ W.cell? ⟨k, 1, none⟩ = some y ∧ W.cell? ⟨k, 2, none⟩ = some z ∧ W.cell? ⟨k, 3, none⟩ = some u ∧
    W.frozen? ⟨k, 0, none⟩ = false ∧ W.frozen? ⟨k, 1, none⟩ = false ∧ W.frozen? ⟨k, 2, none⟩ = false ∧ W.frozen? ⟨k, 3, none⟩ = false := by
  obtain ⟨E, h⟩ := h
  refine ⟨?_, ?_, ?_, ?_, frozen_of_row _ _ _ _ _ h, frozen_of_row _ _ _ _ _ h, frozen_of_row _ _ _ _ _ h, frozen_of_row _ _ _ _ _ h⟩ <;> (rw [cell_of_row _ _ _ _ _ _ h]; rfl)
theorem four_set {W : World} {k : Nat} {x y z u : Value} (h : BlkAt W k #[x, y, z, u]) (a b c d : Value) : BlkAt ((((W.setCell ⟨k, 0, none⟩ a).setCell ⟨k, 1, none⟩ b).setCell ⟨k, 2, none⟩ c).setCell ⟨k, 3, none⟩ d) k #[a, b, c, d] := by
  obtain ⟨E, h⟩ := h
  exact ⟨E, heap_setCell_same _ k 3 _ E d (heap_setCell_same _ k 2 _ E c (heap_setCell_same _ k 1 _ E b (heap_setCell_same W k 0 _ E a h)))⟩

section
variable {w w' w2 : World} {g : Nat} {a b c d : BitVec 64}
theorem St.at0 (h : St w g (a, b, c, d)) (hh : w2.heap = w.heap) (x : BitVec 64) : St (w2.setCell ⟨g, 0, none⟩ (u64 x)) g (x, b, c, d) := by
  obtain ⟨E, h⟩ := h; rw [← hh] at h; exact ⟨E, heap_setCell_same w2 g 0 _ E (u64 x) h⟩
theorem St.at1 (h : St w g (a, b, c, d)) (hh : w2.heap = w.heap) (x : BitVec 64) : St (w2.setCell ⟨g, 1, none⟩ (u64 x)) g (a, x, c, d) := by
  obtain ⟨E, h⟩ := h; rw [← hh] at h; exact ⟨E, heap_setCell_same w2 g 1 _ E (u64 x) h⟩
theorem St.at2 (h : St w g (a, b, c, d)) (hh : w2.heap = w.heap) (x : BitVec 64) : St (w2.setCell ⟨g, 2, none⟩ (u64 x)) g (a, b, x, d) := by
  obtain ⟨E, h⟩ := h; rw [← hh] at h; exact ⟨E, heap_setCell_same w2 g 2 _ E (u64 x) h⟩
theorem St.at3 (h : St w g (a, b, c, d)) (hh : w2.heap = w.heap) (x : BitVec 64) : St (w2.setCell ⟨g, 3, none⟩ (u64 x)) g (a, b, c, x) := by
  obtain ⟨E, h⟩ := h; rw [← hh] at h; exact ⟨E, heap_setCell_same w2 g 3 _ E (u64 x) h⟩
theorem BlkAt.far {C : Array Value} {k : Nat} {p : Addr} {u : Value} (h : BlkAt w k C) (hh : w2.heap = w.heap) (hk : k ≠ p.block) : BlkAt (w2.setCell p u) k C := by
  obtain ⟨E, h⟩ := h; rw [← hh] at h; exact ⟨E, (Below.heap_setCell w2 p u k hk).trans h⟩
/-- What holds on the way: the array in block g, the result's block as it was made, nothing else has turned. -/
def Way (w : World) (v : V4) (wx : World) : Prop := St wx w.heap.size v ∧ BlkAt wx (w.heap.size + 1) #[.int .u64 0, .int .u64 0, .int .u64 0, .int .u64 0] ∧ Below w.heap.size w wx
theorem below_same {B : Nat} (h : Below B w w') (e1 : w2.os = w'.os) (e2 : w2.tape = w'.tape) (e3 : w2.output = w'.output) (e4 : w2.heap = w'.heap) : Below B w w2 :=
  ⟨e1.trans h.os, e2.trans h.tape, e3.trans h.output, by rw [e4]; exact h.size, fun k hk => by rw [e4]; exact h.block k hk⟩
theorem Way.at0 (h : Way w (a, b, c, d) w') (e1 : w2.os = w'.os) (e2 : w2.tape = w'.tape) (e3 : w2.output = w'.output) (e4 : w2.heap = w'.heap) (x : BitVec 64) : Way w (x, b, c, d) (w2.setCell ⟨w.heap.size, 0, none⟩ (u64 x)) :=
  ⟨h.1.at0 e4 x, h.2.1.far e4 (by simp), (below_same h.2.2 e1 e2 e3 e4).setCell (Nat.le_refl _) _⟩
theorem Way.at1 (h : Way w (a, b, c, d) w') (e1 : w2.os = w'.os) (e2 : w2.tape = w'.tape) (e3 : w2.output = w'.output) (e4 : w2.heap = w'.heap) (x : BitVec 64) : Way w (a, x, c, d) (w2.setCell ⟨w.heap.size, 1, none⟩ (u64 x)) :=
  ⟨h.1.at1 e4 x, h.2.1.far e4 (by simp), (below_same h.2.2 e1 e2 e3 e4).setCell (Nat.le_refl _) _⟩
theorem Way.at2 (h : Way w (a, b, c, d) w') (e1 : w2.os = w'.os) (e2 : w2.tape = w'.tape) (e3 : w2.output = w'.output) (e4 : w2.heap = w'.heap) (x : BitVec 64) : Way w (a, b, x, d) (w2.setCell ⟨w.heap.size, 2, none⟩ (u64 x)) :=
  ⟨h.1.at2 e4 x, h.2.1.far e4 (by simp), (below_same h.2.2 e1 e2 e3 e4).setCell (Nat.le_refl _) _⟩
theorem Way.at3 (h : Way w (a, b, c, d) w') (e1 : w2.os = w'.os) (e2 : w2.tape = w'.tape) (e3 : w2.output = w'.output) (e4 : w2.heap = w'.heap) (x : BitVec 64) : Way w (a, b, c, x) (w2.setCell ⟨w.heap.size, 3, none⟩ (u64 x)) :=
  ⟨h.1.at3 e4 x, h.2.1.far e4 (by simp), (below_same h.2.2 e1 e2 e3 e4).setCell (Nat.le_refl _) _⟩
theorem Way.dr {v : V4} (h : Way w v w') (n : Nat) : Way w v (w'.drewN n) := ⟨h.1, h.2.1, below_drewN h.2.2 n⟩
theorem Way.e0 (h : Way w (a, b, c, d) w') (x : BitVec 64) : Way w (x, b, c, d) (w'.setCell ⟨w.heap.size, 0, none⟩ (u64 x)) := h.at0 rfl rfl rfl rfl x
theorem Way.e1 (h : Way w (a, b, c, d) w') (x : BitVec 64) : Way w (a, x, c, d) (w'.setCell ⟨w.heap.size, 1, none⟩ (u64 x)) := h.at1 rfl rfl rfl rfl x
theorem Way.e2 (h : Way w (a, b, c, d) w') (x : BitVec 64) : Way w (a, b, x, d) (w'.setCell ⟨w.heap.size, 2, none⟩ (u64 x)) := h.at2 rfl rfl rfl rfl x
theorem Way.e3 (h : Way w (a, b, c, d) w') (x : BitVec 64) : Way w (a, b, c, x) (w'.setCell ⟨w.heap.size, 3, none⟩ (u64 x)) := h.at3 rfl rfl rfl rfl x
theorem way_new (w : World) (a b c d : BitVec 64) (E F : TypeId) : Way w (a, b, c, d) ((w.alloc (.cells #[u64 a, u64 b, u64 c, u64 d] E)).alloc (.cells #[.int .u64 0, .int .u64 0, .int .u64 0, .int .u64 0] F)) :=
  ⟨⟨E, hp_old (hp_new rfl)⟩, blkNew (by simp), below_step (below_alloc _ _) (below_alloc _ _)⟩
end

set_option maxRecDepth 100000 in
set_option maxHeartbeats 40000000 in
theorem refRound_any (a b c d : BitVec 64) (w : World) :
    Calls Try.prog 64 #[.agg #[u64 a, u64 b, u64 c, u64 d]] w (RetB (.agg #[u64 (sip (a, b, c, d)).1, u64 (sip (a, b, c, d)).2.1, u64 (sip (a, b, c, d)).2.2.1, u64 (sip (a, b, c, d)).2.2.2]) w) := by
  obtain ⟨x0, e0⟩ : ∃ x, x = a + b := ⟨_, rfl⟩
  have E0 := Lib.hid e0
  clear e0
  obtain ⟨x1, e1⟩ : ∃ x, x = rotl b 13 ^^^ x0 := ⟨_, rfl⟩
  have E1 := Lib.hid e1
  clear e1
  obtain ⟨x2, e2⟩ : ∃ x, x = rotl x0 32 := ⟨_, rfl⟩
  have E2 := Lib.hid e2
  clear e2
  obtain ⟨x3, e3⟩ : ∃ x, x = c + d := ⟨_, rfl⟩
  have E3 := Lib.hid e3
  clear e3
  obtain ⟨x4, e4⟩ : ∃ x, x = rotl d 16 ^^^ x3 := ⟨_, rfl⟩
  have E4 := Lib.hid e4
  clear e4
  obtain ⟨x5, e5⟩ : ∃ x, x = x2 + x4 := ⟨_, rfl⟩
  have E5 := Lib.hid e5
  clear e5
  obtain ⟨x6, e6⟩ : ∃ x, x = rotl x4 21 ^^^ x5 := ⟨_, rfl⟩
  have E6 := Lib.hid e6
  clear e6
  obtain ⟨x7, e7⟩ : ∃ x, x = x3 + x1 := ⟨_, rfl⟩
  have E7 := Lib.hid e7
  clear e7
  obtain ⟨x8, e8⟩ : ∃ x, x = rotl x1 17 ^^^ x7 := ⟨_, rfl⟩
  have E8 := Lib.hid e8
  clear e8
  obtain ⟨x9, e9⟩ : ∃ x, x = rotl x7 32 := ⟨_, rfl⟩
  have E9 := Lib.hid e9
  clear e9
  go_enter Try.func64, Try.ntmps64
  go_wp2_with fail
  have h := way_new w (a + b) b c d 82 82
  go_cut [] (fun wx => Way w (x0, x1, c, d) wx)
  case first =>
    obtain ⟨c0, c1, c2, c3, f0, f1, f2, f3⟩ := h.1.cells
    go_region_with (go_at_call 66; refine (turn_any _ 13 _ (by simp)).mono ?_; rintro e w1 ⟨rfl, n1, rfl⟩)
    all_goals
      go_wp2_with fail
      go_meet
      rw [E1.out, E0.out]
      exact (h.dr _).e1 _
  case rest =>
    clear h
    have h := hcut
    clear hcut
    obtain ⟨c0, c1, c2, c3, f0, f1, f2, f3⟩ := h.1.cells
    go_wp2_with fail
    refine (turn_any _ 32 _ (by simp)).mono ?_
    rintro e w1 ⟨rfl, n1, rfl⟩
    go_wp2_with fail
    have h := ((h.dr n1).e0 (rotl x0 32)).e2 (c + d)
    clear c0 c1 c2 c3 f0 f1 f2 f3
    go_cut [] (fun wx => Way w (x2, x1, x3, x4) wx)
    case first =>
      obtain ⟨c0, c1, c2, c3, f0, f1, f2, f3⟩ := h.1.cells
      go_region_with (go_at_call 66; refine (turn_any _ 16 _ (by simp)).mono ?_; rintro e w1 ⟨rfl, n1, rfl⟩)
      all_goals
        go_wp2_with fail
        go_meet
        rw [E4.out, E3.out, E2.out]
        exact (h.dr _).e3 _
    case rest =>
      clear h
      have h := hcut
      clear hcut
      obtain ⟨c0, c1, c2, c3, f0, f1, f2, f3⟩ := h.1.cells
      go_wp2_with fail
      have h := h.e0 (x2 + x4)
      clear c0 c1 c2 c3 f0 f1 f2 f3
      go_cut [] (fun wx => Way w (x5, x1, x3, x6) wx)
      case first =>
        obtain ⟨c0, c1, c2, c3, f0, f1, f2, f3⟩ := h.1.cells
        go_region_with (go_at_call 66; refine (turn_any _ 21 _ (by simp)).mono ?_; rintro e w1 ⟨rfl, n1, rfl⟩)
        all_goals
          go_wp2_with fail
          go_meet
          rw [E6.out, E5.out]
          exact (h.dr _).e3 _
      case rest =>
        clear h
        have h := hcut
        clear hcut
        obtain ⟨c0, c1, c2, c3, f0, f1, f2, f3⟩ := h.1.cells
        go_wp2_with fail
        have h := h.e2 (x3 + x1)
        clear c0 c1 c2 c3 f0 f1 f2 f3
        go_cut [] (fun wx => Way w (x5, x8, x7, x6) wx)
        case first =>
          obtain ⟨c0, c1, c2, c3, f0, f1, f2, f3⟩ := h.1.cells
          go_region_with (go_at_call 66; refine (turn_any _ 17 _ (by simp)).mono ?_; rintro e w1 ⟨rfl, n1, rfl⟩)
          all_goals
            go_wp2_with fail
            go_meet
            rw [E8.out, E7.out]
            exact (h.dr _).e1 _
        case rest =>
          clear h
          have h := hcut
          clear hcut
          obtain ⟨c0, c1, c2, c3, f0, f1, f2, f3⟩ := h.1.cells
          go_wp2_with fail
          obtain ⟨r0, r1, r2, r3, s0, s1, s2, s3⟩ := four_facts h.2.1
          refine (turn_any _ 32 _ (by simp)).mono ?_
          rintro e w1 ⟨rfl, n1, rfl⟩
          go_wp2_with fail
          have h9 := (h.dr n1).e2 (rotl x7 32)
          have hf := four_set h9.2.1 (u64 x5) (u64 x8) (u64 (rotl x7 32)) (u64 x6)
          have hb := (((h9.2.2.setCell (p := ⟨w.heap.size + 1, 0, none⟩) (by simp) (u64 x5)).setCell (p := ⟨w.heap.size + 1, 1, none⟩) (by simp) (u64 x8)).setCell (p := ⟨w.heap.size + 1, 2, none⟩) (by simp) (u64 (rotl x7 32))).setCell (p := ⟨w.heap.size + 1, 3, none⟩) (by simp) (u64 x6)
          obtain ⟨y0, y1, y2, y3, _, _, _, _⟩ := four_facts hf
          have e : sip (a, b, c, d) = (x5, x8, rotl x7 32, x6) := by
            unfold sip
            rw [E8.out, E7.out, E6.out, E5.out, E4.out, E3.out, E2.out, E1.out, E0.out]
          rw [e]
          refine bodyPost_ret (v := .agg #[u64 x5, u64 x8, u64 (rotl x7 32), u64 x6]) ?_ rfl ⟨rfl, hb⟩
          rw [results_cell1 rfl]
          go_simp
end Go.Proofs.Ytomilmaeiokaaaa
