/-
  RIDES: ride.Check answers, whatever the ride.
-/
import Derived.Test.YtjfakdbgcinpcaaBase7
import Derived.Test.YtjfakdbgcinpcaaHeld
import Derived.Test.YtjfakdbgcinpcaaBase14
import Derived.Test.YtjfakdbgcinpcaaFlat
import Derived.BigQuiet
import Derived.BigRegion
import Derived.Deep.RegionHeld3
import Derived.Laws.StructEq
import Derived.StillTailTactics
import Derived.RegionTactic
import Derived.Deep.DeepCutAuto
import Derived.Deep.QuietTactic
import Derived.WalkSpells
import Derived.WalkLawsBesides
namespace Go.Proofs.Ytjfakdbgcinpcaa
open Go.RowKit
set_option linter.unusedVariables false

/-- A leg: Bike, From, To; a pause: From, To. -/
structure LegL where
  b : Int
  fl : Int
  fh : Int
  tl : Int
  th : Int
def legA (x : LegL) : Array Value := #[.int .i64 x.b, .int .i64 x.fl, .int .i64 x.fh, .int .i64 x.tl, .int .i64 x.th]
def LegL.zero : LegL := ⟨0, 0, 0, 0, 0⟩
structure PauL where
  fl : Int
  fh : Int
  tl : Int
  th : Int
def pauA (x : PauL) : Array Value := #[.int .i64 x.fl, .int .i64 x.fh, .int .i64 x.tl, .int .i64 x.th]
def PauL.zero : PauL := ⟨0, 0, 0, 0⟩
def SomeE (W : World) (e : Ending) (W' : World) : Prop := ∃ er : Int, e = .returned (.int .i64 er) ∧ Below W.heap.size W W'
def SomeB (W : World) (e : Ending) (W' : World) : Prop := ∃ b : Bool, e = .returned (.bool b) ∧ Below W.heap.size W W'
theorem cells13 {W : World} {k : Nat} {x0 x1 x2 x3 x4 x5 x6 x7 x8 x9 x10 x11 x12 : Value} (h : BlkAt W k #[x0, x1, x2, x3, x4, x5, x6, x7, x8, x9, x10, x11, x12]) : W.cell? ⟨k, 0, none⟩ = some x0 ∧ W.cell? ⟨k, 1, none⟩ = some x1 ∧ W.cell? ⟨k, 2, none⟩ = some x2 ∧ W.cell? ⟨k, 3, none⟩ = some x3 ∧ W.cell? ⟨k, 4, none⟩ = some x4 ∧ W.cell? ⟨k, 5, none⟩ = some x5 ∧ W.cell? ⟨k, 6, none⟩ = some x6 ∧ W.cell? ⟨k, 7, none⟩ = some x7 ∧ W.cell? ⟨k, 8, none⟩ = some x8 ∧ W.cell? ⟨k, 9, none⟩ = some x9 ∧ W.cell? ⟨k, 10, none⟩ = some x10 ∧ W.cell? ⟨k, 11, none⟩ = some x11 ∧ W.cell? ⟨k, 12, none⟩ = some x12 := by
  obtain ⟨E, h⟩ := h
  refine ⟨?_, ?_, ?_, ?_, ?_, ?_, ?_, ?_, ?_, ?_, ?_, ?_, ?_⟩ <;> (rw [cell_of_row _ _ _ _ _ _ h]; rfl)
/-- A ride in a box. -/
structure RdW (w : World) (R : Array Value) (W : World) : Prop where
  r : BlkAt W w.heap.size R
  lo : Below w.heap.size w W
theorem rdStart (w : World) (R : Array Value) (E : TypeId) : Hid (RdW w R (w.alloc (.cells R E))) := Lib.hid ⟨blkNew rfl, below_alloc _ _⟩
theorem rdBelow {w W W' : World} {R : Array Value} (h : Hid (RdW w R W)) (hb : Below W.heap.size W W') : Hid (RdW w R W') := Lib.hid ⟨blkBelow hb h.out.r, below_step h.out.lo hb⟩
theorem span_neq (a b c d : Int) : ∃ q : Bool, ∀ w : World, (binOp .neq 29 (.agg #[.int .i64 a, .int .i64 b]) (.agg #[.int .i64 c, .int .i64 d])).run Try.prog w = .ok (.bool q) w := by
  have h1 : Try.prog.underlying 29 = some (.struct (Try.prog.fieldsOf 29)) := by kernel_rfl
  have h2 : Try.prog.stoodInHeld 29 = false := by kernel_rfl
  refine ⟨!(decide (a = c) && decide (b = d)), fun w => ?_⟩
  rw [run_neq_struct, run_equalIn_agg _ _ _ _ _ h1 h2]
  simp only [Program.fieldsOf, Try.underlying29]
  clear h1 h2
  go_simp
  by_cases e1 : a = c <;> by_cases e2 : b = d <;> simp [e1, e2]
theorem span_eql (a b c d : Int) : ∃ q : Bool, ∀ w : World, (binOp .eql 29 (.agg #[.int .i64 a, .int .i64 b]) (.agg #[.int .i64 c, .int .i64 d])).run Try.prog w = .ok (.bool q) w := by
  have h1 : Try.prog.underlying 29 = some (.struct (Try.prog.fieldsOf 29)) := by kernel_rfl
  have h2 : Try.prog.stoodInHeld 29 = false := by kernel_rfl
  refine ⟨decide (a = c) && decide (b = d), fun w => ?_⟩
  rw [run_eql_struct, run_equalIn_agg _ _ _ _ _ h1 h2]
  simp only [Program.fieldsOf, Try.underlying29]
  clear h1 h2
  go_simp
  by_cases e1 : a = c <;> by_cases e2 : b = d <;> simp [e1, e2]
set_option maxRecDepth 100000 in
theorem valid_any (a b : Int) (w : World) : Calls Try.prog 31 #[.agg #[.int .i64 a, .int .i64 b]] w (SomeB w) := by
  have HB := Lib.hid (below_alloc w (.cells #[.int .i64 a, .int .i64 b] 29))
  go_enter Try.func31, Try.ntmps31
  go_wp2
  all_goals
    go_ret
    exact ⟨_, rfl, HB.out⟩
theorem cells5 {W : World} {k : Nat} {x0 x1 x2 x3 x4 : Value} (h : BlkAt W k #[x0, x1, x2, x3, x4]) : W.cell? ⟨k, 0, none⟩ = some x0 ∧ W.cell? ⟨k, 1, none⟩ = some x1 ∧ W.cell? ⟨k, 2, none⟩ = some x2 ∧ W.cell? ⟨k, 3, none⟩ = some x3 ∧ W.cell? ⟨k, 4, none⟩ = some x4 := by
  obtain ⟨E, h⟩ := h
  refine ⟨?_, ?_, ?_, ?_, ?_⟩ <;> (rw [cell_of_row _ _ _ _ _ _ h]; rfl)
theorem cells4 {W : World} {k : Nat} {x0 x1 x2 x3 : Value} (h : BlkAt W k #[x0, x1, x2, x3]) : W.cell? ⟨k, 0, none⟩ = some x0 ∧ W.cell? ⟨k, 1, none⟩ = some x1 ∧ W.cell? ⟨k, 2, none⟩ = some x2 ∧ W.cell? ⟨k, 3, none⟩ = some x3 := by
  obtain ⟨E, h⟩ := h
  refine ⟨?_, ?_, ?_, ?_⟩ <;> (rw [cell_of_row _ _ _ _ _ _ h]; rfl)
/-- A ride in a box, and one box more. -/
structure BxW (w : World) (R : Array Value) (xb : Nat) (X : Array Value) (W : World) : Prop where
  r : RdW w R W
  x : BlkAt W xb X
theorem bxStart {w W : World} {R X : Array Value} {E : TypeId} (h : Hid (RdW w R W)) : Hid (BxW w R W.heap.size X (W.alloc (.cells X E))) := Lib.hid ⟨(rdBelow h (below_alloc _ _)).out, blkNew rfl⟩
theorem bxBelow {w W W' : World} {R X : Array Value} {xb : Nat} (h : Hid (BxW w R xb X W)) (hb : Below W.heap.size W W') : Hid (BxW w R xb X W') := Lib.hid ⟨(rdBelow (Lib.hid h.out.r) hb).out, blkBelow hb h.out.x⟩
theorem bxR {w W : World} {R X : Array Value} {xb : Nat} (h : Hid (BxW w R xb X W)) : Hid (RdW w R W) := Lib.hid h.out.r
set_option maxRecDepth 100000 in
set_option maxHeartbeats 4000000 in
theorem ranged_any (id rid sl sh el eh : Int) (op : Bool) (la : Option Addr) (n lc : Nat) (pa : Option Addr) (m pc : Nat) (fw fp wh pl : Int) (legs : List LegL) (pauses : List PauL) (w : World) (hn : legs.length = n) (hm : pauses.length = m) (hl : Sl w 5 la n lc (flatV legA legs)) (hp : Sl w 4 pa m pc (flatV pauA pauses)) (hn9 : n ≤ 1000) (hm9 : m ≤ 1000) : Calls Try.prog 20 #[.agg #[.int .i64 id, .int .i64 rid, .int .i64 sl, .int .i64 sh, .int .i64 el, .int .i64 eh, .bool op, .slice la n lc, .slice pa m pc, .int .i64 fw, .int .i64 fp, .int .i64 wh, .int .i64 pl]] w (SomeB w) := by
  have HR0 := rdStart w #[.int .i64 id, .int .i64 rid, .int .i64 sl, .int .i64 sh, .int .i64 el, .int .i64 eh, .bool op, .slice la n lc, .slice pa m pc, .int .i64 fw, .int .i64 fp, .int .i64 wh, .int .i64 pl] 33
  have HL := Lib.hid hl
  have HP := Lib.hid hp
  have HN := Lib.hid hn
  have HM := Lib.hid hm
  clear hl hp hn hm
  go_enter Try.func20, Try.ntmps20
  go_upto_region 1 with (fail)
  generalize w.alloc (.cells #[.int .i64 id, .int .i64 rid, .int .i64 sl, .int .i64 sh, .int .i64 el, .int .i64 eh, .bool op, .slice la n lc, .slice pa m pc, .int .i64 fw, .int .i64 fp, .int .i64 wh, .int .i64 pl] 33) = W1 at *
  obtain ⟨c0, c1, c2, c3, c4, c5, c6, c7, c8, c9, c10, c11, c12⟩ := cells13 HR0.out.r
  go_cut [36] (fun v wx => ∃ b, v = .bool b ∧ Hid (RdW w #[.int .i64 id, .int .i64 rid, .int .i64 sl, .int .i64 sh, .int .i64 el, .int .i64 eh, .bool op, .slice la n lc, .slice pa m pc, .int .i64 fw, .int .i64 fp, .int .i64 wh, .int .i64 pl] wx))
  case first =>
    go_wp2_with (first | (go_at_call 31; (with_reducible refine (valid_any _ _ _).mono ?_); rintro e w5 ⟨b5, rfl, hb5⟩; have HR5 := rdBelow (by assumption) hb5; obtain ⟨c0, c1, c2, c3, c4, c5, c6, c7, c8, c9, c10, c11, c12⟩ := cells13 HR5.out.r))
    all_goals
      go_meet
      exact ⟨_, rfl, by assumption⟩
  case rest =>
  obtain ⟨b, rfl, HR1⟩ := hcut
  obtain ⟨W2, hW2⟩ : ∃ W', W' = wc := ⟨_, rfl⟩
  subst hW2
  clear c0 c1 c2 c3 c4 c5 c6 c7 c8 c9 c10 c11 c12 HR0
  cases b with
  | true =>
    go_wp2
    go_ret
    exact ⟨_, rfl, HR1.out.lo⟩
  | false =>
  obtain ⟨c0, c1, c2, c3, c4, c5, c6, c7, c8, c9, c10, c11, c12⟩ := cells13 HR1.out.r
  go_upto_region 4 with (fail)
  go_loopw [40] (fun i wr => ∃ k : Nat, k ≤ n ∧ i = .int .i64 (k : Int) ∧ Hid (RdW w #[.int .i64 id, .int .i64 rid, .int .i64 sl, .int .i64 sh, .int .i64 el, .int .i64 eh, .bool op, .slice la n lc, .slice pa m pc, .int .i64 fw, .int .i64 fp, .int .i64 wh, .int .i64 pl] wr)) (fun i _ => n - (intOf i).toNat)
  case atStart => exact ⟨0, by omega, rfl, HR1⟩
  case round =>
    clear c0 c1 c2 c3 c4 c5 c6 c7 c8 c9 c10 c11 c12
    obtain ⟨k, hk, rfl, HR⟩ := hrel
    have hk0 : (0 : Int) ≤ (k : Int) := by omega
    by_cases hkn : k < n
    · have hkn' : (k : Int) < (n : Int) := by omega
      obtain ⟨bb, oo, e, hc⟩ := flat_at LegL.zero legA 5 (by decide) (fun _ => rfl) (HL.out.ext HR.out.lo) HN.out k hkn
      subst e
      generalize legs.getD k LegL.zero = x at *
      obtain ⟨x0, x1, x2, x3, x4⟩ := x
      have p0 : wr.cell? ⟨bb, oo + k * 5, none⟩ = some (.int .i64 x0) := hc 0 _ rfl
      have p1 : wr.cell? ⟨bb, oo + k * 5 + 1, none⟩ = some (.int .i64 x1) := hc 1 _ rfl
      have p2 : wr.cell? ⟨bb, oo + k * 5 + 2, none⟩ = some (.int .i64 x2) := hc 2 _ rfl
      have p3 : wr.cell? ⟨bb, oo + k * 5 + 3, none⟩ = some (.int .i64 x3) := hc 3 _ rfl
      have p4 : wr.cell? ⟨bb, oo + k * 5 + 4, none⟩ = some (.int .i64 x4) := hc 4 _ rfl
      clear hc
      go_upto_region 6 with (fail)
      have HX0 : Hid (BxW w #[.int .i64 id, .int .i64 rid, .int .i64 sl, .int .i64 sh, .int .i64 el, .int .i64 eh, .bool op, .slice (some ⟨bb, oo, none⟩) n lc, .slice pa m pc, .int .i64 fw, .int .i64 fp, .int .i64 wh, .int .i64 pl] wr.heap.size #[.int .i64 x0, .int .i64 x1, .int .i64 x2, .int .i64 x3, .int .i64 x4] (wr.alloc (.cells #[.int .i64 x0, .int .i64 x1, .int .i64 x2, .int .i64 x3, .int .i64 x4] 72))) := bxStart HR
      generalize wr.alloc (.cells #[.int .i64 x0, .int .i64 x1, .int .i64 x2, .int .i64 x3, .int .i64 x4] 72) = W3 at *
      generalize wr.heap.size = xb at *
      obtain ⟨d0, d1, d2, d3, d4⟩ := cells5 HX0.out.x
      clear p0 p1 p2 p3 p4 HR
      go_cut [53] (fun v wx => ∃ b, v = .bool b ∧ Hid (RdW w #[.int .i64 id, .int .i64 rid, .int .i64 sl, .int .i64 sh, .int .i64 el, .int .i64 eh, .bool op, .slice (some ⟨bb, oo, none⟩) n lc, .slice pa m pc, .int .i64 fw, .int .i64 fp, .int .i64 wh, .int .i64 pl] wx))
      case first =>
        go_wp2_with (first | (go_at_call 31; (with_reducible refine (valid_any _ _ _).mono ?_); rintro e w5 ⟨b5, rfl, hb5⟩; have HX5 := bxBelow (by assumption) hb5; obtain ⟨d0, d1, d2, d3, d4⟩ := cells5 HX5.out.x))
        all_goals
          go_meet
          exact ⟨_, rfl, bxR (by assumption)⟩
      case rest =>
      obtain ⟨b, rfl, HR4⟩ := hcut
      clear d0 d1 d2 d3 d4 HX0
      cases b with
      | true =>
        go_wp2
        go_ret
        exact ⟨_, rfl, HR4.out.lo⟩
      | false =>
        go_wp2
        go_roundw
        case rel => exact ⟨k + 1, by omega, by go_num, HR4⟩
        case measure => simp [intOf]; omega
    · obtain rfl : k = n := by omega
      have hkn' : ¬ (k : Int) < (k : Int) := by omega
      obtain ⟨c0, c1, c2, c3, c4, c5, c6, c7, c8, c9, c10, c11, c12⟩ := cells13 HR.out.r
      go_upto_region 10 with (fail)
      go_loopw [58] (fun i wr => ∃ j : Nat, j ≤ m ∧ i = .int .i64 (j : Int) ∧ Hid (RdW w #[.int .i64 id, .int .i64 rid, .int .i64 sl, .int .i64 sh, .int .i64 el, .int .i64 eh, .bool op, .slice la k lc, .slice pa m pc, .int .i64 fw, .int .i64 fp, .int .i64 wh, .int .i64 pl] wr)) (fun i _ => m - (intOf i).toNat)
      case atStart => exact ⟨0, by omega, rfl, HR⟩
      case round =>
        clear c0 c1 c2 c3 c4 c5 c6 c7 c8 c9 c10 c11 c12 HR
        obtain ⟨j, hj, rfl, HR⟩ := hrel
        have hj0 : (0 : Int) ≤ (j : Int) := by omega
        by_cases hjm : j < m
        · have hjm' : (j : Int) < (m : Int) := by omega
          obtain ⟨bb, oo, e, hc⟩ := flat_at PauL.zero pauA 4 (by decide) (fun _ => rfl) (HP.out.ext HR.out.lo) HM.out j hjm
          subst e
          generalize pauses.getD j PauL.zero = x at *
          obtain ⟨x0, x1, x2, x3⟩ := x
          have p0 : wr.cell? ⟨bb, oo + j * 4, none⟩ = some (.int .i64 x0) := hc 0 _ rfl
          have p1 : wr.cell? ⟨bb, oo + j * 4 + 1, none⟩ = some (.int .i64 x1) := hc 1 _ rfl
          have p2 : wr.cell? ⟨bb, oo + j * 4 + 2, none⟩ = some (.int .i64 x2) := hc 2 _ rfl
          have p3 : wr.cell? ⟨bb, oo + j * 4 + 3, none⟩ = some (.int .i64 x3) := hc 3 _ rfl
          clear hc
          go_upto_region 12 with (fail)
          have HX0 : Hid (BxW w #[.int .i64 id, .int .i64 rid, .int .i64 sl, .int .i64 sh, .int .i64 el, .int .i64 eh, .bool op, .slice la k lc, .slice (some ⟨bb, oo, none⟩) m pc, .int .i64 fw, .int .i64 fp, .int .i64 wh, .int .i64 pl] wr.heap.size #[.int .i64 x0, .int .i64 x1, .int .i64 x2, .int .i64 x3] (wr.alloc (.cells #[.int .i64 x0, .int .i64 x1, .int .i64 x2, .int .i64 x3] 74))) := bxStart HR
          generalize wr.alloc (.cells #[.int .i64 x0, .int .i64 x1, .int .i64 x2, .int .i64 x3] 74) = W3 at *
          generalize wr.heap.size = xb at *
          obtain ⟨d0, d1, d2, d3⟩ := cells4 HX0.out.x
          clear p0 p1 p2 p3 HR
          go_cut [71] (fun v wx => ∃ b, v = .bool b ∧ Hid (RdW w #[.int .i64 id, .int .i64 rid, .int .i64 sl, .int .i64 sh, .int .i64 el, .int .i64 eh, .bool op, .slice la k lc, .slice (some ⟨bb, oo, none⟩) m pc, .int .i64 fw, .int .i64 fp, .int .i64 wh, .int .i64 pl] wx))
          case first =>
            go_wp2_with (first | (go_at_call 31; (with_reducible refine (valid_any _ _ _).mono ?_); rintro e w5 ⟨b5, rfl, hb5⟩; have HX5 := bxBelow (by assumption) hb5; obtain ⟨d0, d1, d2, d3⟩ := cells4 HX5.out.x))
            all_goals
              go_meet
              exact ⟨_, rfl, bxR (by assumption)⟩
          case rest =>
          obtain ⟨b, rfl, HR4⟩ := hcut
          clear d0 d1 d2 d3 HX0
          cases b with
          | true =>
            go_wp2
            go_ret
            exact ⟨_, rfl, HR4.out.lo⟩
          | false =>
            go_wp2
            go_roundw
            case rel => exact ⟨j + 1, by omega, by go_num, HR4⟩
            case measure => simp [intOf]; omega
        · obtain rfl : j = m := by omega
          have hjm' : ¬ (j : Int) < (j : Int) := by omega
          go_wp2
          go_ret
          exact ⟨_, rfl, HR.out.lo⟩
end Go.Proofs.Ytjfakdbgcinpcaa
