/-
  RIDES: joined, ordered, Check: an answer, whatever the ride.
-/
import Derived.Test.YtjfakdbgcinpcaaTdR
import Derived.BigQuiet
import Derived.BigRegion
import Derived.Deep.RegionHeld3
import Derived.Laws.StructEq
import Derived.StillTailTactics
import Derived.RegionTactic
import Derived.Deep.DeepCutAuto
import Derived.Deep.QuietTactic
import Derived.WalkSpells
import Derived.WalkLawsBesides
namespace Go.Proofs.Ytjfakdbgcinpcaa
open Go.RowKit
set_option linter.unusedVariables false

/-- A ride in a box, and an interval of the call's own. -/
structure AtW (w : World) (R : Array Value) (ab : Nat) (a b : Int) (W : World) : Prop where
  r : RdW w R W
  x : BlkAt W ab #[.int .i64 a, .int .i64 b]
  h : w.heap.size < ab
theorem atStart {w W : World} {R : Array Value} {E : TypeId} (h : Hid (RdW w R W)) (a b : Int) : Hid (AtW w R W.heap.size a b (W.alloc (.cells #[.int .i64 a, .int .i64 b] E))) := Lib.hid ⟨(rdBelow h (below_alloc _ _)).out, blkNew rfl, h.out.r.elim fun E h => (Array.getElem?_eq_some_iff.1 h).1⟩
theorem atBelow {w W W' : World} {R : Array Value} {ab : Nat} {a b : Int} (h : Hid (AtW w R ab a b W)) (hb : Below W.heap.size W W') : Hid (AtW w R ab a b W') := Lib.hid ⟨(rdBelow (Lib.hid h.out.r) hb).out, blkBelow hb h.out.x, h.out.h⟩
theorem blk_off {W : World} {k : Nat} {C : Array Value} {a : Addr} {v : Value} (h : BlkAt W k C) (hne : k ≠ a.block) : BlkAt (W.setCell a v) k C := h.elim fun E h => ⟨E, by rw [Below.heap_setCell W a v k hne]; exact h⟩
theorem atSet {w W : World} {R : Array Value} {ab : Nat} {a b : Int} (h : Hid (AtW w R ab a b W)) (c d : Int) : Hid (AtW w R ab c d ((W.setCell ⟨ab, 0, none⟩ (.int .i64 c)).setCell ⟨ab, 1, none⟩ (.int .i64 d))) := by
  have h1 := h.out.h
  exact Lib.hid ⟨⟨blk_off (blk_off h.out.r.r (by show w.heap.size ≠ ab; omega)) (by show w.heap.size ≠ ab; omega), (h.out.r.lo.setCell (by show w.heap.size ≤ ab; omega) _).setCell (by show w.heap.size ≤ ab; omega) _⟩, two_set h.out.x _ _, h1⟩
set_option maxRecDepth 100000 in
set_option maxHeartbeats 4000000 in
theorem joined_any (id rid sl sh el eh : Int) (op : Bool) (la : Option Addr) (n lc : Nat) (pa : Option Addr) (m pc : Nat) (fw fp wh pl : Int) (legs : List LegL) (pauses : List PauL) (w : World) (hn : legs.length = n) (hm : pauses.length = m) (hl : Sl w 5 la n lc (flatV legA legs)) (hp : Sl w 4 pa m pc (flatV pauA pauses)) (hn9 : n ≤ 1000) (hm9 : m ≤ 1000) : Calls Try.prog 21 #[.agg #[.int .i64 id, .int .i64 rid, .int .i64 sl, .int .i64 sh, .int .i64 el, .int .i64 eh, .bool op, .slice la n lc, .slice pa m pc, .int .i64 fw, .int .i64 fp, .int .i64 wh, .int .i64 pl]] w (SomeB w) := by
  have HR0 := rdStart w #[.int .i64 id, .int .i64 rid, .int .i64 sl, .int .i64 sh, .int .i64 el, .int .i64 eh, .bool op, .slice la n lc, .slice pa m pc, .int .i64 fw, .int .i64 fp, .int .i64 wh, .int .i64 pl] 33
  have HL := Lib.hid hl
  have HP := Lib.hid hp
  have HN := Lib.hid hn
  have HM := Lib.hid hm
  have hn0 : (0 : Int) ≤ (n : Int) := by omega
  have hn1 : (n : Int) ≤ 1000 := by omega
  have hm0 : (0 : Int) ≤ (m : Int) := by omega
  have hm1 : (m : Int) ≤ 1000 := by omega
  clear hl hp hn hm
  go_enter Try.func21, Try.ntmps21
  go_upto_region 1 with (fail)
  generalize w.alloc (.cells #[.int .i64 id, .int .i64 rid, .int .i64 sl, .int .i64 sh, .int .i64 el, .int .i64 eh, .bool op, .slice la n lc, .slice pa m pc, .int .i64 fw, .int .i64 fp, .int .i64 wh, .int .i64 pl] 33) = W1 at *
  obtain ⟨c0, c1, c2, c3, c4, c5, c6, c7, c8, c9, c10, c11, c12⟩ := cells13 HR0.out.r
  go_cut [21] (fun v wx => ∃ b, v = .bool b ∧ wx = W1)
  case first =>
    go_wp2_with fail
    all_goals
      go_meet
      exact ⟨_, rfl, rfl⟩
  case rest =>
  obtain ⟨b, rfl, rfl⟩ := hcut
  cases b with
  | true =>
    go_wp2
    go_ret
    exact ⟨_, rfl, HR0.out.lo⟩
  | false =>
  go_upto_region 4 with (fail)
  have HA0 := atStart (E := 29) HR0 sl sh
  clear c0 c1 c2 c3 c4 c5 c6 c7 c8 c9 c10 c11 c12 HR0
  generalize wc.alloc (.cells #[.int .i64 sl, .int .i64 sh] 29) = W2 at *
  generalize wc.heap.size = ab at *
  have HR2 := Lib.hid HA0.out.r
  obtain ⟨c0, c1, c2, c3, c4, c5, c6, c7, c8, c9, c10, c11, c12⟩ := cells13 HR2.out.r
  go_upto_region 5 with (fail)
  go_loopw [27] (fun i wr => ∃ (k : Nat) (a b : Int), k ≤ n ∧ i = .int .i64 (k : Int) ∧ Hid (AtW w #[.int .i64 id, .int .i64 rid, .int .i64 sl, .int .i64 sh, .int .i64 el, .int .i64 eh, .bool op, .slice la n lc, .slice pa m pc, .int .i64 fw, .int .i64 fp, .int .i64 wh, .int .i64 pl] ab a b wr)) (fun i _ => n - (intOf i).toNat)
  case atStart => exact ⟨0, _, _, by omega, rfl, HA0⟩
  case round =>
    clear c0 c1 c2 c3 c4 c5 c6 c7 c8 c9 c10 c11 c12 HA0 HR2
    obtain ⟨k, a, b, hk, rfl, HA⟩ := hrel
    have hk0 : (0 : Int) ≤ (k : Int) := by omega
    by_cases hkn : k < n
    · have hkn' : (k : Int) < (n : Int) := by omega
      obtain ⟨bb, oo, e, hc⟩ := flat_at LegL.zero legA 5 (by decide) (fun _ => rfl) (HL.out.ext HA.out.r.lo) HN.out k hkn
      subst e
      generalize legs.getD k LegL.zero = x at *
      obtain ⟨x0, x1, x2, x3, x4⟩ := x
      have p0 : wr.cell? ⟨bb, oo + k * 5, none⟩ = some (.int .i64 x0) := hc 0 _ rfl
      have p1 : wr.cell? ⟨bb, oo + k * 5 + 1, none⟩ = some (.int .i64 x1) := hc 1 _ rfl
      have p2 : wr.cell? ⟨bb, oo + k * 5 + 2, none⟩ = some (.int .i64 x2) := hc 2 _ rfl
      have p3 : wr.cell? ⟨bb, oo + k * 5 + 3, none⟩ = some (.int .i64 x3) := hc 3 _ rfl
      have p4 : wr.cell? ⟨bb, oo + k * 5 + 4, none⟩ = some (.int .i64 x4) := hc 4 _ rfl
      clear hc
      go_upto_region 7 with (fail)
      have HA1 := atBelow HA (below_alloc wr (.cells #[.int .i64 x0, .int .i64 x1, .int .i64 x2, .int .i64 x3, .int .i64 x4] 72))
      have HX1 : Hid (BlkAt (wr.alloc (.cells #[.int .i64 x0, .int .i64 x1, .int .i64 x2, .int .i64 x3, .int .i64 x4] 72)) wr.heap.size #[.int .i64 x0, .int .i64 x1, .int .i64 x2, .int .i64 x3, .int .i64 x4]) := Lib.hid (blkNew rfl)
      generalize wr.alloc (.cells #[.int .i64 x0, .int .i64 x1, .int .i64 x2, .int .i64 x3, .int .i64 x4] 72) = W3 at *
      generalize wr.heap.size = xb at *
      obtain ⟨d0, d1, d2, d3, d4⟩ := cells5 HX1.out
      obtain ⟨a0, a1, f0, f1⟩ := two_facts HA1.out.x
      obtain ⟨q, hq⟩ := span_neq x1 x2 a b
      have HA2 := atSet HA1 x3 x4
      have hlo := HA1.out.r.lo
      have HLO := Lib.hid hlo
      clear p0 p1 p2 p3 p4 HA HA1 HX1 hlo
      cases q with
      | true =>
        go_wp2
        go_ret
        exact ⟨_, rfl, HLO.out⟩
      | false =>
        go_wp2
        go_roundw
        case rel => exact ⟨k + 1, x3, x4, by omega, by go_num, HA2⟩
        case measure => simp [intOf]; omega
    · obtain rfl : k = n := by omega
      have hkn' : ¬ (k : Int) < (k : Int) := by omega
      have HR := Lib.hid HA.out.r
      obtain ⟨c0, c1, c2, c3, c4, c5, c6, c7, c8, c9, c10, c11, c12⟩ := cells13 HR.out.r
      obtain ⟨a0, a1, f0, f1⟩ := two_facts HA.out.x
      obtain ⟨q, hq⟩ := span_eql a b el eh
      go_wp2
      go_ret
      exact ⟨_, rfl, HR.out.lo⟩
set_option maxRecDepth 100000 in
set_option maxHeartbeats 8000000 in
theorem ordered_any (id rid sl sh el eh : Int) (op : Bool) (la : Option Addr) (n lc : Nat) (pa : Option Addr) (m pc : Nat) (fw fp wh pl : Int) (legs : List LegL) (pauses : List PauL) (w : World) (hn : legs.length = n) (hm : pauses.length = m) (hl : Sl w 5 la n lc (flatV legA legs)) (hp : Sl w 4 pa m pc (flatV pauA pauses)) (hn9 : n ≤ 1000) (hm9 : m ≤ 1000) : Calls Try.prog 22 #[.agg #[.int .i64 id, .int .i64 rid, .int .i64 sl, .int .i64 sh, .int .i64 el, .int .i64 eh, .bool op, .slice la n lc, .slice pa m pc, .int .i64 fw, .int .i64 fp, .int .i64 wh, .int .i64 pl]] w (SomeB w) := by
  have HR0 := rdStart w #[.int .i64 id, .int .i64 rid, .int .i64 sl, .int .i64 sh, .int .i64 el, .int .i64 eh, .bool op, .slice la n lc, .slice pa m pc, .int .i64 fw, .int .i64 fp, .int .i64 wh, .int .i64 pl] 33
  have HL := Lib.hid hl
  have HP := Lib.hid hp
  have HN := Lib.hid hn
  have HM := Lib.hid hm
  have hn0 : (0 : Int) ≤ (n : Int) := by omega
  have hn1 : (n : Int) ≤ 1000 := by omega
  have hm0 : (0 : Int) ≤ (m : Int) := by omega
  have hm1 : (m : Int) ≤ 1000 := by omega
  clear hl hp hn hm
  go_enter Try.func22, Try.ntmps22
  go_upto_region 1 with (fail)
  generalize w.alloc (.cells #[.int .i64 id, .int .i64 rid, .int .i64 sl, .int .i64 sh, .int .i64 el, .int .i64 eh, .bool op, .slice la n lc, .slice pa m pc, .int .i64 fw, .int .i64 fp, .int .i64 wh, .int .i64 pl] 33) = W1 at *
  obtain ⟨c0, c1, c2, c3, c4, c5, c6, c7, c8, c9, c10, c11, c12⟩ := cells13 HR0.out.r
  go_upto_region 2 with (fail)
  go_loopw [11] (fun i wr => ∃ (k : Nat), k ≤ n ∧ i = .int .i64 (k : Int) ∧ Hid (RdW w #[.int .i64 id, .int .i64 rid, .int .i64 sl, .int .i64 sh, .int .i64 el, .int .i64 eh, .bool op, .slice la n lc, .slice pa m pc, .int .i64 fw, .int .i64 fp, .int .i64 wh, .int .i64 pl] wr)) (fun i _ => n - (intOf i).toNat)
  case atStart => exact ⟨0, by omega, rfl, HR0⟩
  case round =>
    clear c0 c1 c2 c3 c4 c5 c6 c7 c8 c9 c10 c11 c12 HR0
    obtain ⟨k, hk, rfl, HR⟩ := hrel
    have hk0 : (0 : Int) ≤ (k : Int) := by omega
    by_cases hkn : k < n
    · have hkn' : (k : Int) < (n : Int) := by omega
      obtain ⟨bb, oo, e, hc⟩ := flat_at LegL.zero legA 5 (by decide) (fun _ => rfl) (HL.out.ext HR.out.lo) HN.out k hkn
      subst e
      generalize legs.getD k LegL.zero = x at *
      obtain ⟨x0, x1, x2, x3, x4⟩ := x
      have p0 : wr.cell? ⟨bb, oo + k * 5, none⟩ = some (.int .i64 x0) := hc 0 _ rfl
      have p1 : wr.cell? ⟨bb, oo + k * 5 + 1, none⟩ = some (.int .i64 x1) := hc 1 _ rfl
      have p2 : wr.cell? ⟨bb, oo + k * 5 + 2, none⟩ = some (.int .i64 x2) := hc 2 _ rfl
      have p3 : wr.cell? ⟨bb, oo + k * 5 + 3, none⟩ = some (.int .i64 x3) := hc 3 _ rfl
      have p4 : wr.cell? ⟨bb, oo + k * 5 + 4, none⟩ = some (.int .i64 x4) := hc 4 _ rfl
      clear hc
      go_upto_region 4 with (fail)
      have HR1 := rdBelow HR (below_alloc wr (.cells #[.int .i64 x0, .int .i64 x1, .int .i64 x2, .int .i64 x3, .int .i64 x4] 72))
      have HX1 : Hid (BlkAt (wr.alloc (.cells #[.int .i64 x0, .int .i64 x1, .int .i64 x2, .int .i64 x3, .int .i64 x4] 72)) wr.heap.size #[.int .i64 x0, .int .i64 x1, .int .i64 x2, .int .i64 x3, .int .i64 x4]) := Lib.hid (blkNew rfl)
      generalize wr.alloc (.cells #[.int .i64 x0, .int .i64 x1, .int .i64 x2, .int .i64 x3, .int .i64 x4] 72) = W3 at *
      generalize wr.heap.size = xb at *
      obtain ⟨d0, d1, d2, d3, d4⟩ := cells5 HX1.out
      obtain ⟨c0, c1, c2, c3, c4, c5, c6, c7, c8, c9, c10, c11, c12⟩ := cells13 HR1.out.r
      clear p0 p1 p2 p3 p4 HR HX1
      go_cut [35] (fun v wx => ∃ b, v = .bool b ∧ wx = W3)
      case first =>
        cases op
        all_goals
          go_wp2_with fail
          all_goals
            go_meet
            exact ⟨_, rfl, rfl⟩
      case rest =>
      obtain ⟨b, rfl, rfl⟩ := hcut
      clear c0 c1 c2 c3 c4 c5 c6 c7 c8 c9 c10 c11 c12 d0 d1 d2 d3 d4
      cases b with
      | true =>
        go_wp2
        go_ret
        exact ⟨_, rfl, HR1.out.lo⟩
      | false =>
        go_wp2
        go_roundw
        case rel => exact ⟨k + 1, by omega, by go_num, HR1⟩
        case measure => simp [intOf]; omega
    · obtain rfl : k = n := by omega
      have hkn' : ¬ (k : Int) < (k : Int) := by omega
      obtain ⟨c0, c1, c2, c3, c4, c5, c6, c7, c8, c9, c10, c11, c12⟩ := cells13 HR.out.r
      go_upto_region 9 with (fail)
      go_loopw [5, 43] (fun v i wr => ∃ (j : Nat) (last : Int), j ≤ m ∧ i = .int .i64 (j : Int) ∧ v = .int .i64 last ∧ Hid (RdW w #[.int .i64 id, .int .i64 rid, .int .i64 sl, .int .i64 sh, .int .i64 el, .int .i64 eh, .bool op, .slice la k lc, .slice pa m pc, .int .i64 fw, .int .i64 fp, .int .i64 wh, .int .i64 pl] wr)) (fun _ i _ => m - (intOf i).toNat)
      case atStart => exact ⟨0, _, by omega, rfl, rfl, HR⟩
      case round =>
        clear c0 c1 c2 c3 c4 c5 c6 c7 c8 c9 c10 c11 c12 HR
        obtain ⟨j, last, hj, rfl, rfl, HR⟩ := hrel
        have hj0 : (0 : Int) ≤ (j : Int) := by omega
        by_cases hjm : j < m
        · have hjm' : (j : Int) < (m : Int) := by omega
          obtain ⟨bb, oo, e, hc⟩ := flat_at PauL.zero pauA 4 (by decide) (fun _ => rfl) (HP.out.ext HR.out.lo) HM.out j hjm
          subst e
          generalize pauses.getD j PauL.zero = x at *
          obtain ⟨x0, x1, x2, x3⟩ := x
          have p0 : wr.cell? ⟨bb, oo + j * 4, none⟩ = some (.int .i64 x0) := hc 0 _ rfl
          have p1 : wr.cell? ⟨bb, oo + j * 4 + 1, none⟩ = some (.int .i64 x1) := hc 1 _ rfl
          have p2 : wr.cell? ⟨bb, oo + j * 4 + 2, none⟩ = some (.int .i64 x2) := hc 2 _ rfl
          have p3 : wr.cell? ⟨bb, oo + j * 4 + 3, none⟩ = some (.int .i64 x3) := hc 3 _ rfl
          clear hc
          go_upto_region 11 with (fail)
          have HR1 := rdBelow HR (below_alloc wr (.cells #[.int .i64 x0, .int .i64 x1, .int .i64 x2, .int .i64 x3] 74))
          have HX1 : Hid (BlkAt (wr.alloc (.cells #[.int .i64 x0, .int .i64 x1, .int .i64 x2, .int .i64 x3] 74)) wr.heap.size #[.int .i64 x0, .int .i64 x1, .int .i64 x2, .int .i64 x3]) := Lib.hid (blkNew rfl)
          generalize wr.alloc (.cells #[.int .i64 x0, .int .i64 x1, .int .i64 x2, .int .i64 x3] 74) = W3 at *
          generalize wr.heap.size = xb at *
          obtain ⟨d0, d1, d2, d3⟩ := cells4 HX1.out
          obtain ⟨c0, c1, c2, c3, c4, c5, c6, c7, c8, c9, c10, c11, c12⟩ := cells13 HR1.out.r
          clear p0 p1 p2 p3 HR HX1
          have HLO := Lib.hid HR1.out.lo
          by_cases h1 : x0 < last
          · go_wp2
            go_ret
            exact ⟨_, rfl, HLO.out⟩
          · go_upto_region 14 with (fail)
            go_cut [71] (fun v wx => ∃ b, v = .bool b ∧ wx = W3)
            case first =>
              by_cases hjl : (j : Int) = (m : Int) - 1
              · have hdl : (m : Int) - 1 = (j : Int) := by omega
                clear hjl
                cases op
                all_goals
                  go_wp2_with fail
                  all_goals
                    go_meet
                    exact ⟨_, rfl, rfl⟩
              · cases op
                all_goals
                  go_wp2_with fail
                  all_goals
                    go_meet
                    exact ⟨_, rfl, rfl⟩
            case rest =>
            obtain ⟨b, rfl, rfl⟩ := hcut
            cases b with
            | true =>
              go_wp2
              go_ret
              exact ⟨_, rfl, HLO.out⟩
            | false =>
              by_cases h2 : x2 < x0
              · go_wp2
                go_ret
                exact ⟨_, rfl, HLO.out⟩
              · go_wp2
                go_roundw
                case rel => exact ⟨j + 1, x2, by omega, by go_num, rfl, HR1⟩
                case measure => simp [intOf]; omega
        · obtain rfl : j = m := by omega
          have hjm' : ¬ (j : Int) < (j : Int) := by omega
          obtain ⟨c0, c1, c2, c3, c4, c5, c6, c7, c8, c9, c10, c11, c12⟩ := cells13 HR.out.r
          have HLO := Lib.hid HR.out.lo
          cases op
          all_goals
            go_wp2
            all_goals
              go_ret
              exact ⟨_, rfl, HLO.out⟩
set_option maxRecDepth 100000 in
set_option maxHeartbeats 4000000 in
theorem rcheck_any (id rid sl sh el eh : Int) (op : Bool) (la : Option Addr) (n lc : Nat) (pa : Option Addr) (m pc : Nat) (fw fp wh pl : Int) (legs : List LegL) (pauses : List PauL) (w : World) (hn : legs.length = n) (hm : pauses.length = m) (hl : Sl w 5 la n lc (flatV legA legs)) (hp : Sl w 4 pa m pc (flatV pauA pauses)) (hn9 : n ≤ 1000) (hm9 : m ≤ 1000) : Calls Try.prog 13 #[.agg #[.int .i64 id, .int .i64 rid, .int .i64 sl, .int .i64 sh, .int .i64 el, .int .i64 eh, .bool op, .slice la n lc, .slice pa m pc, .int .i64 fw, .int .i64 fp, .int .i64 wh, .int .i64 pl]] w (SomeE w) := by
  have H1 : Hid (∀ W, Below w.heap.size w W → Calls Try.prog 20 #[.agg #[.int .i64 id, .int .i64 rid, .int .i64 sl, .int .i64 sh, .int .i64 el, .int .i64 eh, .bool op, .slice la n lc, .slice pa m pc, .int .i64 fw, .int .i64 fp, .int .i64 wh, .int .i64 pl]] W (SomeB W)) := Lib.hid (fun W hb => ranged_any id rid sl sh el eh op la n lc pa m pc fw fp wh pl legs pauses W hn hm (hl.ext hb) (hp.ext hb) hn9 hm9)
  have H2 : Hid (∀ W, Below w.heap.size w W → Calls Try.prog 21 #[.agg #[.int .i64 id, .int .i64 rid, .int .i64 sl, .int .i64 sh, .int .i64 el, .int .i64 eh, .bool op, .slice la n lc, .slice pa m pc, .int .i64 fw, .int .i64 fp, .int .i64 wh, .int .i64 pl]] W (SomeB W)) := Lib.hid (fun W hb => joined_any id rid sl sh el eh op la n lc pa m pc fw fp wh pl legs pauses W hn hm (hl.ext hb) (hp.ext hb) hn9 hm9)
  have H3 : Hid (∀ W, Below w.heap.size w W → Calls Try.prog 22 #[.agg #[.int .i64 id, .int .i64 rid, .int .i64 sl, .int .i64 sh, .int .i64 el, .int .i64 eh, .bool op, .slice la n lc, .slice pa m pc, .int .i64 fw, .int .i64 fp, .int .i64 wh, .int .i64 pl]] W (SomeB W)) := Lib.hid (fun W hb => ordered_any id rid sl sh el eh op la n lc pa m pc fw fp wh pl legs pauses W hn hm (hl.ext hb) (hp.ext hb) hn9 hm9)
  have HR0 := rdStart w #[.int .i64 id, .int .i64 rid, .int .i64 sl, .int .i64 sh, .int .i64 el, .int .i64 eh, .bool op, .slice la n lc, .slice pa m pc, .int .i64 fw, .int .i64 fp, .int .i64 wh, .int .i64 pl] 33
  clear hl hp hn hm hn9 hm9
  go_enter Try.func13, Try.ntmps13
  go_upto_region 1 with (fail)
  generalize w.alloc (.cells #[.int .i64 id, .int .i64 rid, .int .i64 sl, .int .i64 sh, .int .i64 el, .int .i64 eh, .bool op, .slice la n lc, .slice pa m pc, .int .i64 fw, .int .i64 fp, .int .i64 wh, .int .i64 pl] 33) = W1 at *
  obtain ⟨c0, c1, c2, c3, c4, c5, c6, c7, c8, c9, c10, c11, c12⟩ := cells13 HR0.out.r
  go_wp2_with fail
  refine (H1.out _ HR0.out.lo).mono ?_
  rintro e w2 ⟨b2, rfl, hb2⟩
  have HR2 := rdBelow HR0 hb2
  clear c0 c1 c2 c3 c4 c5 c6 c7 c8 c9 c10 c11 c12 HR0 hb2 H1
  obtain ⟨c0, c1, c2, c3, c4, c5, c6, c7, c8, c9, c10, c11, c12⟩ := cells13 HR2.out.r
  cases b2 with
  | false =>
    go_wp2_with fail
    go_ret
    exact ⟨_, rfl, HR2.out.lo⟩
  | true =>
  go_wp2_with fail
  refine (H2.out _ HR2.out.lo).mono ?_
  rintro e w3 ⟨b3, rfl, hb3⟩
  have HR3 := rdBelow HR2 hb3
  clear c0 c1 c2 c3 c4 c5 c6 c7 c8 c9 c10 c11 c12 HR2 hb3 H2
  obtain ⟨c0, c1, c2, c3, c4, c5, c6, c7, c8, c9, c10, c11, c12⟩ := cells13 HR3.out.r
  cases b3 with
  | false =>
    go_wp2_with fail
    go_ret
    exact ⟨_, rfl, HR3.out.lo⟩
  | true =>
  go_wp2_with fail
  refine (H3.out _ HR3.out.lo).mono ?_
  rintro e w4 ⟨b4, rfl, hb4⟩
  have HR4 := rdBelow HR3 hb4
  clear c0 c1 c2 c3 c4 c5 c6 c7 c8 c9 c10 c11 c12 HR3 hb4 H3
  obtain ⟨c0, c1, c2, c3, c4, c5, c6, c7, c8, c9, c10, c11, c12⟩ := cells13 HR4.out.r
  have HLO := Lib.hid HR4.out.lo
  cases b4 with
  | false =>
    go_wp2_with fail
    go_ret
    exact ⟨_, rfl, HLO.out⟩
  | true =>
  obtain ⟨q, hq⟩ := span_neq el eh 0 0
  cases op <;> cases q
  all_goals
    go_wp2
    all_goals
      go_ret
      exact ⟨_, rfl, HLO.out⟩
end Go.Proofs.Ytjfakdbgcinpcaa
