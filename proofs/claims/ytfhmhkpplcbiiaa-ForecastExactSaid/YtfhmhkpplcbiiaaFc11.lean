/-
  FORECAST, THE EXAMPLES: awake.
-/
import Derived.Test.YtfhmhkpplcbiiaaProg
import Derived.Test.YtfhmhkpplcbiiaaBase3
import Derived.Test.YtfhmhkpplcbiiaaBase5
import Derived.Test.YtfhmhkpplcbiiaaBase6
import Derived.Test.YtfhmhkpplcbiiaaBase7
import Derived.Test.YtfhmhkpplcbiiaaDrawP
import Derived.Test.YtfhmhkpplcbiiaaDraw4
import Derived.Test.YtfhmhkpplcbiiaaDraw5
import Derived.Test.YtfhmhkpplcbiiaaDraw6
import Derived.Test.YtfhmhkpplcbiiaaDrawL0
import Derived.Test.YtfhmhkpplcbiiaaDrawP2
import Derived.Test.YtfhmhkpplcbiiaaFcP
import Derived.Test.YtfhmhkpplcbiiaaFc1
import Derived.Test.YtfhmhkpplcbiiaaFc2
import Derived.Test.YtfhmhkpplcbiiaaFc3
import Derived.Test.YtfhmhkpplcbiiaaFc3c
import Derived.Test.YtfhmhkpplcbiiaaFc6
import Derived.Test.YtfhmhkpplcbiiaaFcP2
import Derived.Test.YtfhmhkpplcbiiaaFc7
import Derived.Test.YtfhmhkpplcbiiaaFc8
import Derived.Test.YtfhmhkpplcbiiaaFc9
import Derived.Test.YtfhmhkpplcbiiaaFc10
import Derived.Test.YtfhmhkpplcbiiaaHeld
import Derived.BigQuiet
import Derived.Laws.StructEq
import Derived.StillTailTactics
import Derived.RegionTactic
import Derived.BigRegion
import Derived.Deep.RegionHeld3
import Derived.Deep.DeepCutAuto
import Derived.Deep.QuietTactic
import Derived.WalkSpells
import Derived.WalkLawsBesides
namespace Go.Proofs.Ytfhmhkpplcbiiaa
open Go.RowKit
set_option linter.unusedVariables false

theorem keep6 {w w1 w2 : World} {a b c d e : Addr} {x y z u v : Value} (hb : Below w1.heap.size w1 w2) (h : w1.cell? a = some x ∧ w1.cell? b = some y ∧ w1.cell? c = some z ∧ w1.cell? d = some u ∧ w1.cell? e = some v ∧ Below w.heap.size w w1) :
    w2.cell? a = some x ∧ w2.cell? b = some y ∧ w2.cell? c = some z ∧ w2.cell? d = some u ∧ w2.cell? e = some v ∧ Below w.heap.size w w2 := ⟨cell_keep hb h.1, cell_keep hb h.2.1, cell_keep hb h.2.2.1, cell_keep hb h.2.2.2.1, cell_keep hb h.2.2.2.2.1, below_step h.2.2.2.2.2 hb⟩
theorem keep6D {w w1 : World} {a b c d e : Addr} {x y z u v : Value} (h : w1.cell? a = some x ∧ w1.cell? b = some y ∧ w1.cell? c = some z ∧ w1.cell? d = some u ∧ w1.cell? e = some v ∧ Below w.heap.size w w1) :
    w1.drew.cell? a = some x ∧ w1.drew.cell? b = some y ∧ w1.drew.cell? c = some z ∧ w1.drew.cell? d = some u ∧ w1.drew.cell? e = some v ∧ Below w.heap.size w w1.drew := ⟨h.1, h.2.1, h.2.2.1, h.2.2.2.1, h.2.2.2.2.1, below_drew h.2.2.2.2.2⟩
theorem keep6A {w w1 : World} {a b c d e : Addr} {x y z u v : Value} (o : Obj) (h : w1.cell? a = some x ∧ w1.cell? b = some y ∧ w1.cell? c = some z ∧ w1.cell? d = some u ∧ w1.cell? e = some v ∧ Below w.heap.size w w1) :
    (w1.alloc o).cell? a = some x ∧ (w1.alloc o).cell? b = some y ∧ (w1.alloc o).cell? c = some z ∧ (w1.alloc o).cell? d = some u ∧ (w1.alloc o).cell? e = some v ∧ Below w.heap.size w (w1.alloc o) := keep6 (below_alloc _ _) h
theorem five_cells {W : World} {k : Nat} {x y z u v : Value} (h : BlkAt W k #[x, y, z, u, v]) : W.cell? ⟨k, 0, none⟩ = some x ∧ W.cell? ⟨k, 1, none⟩ = some y ∧ W.cell? ⟨k, 2, none⟩ = some z ∧ W.cell? ⟨k, 3, none⟩ = some u ∧ W.cell? ⟨k, 4, none⟩ = some v ∧ W.frozen? ⟨k, 0, none⟩ = false := by
  obtain ⟨E, h⟩ := h
  refine ⟨?_, ?_, ?_, ?_, ?_, frozen_of_row _ _ _ _ _ h⟩ <;> rw [cell_of_row _ _ _ _ _ _ h] <;> rfl
theorem blk_lt {W : World} {k : Nat} {C : Array Value} (h : BlkAt W k C) : k < W.heap.size := h.elim fun E h => (Array.getElem?_eq_some_iff.1 h).1
theorem own_low {W : World} {B : Nat} {e : TypeId} {v : Value} {n : Nat} {xs : List Value} {a : Addr} {u : Value} (h : W.ownsRow B e 1 v n xs) (ha : a.block < B) : (W.setCell a u).ownsRow B e 1 v n xs := by
  refine ⟨h.1, ?_⟩
  rcases h.2 with hn | ⟨g, cap, cur, rfl, hB, hgb, rest⟩
  · exact .inl hn
  · exact .inr ⟨g, cap, cur, rfl, hB, by rw [heap_setCell_other _ _ _ _ (by omega)]; exact hgb, rest⟩
theorem tenBelow {W W' : World} {a b : Option Addr} (hb : Below W.heap.size W W') (h : Hid (TenAt W a b)) : Hid (TenAt W' a b) := ⟨h.out.1.ext hb, h.out.2.ext hb⟩
theorem tenDrew {W : World} {a b : Option Addr} (h : Hid (TenAt W a b)) : Hid (TenAt W.drew a b) := ⟨h.out.1.ext (Below.refl _ W).drew, h.out.2.ext (Below.refl _ W).drew⟩
theorem tenAlloc {W : World} {o : Obj} {a b : Option Addr} (h : Hid (TenAt W a b)) : Hid (TenAt (W.alloc o) a b) := tenBelow (below_alloc _ _) h
theorem aw_e4 : expc 1 tenL zerL 4 0 0 5 2 = (2000, 0, 0) := by kernel_rfl
theorem aw_e3 : expc 1 tenL zerL 3 0 0 5 2 = (2500, 0, 0) := by kernel_rfl
theorem aw_c1 : caseF (2000, 0, 0) [0#64, 0#64, 0#64] = ([-1, -1], 0) := by kernel_rfl
theorem aw_c2 : caseF (2500, 0, 0) [499#64, 0#64, 0#64, 0#64] = ([-1, -1, -1], 0) := by kernel_rfl
theorem aw_c3 : caseF (2500, 0, 0) [500#64, 0#64, 0#64, 0#64] = ([-1, -1], 0) := by kernel_rfl
theorem expd_ten {W : World} {a b : Option Addr} (h : Hid (TenAt W a b)) : Calls Try.prog 45 #[.agg #[.int .i64 1, .slice a 168 168, .slice b 168 168], .agg #[.int .i64 4, .int .i64 0, .int .i64 0, .int .i64 5, .int .i64 2]] W (fun e w' => e = .returned (.tuple #[.int .i64 2000, .int .i64 0, .int .i64 0]) ∧ Below W.heap.size W w') := by
  have := expd_any 1 4 0 0 5 2 tenL zerL a 168 168 b 168 168 W h.out.1 h.out.2
  rw [aw_e4] at this
  exact this
theorem scen_of {W : World} {a b : Option Addr} {k : Int} {r : Int × Int × Int} {ws : List (BitVec 64)} {L : List Int} {g n : Nat} {C : Array Value} (h : Hid (TenAt W a b)) (hr : expc 1 tenL zerL k 0 0 5 2 = r) (hL : caseF r ws = (L, 0)) (hn : n = ws.length) (hn2 : n ≤ 1000) (hC : C = (cs u64 ws).toArray) (hb : BlkAt W g C) :
    Calls Try.prog 47 #[.agg #[.int .i64 1, .slice a 168 168, .slice b 168 168], .agg #[.int .i64 k, .int .i64 0, .int .i64 0, .int .i64 5, .int .i64 2], .slice (some ⟨g, 0, none⟩) n n] W (fun e w' => ∃ a c, e = .returned (.tuple #[.slice a L.length c, .int .i64 0]) ∧ Hid (w'.ownsRow W.heap.size 3 1 (.slice a L.length c) L.length (cs i64v L)) ∧ Below W.heap.size W w') := by
  refine (scen_any 1 k 0 0 5 2 tenL zerL ws a 168 168 b 168 168 _ n n W h.out.1 h.out.2 (sl_blk hb hC n hn (by omega)) (by omega)).mono ?_
  rw [hr, hL]
  rintro e w' ⟨v, m, rfl, ho, hb⟩
  obtain ⟨a', c', rfl, s⟩ := sl_of_own ho
  have hm : L.length = m := s.count
  subst hm
  exact ⟨a', c', rfl, ho, hb⟩
theorem scen_1 {W : World} {a b : Option Addr} {g : Nat} (h : Hid (TenAt W a b)) (hb : BlkAt W g #[.int .u64 0, .int .u64 0, .int .u64 0]) :
    Calls Try.prog 47 #[.agg #[.int .i64 1, .slice a 168 168, .slice b 168 168], .agg #[.int .i64 4, .int .i64 0, .int .i64 0, .int .i64 5, .int .i64 2], .slice (some ⟨g, 0, none⟩) 3 3] W (fun e w' => ∃ a c, e = .returned (.tuple #[.slice a 2 c, .int .i64 0]) ∧ Hid (w'.ownsRow W.heap.size 3 1 (.slice a 2 c) 2 (cs i64v [-1, -1])) ∧ Below W.heap.size W w') :=
  scen_of h aw_e4 aw_c1 rfl (by omega) rfl hb
theorem scen_2 {W : World} {a b : Option Addr} {g : Nat} (h : Hid (TenAt W a b)) (hb : BlkAt W g #[.int .u64 499, .int .u64 0, .int .u64 0, .int .u64 0]) :
    Calls Try.prog 47 #[.agg #[.int .i64 1, .slice a 168 168, .slice b 168 168], .agg #[.int .i64 3, .int .i64 0, .int .i64 0, .int .i64 5, .int .i64 2], .slice (some ⟨g, 0, none⟩) 4 4] W (fun e w' => ∃ a c, e = .returned (.tuple #[.slice a 3 c, .int .i64 0]) ∧ Hid (w'.ownsRow W.heap.size 3 1 (.slice a 3 c) 3 (cs i64v [-1, -1, -1])) ∧ Below W.heap.size W w') :=
  scen_of h aw_e3 aw_c2 rfl (by omega) rfl hb
theorem scen_3 {W : World} {a b : Option Addr} {g : Nat} (h : Hid (TenAt W a b)) (hb : BlkAt W g #[.int .u64 500, .int .u64 0, .int .u64 0, .int .u64 0]) :
    Calls Try.prog 47 #[.agg #[.int .i64 1, .slice a 168 168, .slice b 168 168], .agg #[.int .i64 3, .int .i64 0, .int .i64 0, .int .i64 5, .int .i64 2], .slice (some ⟨g, 0, none⟩) 4 4] W (fun e w' => ∃ a c, e = .returned (.tuple #[.slice a 2 c, .int .i64 0]) ∧ Hid (w'.ownsRow W.heap.size 3 1 (.slice a 2 c) 2 (cs i64v [-1, -1])) ∧ Below W.heap.size W w') :=
  scen_of h aw_e3 aw_c3 rfl (by omega) rfl hb
theorem rate_aw (w : World) : Calls Try.prog 41 #[.int .i64 10, .int .i64 4, .int .i64 500] w (fun e w' => e = .returned (.tuple #[.int .i64 2100, .int .i64 0]) ∧ w' = w) := by
  have := rate_any 10 4 500 w
  rw [show rate 10 4 500 = (2100, 0) from by kernel_rfl] at this
  exact this
theorem same40_aw {W : World} {a : Option Addr} {c g : Nat} {B : Nat} (h : W.ownsRow B 3 1 (.slice a 2 c) 2 (cs i64v [-1, -1])) (hb : BlkAt W g #[.int .i64 (-1), .int .i64 (-1)]) :
    Calls Try.prog 49 #[.slice a 2 c, .slice (some ⟨g, 0, none⟩) 2 2] W (RetB (.bool true) W) := by
  obtain ⟨a', c', he, s⟩ := sl_of_own h
  cases he
  have := same40_any [-1, -1] [-1, -1] a _ 2 c 2 2 W s (sl_blk hb rfl 2 rfl (by omega)) (by omega)
  rw [decide_eq_true rfl] at this
  exact this

set_option maxRecDepth 100000 in
set_option maxHeartbeats 40000000 in
theorem awake40_any (w : World) : Calls Try.prog 43 #[] w (RetB (.bool true) w) := by
  go_enter Try.func43, Try.ntmps43
  go_wp2_with fail
  refine (rate_aw _).mono ?_
  rintro er w' ⟨rfl, rfl⟩
  go_wp2_with fail
  have hA : BlkAt (w'.alloc (.cells #[.int .i64 4, .int .i64 0, .int .i64 0, .int .i64 5, .int .i64 2] 59)) w'.heap.size #[.int .i64 4, .int .i64 0, .int .i64 0, .int .i64 5, .int .i64 2] := blkNew rfl
  have HB0 := Lib.hid (below_alloc w' (.cells #[.int .i64 4, .int .i64 0, .int .i64 0, .int .i64 5, .int .i64 2] 59))
  generalize w'.alloc (.cells #[.int .i64 4, .int .i64 0, .int .i64 0, .int .i64 5, .int .i64 2] 59) = W at *
  have HA := Lib.hid hA
  clear hA
  go_cut [4, 5, 6] (fun a b c wx => a = .int .i64 2000 ∧ b = .int .i64 0 ∧ c = .int .i64 0 ∧ Hid (Below W.heap.size W wx))
  case first =>
    obtain ⟨d0, d1, d2, d3, d4, _⟩ := five_cells HA.out
    have hk0 : W.cell? ⟨w'.heap.size, 0, none⟩ = some (.int .i64 4) ∧ W.cell? ⟨w'.heap.size, 1, none⟩ = some (.int .i64 0) ∧ W.cell? ⟨w'.heap.size, 2, none⟩ = some (.int .i64 0) ∧ W.cell? ⟨w'.heap.size, 3, none⟩ = some (.int .i64 5) ∧ W.cell? ⟨w'.heap.size, 4, none⟩ = some (.int .i64 2) ∧ Below W.heap.size W W := ⟨d0, d1, d2, d3, d4, Below.refl _ _⟩
    clear d0 d1 d2 d3 d4
    go_region_held3 (fun w9 => w9.cell? ⟨w'.heap.size, 0, none⟩ = some (.int .i64 4) ∧ w9.cell? ⟨w'.heap.size, 1, none⟩ = some (.int .i64 0) ∧ w9.cell? ⟨w'.heap.size, 2, none⟩ = some (.int .i64 0) ∧ w9.cell? ⟨w'.heap.size, 3, none⟩ = some (.int .i64 5) ∧ w9.cell? ⟨w'.heap.size, 4, none⟩ = some (.int .i64 2) ∧ Below W.heap.size W w9)
      (repeat (with_reducible first | assumption | refine keep6D ?_ | refine keep6A _ ?_ | (apply keep6; focus assumption)))
      (first
        | (go_at_call 60; (with_reducible refine (ten_any _).mono ?_); rintro e w1 ⟨ta, tb, rfl, hT1, hb1⟩)
        | (go_at_call 45; (with_reducible refine (expd_ten ?_).mono ?_); (repeat (first | (with_reducible assumption) | (with_reducible refine tenDrew ?_) | ((with_reducible apply tenBelow); focus (with_reducible assumption)) | (with_reducible refine tenAlloc ?_))); rintro e w1 ⟨rfl, hb1⟩))
    all_goals
      go_wp2_with fail
      go_meet
      exact ⟨rfl, rfl, rfl, by go_split_ands; assumption⟩
  case rest =>
    obtain ⟨rfl, rfl, rfl, hb1⟩ := hcut
    have HA1 := Lib.hid (blkBelow hb1.out HA.out)
    have HB1 := Lib.hid (below_step HB0.out hb1.out)
    clear HA HB0 hb1
    clear W
    have hz := blk_lt HA1.out
    go_wp2_with fail
    go_cut [7, 8] (fun v b wx => ∃ a c, v = .slice a 2 c ∧ b = .int .i64 0 ∧ Hid (wx.ownsRow wc.heap.size 3 1 (.slice a 2 c) 2 (cs i64v [-1, -1])) ∧ Hid (Below wc.heap.size wc wx))
    case first =>
      obtain ⟨d0, d1, d2, d3, d4, _⟩ := five_cells HA1.out
      have hk0 : wc.cell? ⟨w'.heap.size, 0, none⟩ = some (.int .i64 4) ∧ wc.cell? ⟨w'.heap.size, 1, none⟩ = some (.int .i64 0) ∧ wc.cell? ⟨w'.heap.size, 2, none⟩ = some (.int .i64 0) ∧ wc.cell? ⟨w'.heap.size, 3, none⟩ = some (.int .i64 5) ∧ wc.cell? ⟨w'.heap.size, 4, none⟩ = some (.int .i64 2) ∧ Below wc.heap.size wc wc := ⟨d0, d1, d2, d3, d4, Below.refl _ _⟩
      clear d0 d1 d2 d3 d4
      go_region_held3 (fun w9 => w9.cell? ⟨w'.heap.size, 0, none⟩ = some (.int .i64 4) ∧ w9.cell? ⟨w'.heap.size, 1, none⟩ = some (.int .i64 0) ∧ w9.cell? ⟨w'.heap.size, 2, none⟩ = some (.int .i64 0) ∧ w9.cell? ⟨w'.heap.size, 3, none⟩ = some (.int .i64 5) ∧ w9.cell? ⟨w'.heap.size, 4, none⟩ = some (.int .i64 2) ∧ Below wc.heap.size wc w9)
        (repeat (with_reducible first | assumption | refine keep6D ?_ | refine keep6A _ ?_ | (apply keep6; focus assumption)))
        (first
          | (go_at_call 60; (with_reducible refine (ten_any _).mono ?_); rintro e w1 ⟨ta, tb, rfl, hT1, hb1⟩)
          | (go_at_call 47; (with_reducible refine (scen_1 ?_ ?_).mono ?_); (repeat (first | ((with_reducible refine blkNew ?_); focus (simp; done)) | (with_reducible assumption) | (with_reducible refine blkDrew ?_) | ((with_reducible apply blkBelow); focus (with_reducible assumption)) | (with_reducible refine blkOld ?_) | (with_reducible refine tenDrew ?_) | ((with_reducible apply tenBelow); focus (with_reducible assumption)) | (with_reducible refine tenAlloc ?_))); rintro e w2 ⟨sa, sc, rfl, hO, hb2⟩; have hO2 : Hid (w2.ownsRow wc.heap.size _ _ _ _ _) := Lib.hid (ownsRow_mono hO.out (by have := hb1.size; simp at this ⊢; omega))))
      all_goals
        go_wp2_with fail
        go_meet
        exact ⟨_, _, rfl, rfl, (by first | assumption | exact Lib.hid (ownsRow_ext hO2.out (below_drew (Below.refl _ _)))), by go_split_ands; assumption⟩
    case rest =>
      obtain ⟨sa, sc, rfl, rfl, hO, hb⟩ := hcut
      obtain ⟨WB, hWB⟩ : ∃ W, W = wc := ⟨_, rfl⟩
      subst hWB
      have hA2 := blkBelow hb.out HA1.out
      have hB2 := below_step HB1.out hb.out
      obtain ⟨d0, d1, d2, d3, d4, f0⟩ := five_cells hA2
      have hA3 : BlkAt (WB.setCell ⟨w'.heap.size, 0, none⟩ (.int .i64 3)) w'.heap.size #[.int .i64 3, .int .i64 0, .int .i64 0, .int .i64 5, .int .i64 2] := blk_set hA2
      have HA3 := Lib.hid hA3
      have HB3 := Lib.hid (hB2.setCell (p := ⟨w'.heap.size, 0, none⟩) (Nat.le_refl _) (.int .i64 3))
      have HO3 := Lib.hid (own_low (a := ⟨w'.heap.size, 0, none⟩) (u := .int .i64 3) hO.out hz)
      clear hA3 hA2 hB2 hO hb HA1 HB1
      go_wp2_with fail
      clear d0 d1 d2 d3 d4 f0
      generalize WB.setCell ⟨w'.heap.size, 0, none⟩ (.int .i64 3) = WC at *
      go_cut [9, 10] (fun v b wx => ∃ a c, v = .slice a 3 c ∧ b = .int .i64 0 ∧ Hid (Below WC.heap.size WC wx))
      case first =>
        obtain ⟨d0, d1, d2, d3, d4, _⟩ := five_cells HA3.out
        have hk0 : WC.cell? ⟨w'.heap.size, 0, none⟩ = some (.int .i64 3) ∧ WC.cell? ⟨w'.heap.size, 1, none⟩ = some (.int .i64 0) ∧ WC.cell? ⟨w'.heap.size, 2, none⟩ = some (.int .i64 0) ∧ WC.cell? ⟨w'.heap.size, 3, none⟩ = some (.int .i64 5) ∧ WC.cell? ⟨w'.heap.size, 4, none⟩ = some (.int .i64 2) ∧ Below WC.heap.size WC WC := ⟨d0, d1, d2, d3, d4, Below.refl _ _⟩
        clear d0 d1 d2 d3 d4
        go_region_held3 (fun w9 => w9.cell? ⟨w'.heap.size, 0, none⟩ = some (.int .i64 3) ∧ w9.cell? ⟨w'.heap.size, 1, none⟩ = some (.int .i64 0) ∧ w9.cell? ⟨w'.heap.size, 2, none⟩ = some (.int .i64 0) ∧ w9.cell? ⟨w'.heap.size, 3, none⟩ = some (.int .i64 5) ∧ w9.cell? ⟨w'.heap.size, 4, none⟩ = some (.int .i64 2) ∧ Below WC.heap.size WC w9)
          (repeat (with_reducible first | assumption | refine keep6D ?_ | refine keep6A _ ?_ | (apply keep6; focus assumption)))
          (first
            | (go_at_call 60; (with_reducible refine (ten_any _).mono ?_); rintro e w1 ⟨ta, tb, rfl, hT1, hb1⟩)
            | (go_at_call 47; (with_reducible refine (scen_2 ?_ ?_).mono ?_); (repeat (first | ((with_reducible refine blkNew ?_); focus (simp; done)) | (with_reducible assumption) | (with_reducible refine blkDrew ?_) | ((with_reducible apply blkBelow); focus (with_reducible assumption)) | (with_reducible refine blkOld ?_) | (with_reducible refine tenDrew ?_) | ((with_reducible apply tenBelow); focus (with_reducible assumption)) | (with_reducible refine tenAlloc ?_))); rintro e w2 ⟨sa2, sc2, rfl, hO2, hb2⟩))
        all_goals
          go_wp2_with fail
          go_meet
          exact ⟨_, _, rfl, rfl, by go_split_ands; assumption⟩
      case rest =>
        obtain ⟨sa2, sc2, rfl, rfl, hb⟩ := hcut
        have HA4 := Lib.hid (blkBelow hb.out HA3.out)
        have HB4 := Lib.hid (below_step HB3.out hb.out)
        have HO4 := Lib.hid (ownsRow_ext HO3.out hb.out)
        clear HA3 HB3 HO3 hb
        obtain ⟨WC2, hWB⟩ : ∃ W, W = wc := ⟨_, rfl⟩
        subst hWB
        go_wp2_with fail
        go_cut [11, 12] (fun v b wx => ∃ a c, v = .slice a 2 c ∧ b = .int .i64 0 ∧ Hid (Below WC2.heap.size WC2 wx))
        case first =>
          obtain ⟨d0, d1, d2, d3, d4, _⟩ := five_cells HA4.out
          have hk0 : WC2.cell? ⟨w'.heap.size, 0, none⟩ = some (.int .i64 3) ∧ WC2.cell? ⟨w'.heap.size, 1, none⟩ = some (.int .i64 0) ∧ WC2.cell? ⟨w'.heap.size, 2, none⟩ = some (.int .i64 0) ∧ WC2.cell? ⟨w'.heap.size, 3, none⟩ = some (.int .i64 5) ∧ WC2.cell? ⟨w'.heap.size, 4, none⟩ = some (.int .i64 2) ∧ Below WC2.heap.size WC2 WC2 := ⟨d0, d1, d2, d3, d4, Below.refl _ _⟩
          clear d0 d1 d2 d3 d4
          go_region_held3 (fun w9 => w9.cell? ⟨w'.heap.size, 0, none⟩ = some (.int .i64 3) ∧ w9.cell? ⟨w'.heap.size, 1, none⟩ = some (.int .i64 0) ∧ w9.cell? ⟨w'.heap.size, 2, none⟩ = some (.int .i64 0) ∧ w9.cell? ⟨w'.heap.size, 3, none⟩ = some (.int .i64 5) ∧ w9.cell? ⟨w'.heap.size, 4, none⟩ = some (.int .i64 2) ∧ Below WC2.heap.size WC2 w9)
            (repeat (with_reducible first | assumption | refine keep6D ?_ | refine keep6A _ ?_ | (apply keep6; focus assumption)))
            (first
              | (go_at_call 60; (with_reducible refine (ten_any _).mono ?_); rintro e w1 ⟨ta, tb, rfl, hT1, hb1⟩)
              | (go_at_call 47; (with_reducible refine (scen_3 ?_ ?_).mono ?_); (repeat (first | ((with_reducible refine blkNew ?_); focus (simp; done)) | (with_reducible assumption) | (with_reducible refine blkDrew ?_) | ((with_reducible apply blkBelow); focus (with_reducible assumption)) | (with_reducible refine blkOld ?_) | (with_reducible refine tenDrew ?_) | ((with_reducible apply tenBelow); focus (with_reducible assumption)) | (with_reducible refine tenAlloc ?_))); rintro e w2 ⟨sa2, sc2, rfl, hO2, hb2⟩))
          all_goals
            go_wp2_with fail
            go_meet
            exact ⟨_, _, rfl, rfl, by go_split_ands; assumption⟩
        case rest =>
          obtain ⟨sa3, sc3, rfl, rfl, hb⟩ := hcut
          have HB5 := Lib.hid (below_step HB4.out hb.out)
          have HO5 := Lib.hid (ownsRow_ext HO4.out hb.out)
          clear HA4 HB4 HO4 hb
          go_wp2_with fail
          refine (same40_aw (ownsRow_ext HO5.out (below_alloc _ _)) (blkNew rfl)).mono ?_
          rintro e w2 ⟨rfl, hb2⟩
          have HB6 := Lib.hid (below_step (below_step HB5.out (below_alloc _ _)) hb2)
          clear hb2
          go_wp2_with fail
          go_ret
          exact ⟨rfl, HB6.out⟩
end Go.Proofs.Ytfhmhkpplcbiiaa
