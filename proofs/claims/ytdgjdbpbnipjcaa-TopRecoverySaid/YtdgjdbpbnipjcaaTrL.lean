/-
  EVENTS: event.compare, the two comparisons of event.Set. (Printed by gen_trl.py.)
-/
import Derived.Test.YtdgjdbpbnipjcaaTrK
import Derived.BigQuiet
import Derived.BigRegion
import Derived.Laws.StructEq
import Derived.StillTailTactics
import Derived.RegionTactic
import Derived.Deep.DeepCutAuto
import Derived.Deep.QuietTactic
import Derived.Deep.RegionHeld3
import Derived.WalkSpells
import Derived.WalkLawsBesides
namespace Go.Proofs.Ytdgjdbpbnipjcaa
open Go.RowKit Go.Sort
set_option linter.unusedVariables false

theorem lexC_drop (xs ys : List Int) (q : Nat) (h1 : q < xs.length) (h2 : q < ys.length) : lexC (xs.drop q) (ys.drop q) = if cmpI (xs.getD q 0) (ys.getD q 0) = 0 then lexC (xs.drop (q + 1)) (ys.drop (q + 1)) else cmpI (xs.getD q 0) (ys.getD q 0) := by
  rw [List.drop_eq_getElem_cons h1, List.drop_eq_getElem_cons h2]
  simp [lexC, List.getD, h1, h2]
set_option maxRecDepth 100000 in
set_option maxHeartbeats 4000000 in
theorem compare_any (x y : EvL) (w : World) : Calls Try.prog 40 #[.agg (evA x), .agg (evA y)] w (fun e w' => e = .returned (.int .i64 (cmpE x y)) ∧ GrW w w') := by
  have HF : Hid (∀ q, q < 9 → lexC ((keyL x).drop q) ((keyL y).drop q) = if cmpI ((keyL x).getD q 0) ((keyL y).getD q 0) = 0 then lexC ((keyL x).drop (q + 1)) ((keyL y).drop (q + 1)) else cmpI ((keyL x).getD q 0) ((keyL y).getD q 0)) := Lib.hid (fun q hq => lexC_drop _ _ q hq hq)
  have H9 : Hid (lexC ((keyL x).drop 9) ((keyL y).drop 9) = 0) := Lib.hid rfl
  obtain ⟨R, hR⟩ : ∃ R, cmpE x y = R := ⟨_, rfl⟩
  have HR : Hid (lexC ((keyL x).drop 0) ((keyL y).drop 0) = R) := Lib.hid hR
  rw [hR]
  clear hR
  obtain ⟨K1, hK1⟩ : ∃ K, keyL x = K := ⟨_, rfl⟩
  obtain ⟨K2, hK2⟩ : ∃ K, keyL y = K := ⟨_, rfl⟩
  have HL1 : Hid (K1.length = 9) := Lib.hid (by rw [← hK1]; rfl)
  have HL2 : Hid (K2.length = 9) := Lib.hid (by rw [← hK2]; rfl)
  obtain ⟨d, s, a, l, k, b, p, r, e⟩ := x
  obtain ⟨d', s', a', l', k', b', p', r', e'⟩ := y
  dsimp only [evA] at *
  have HB1 : Hid (BlkAt ((((w.alloc (.cells #[.int .i64 d, .int .i64 s, .int .i64 a, .int .i64 l, .int .i64 k, .int .i64 b, .int .i64 p, .int .i64 r, .int .i64 e] 27)).alloc (.cells #[.int .i64 d', .int .i64 s', .int .i64 a', .int .i64 l', .int .i64 k', .int .i64 b', .int .i64 p', .int .i64 r', .int .i64 e'] 27)).alloc (.cells #[.int .i64 a, .int .i64 d, .int .i64 s, .int .i64 l, .int .i64 k, .int .i64 b, .int .i64 p, .int .i64 r, .int .i64 e] 63)).alloc (.cells #[.int .i64 a', .int .i64 d', .int .i64 s', .int .i64 l', .int .i64 k', .int .i64 b', .int .i64 p', .int .i64 r', .int .i64 e'] 63)) (w.heap.size + 2) (cs i64v K1).toArray) := Lib.hid (by rw [← hK1]; exact blkOld (blkNew (by simp)))
  have HB2 : Hid (BlkAt ((((w.alloc (.cells #[.int .i64 d, .int .i64 s, .int .i64 a, .int .i64 l, .int .i64 k, .int .i64 b, .int .i64 p, .int .i64 r, .int .i64 e] 27)).alloc (.cells #[.int .i64 d', .int .i64 s', .int .i64 a', .int .i64 l', .int .i64 k', .int .i64 b', .int .i64 p', .int .i64 r', .int .i64 e'] 27)).alloc (.cells #[.int .i64 a, .int .i64 d, .int .i64 s, .int .i64 l, .int .i64 k, .int .i64 b, .int .i64 p, .int .i64 r, .int .i64 e] 63)).alloc (.cells #[.int .i64 a', .int .i64 d', .int .i64 s', .int .i64 l', .int .i64 k', .int .i64 b', .int .i64 p', .int .i64 r', .int .i64 e'] 63)) (w.heap.size + 3) (cs i64v K2).toArray) := Lib.hid (by rw [← hK2]; exact blkNew (by simp))
  have HG : Hid (GrW w ((((w.alloc (.cells #[.int .i64 d, .int .i64 s, .int .i64 a, .int .i64 l, .int .i64 k, .int .i64 b, .int .i64 p, .int .i64 r, .int .i64 e] 27)).alloc (.cells #[.int .i64 d', .int .i64 s', .int .i64 a', .int .i64 l', .int .i64 k', .int .i64 b', .int .i64 p', .int .i64 r', .int .i64 e'] 27)).alloc (.cells #[.int .i64 a, .int .i64 d, .int .i64 s, .int .i64 l, .int .i64 k, .int .i64 b, .int .i64 p, .int .i64 r, .int .i64 e] 63)).alloc (.cells #[.int .i64 a', .int .i64 d', .int .i64 s', .int .i64 l', .int .i64 k', .int .i64 b', .int .i64 p', .int .i64 r', .int .i64 e'] 63))) := Lib.hid ((((grw_alloc _ _).trans (grw_alloc _ _)).trans (grw_alloc _ _)).trans (grw_alloc _ _))
  rw [hK1, hK2] at HF H9 HR
  clear hK1 hK2
  go_enter Try.func40, Try.ntmps40
  go_upto_region 3 with (fail)
  generalize (((w.alloc (.cells #[.int .i64 d, .int .i64 s, .int .i64 a, .int .i64 l, .int .i64 k, .int .i64 b, .int .i64 p, .int .i64 r, .int .i64 e] 27)).alloc (.cells #[.int .i64 d', .int .i64 s', .int .i64 a', .int .i64 l', .int .i64 k', .int .i64 b', .int .i64 p', .int .i64 r', .int .i64 e'] 27)).alloc (.cells #[.int .i64 a, .int .i64 d, .int .i64 s, .int .i64 l, .int .i64 k, .int .i64 b, .int .i64 p, .int .i64 r, .int .i64 e] 63)).alloc (.cells #[.int .i64 a', .int .i64 d', .int .i64 s', .int .i64 l', .int .i64 k', .int .i64 b', .int .i64 p', .int .i64 r', .int .i64 e'] 63) = W4 at *
  go_wp2
  go_loopw [47] (fun i wr => ∃ q : Nat, q ≤ 9 ∧ i = .int .i64 (q : Int) ∧ Hid (lexC (K1.drop q) (K2.drop q) = R) ∧ ∃ n, wr = W4.drewN n) (fun i _ => 9 - (intOf i).toNat)
  case atStart => exact ⟨0, by omega, rfl, HR, 0, rfl⟩
  case round =>
    obtain ⟨q, hq, rfl, HQ, n, rfl⟩ := hrel
    have hq0 : (0 : Int) ≤ (q : Int) := by omega
    by_cases hq9 : q < 9
    · have hq9' : (q : Int) < 9 := by omega
      have hc1 : (W4.drewN n).cell? ⟨w.heap.size + 2, q, none⟩ = _ := ints_cell HB1.out q (by have := HL1.out; omega)
      have hc2 : (W4.drewN n).cell? ⟨w.heap.size + 3, q, none⟩ = _ := ints_cell HB2.out q (by have := HL2.out; omega)
      have HFQ := Lib.hid (HF.out q hq9)
      have HCM := Lib.hid (fun W => cmpI_any (K1.getD q 0) (K2.getD q 0) W)
      generalize K1.getD q 0 = n1 at *
      generalize K2.getD q 0 = n2 at *
      have HGN := Lib.hid (HG.out.trans (grw_drewN W4 n))
      obtain ⟨W5, hW5⟩ : ∃ W5, W4.drewN n = W5 := ⟨_, rfl⟩
      rw [hW5] at hc1 hc2 HGN ⊢
      have H5 := Lib.hid hW5
      clear hW5
      obtain ⟨C, hC⟩ : ∃ C, cmpI n1 n2 = C := ⟨_, rfl⟩
      rw [hC] at HCM HFQ
      rw [HQ.out] at HFQ
      clear hC HF HB1 HB2
      by_cases hC0 : C = 0
      · subst hC0
        have HQ2 : Hid (lexC (K1.drop (q + 1)) (K2.drop (q + 1)) = R) := Lib.hid (by rw [HFQ.out, if_pos rfl])
        go_wp2
        go_quiet (exact Calls.quiet_of_same (HCM.out _))
        go_wp2
        go_roundw
        case rel => exact ⟨q + 1, by omega, by go_num, HQ2, n + nq, by rw [← H5.out, World.drewN_drewN]⟩
        case measure => simp [intOf]; omega
      · have HR2 : Hid (R = C) := Lib.hid (by rw [HFQ.out, if_neg hC0])
        go_wp2
        go_quiet (exact Calls.quiet_of_same (HCM.out _))
        go_wp2
        have hh := HR2.out
        subst hh
        go_ret
        exact ⟨rfl, HGN.out.trans (grw_drewN _ _)⟩
    · obtain rfl : q = 9 := by omega
      obtain rfl : 0 = R := by rw [← HQ.out, H9.out]
      go_wp2
      go_ret
      exact ⟨rfl, HG.out.trans (grw_drewN _ _)⟩

theorem keepC {w w1 w2 : World} {g : Nat} {x0 x1 x2 x3 x4 x5 x6 x7 x8 y0 y1 y2 y3 y4 y5 y6 y7 y8 : Int} (hb : GrW w1 w2) (h : w1.cell? ⟨g, 0, none⟩ = some (.int .i64 x0) ∧ w1.cell? ⟨g, 1, none⟩ = some (.int .i64 x1) ∧ w1.cell? ⟨g, 2, none⟩ = some (.int .i64 x2) ∧ w1.cell? ⟨g, 3, none⟩ = some (.int .i64 x3) ∧ w1.cell? ⟨g, 4, none⟩ = some (.int .i64 x4) ∧ w1.cell? ⟨g, 5, none⟩ = some (.int .i64 x5) ∧ w1.cell? ⟨g, 6, none⟩ = some (.int .i64 x6) ∧ w1.cell? ⟨g, 7, none⟩ = some (.int .i64 x7) ∧ w1.cell? ⟨g, 8, none⟩ = some (.int .i64 x8) ∧ w1.cell? ⟨g + 1, 0, none⟩ = some (.int .i64 y0) ∧ w1.cell? ⟨g + 1, 1, none⟩ = some (.int .i64 y1) ∧ w1.cell? ⟨g + 1, 2, none⟩ = some (.int .i64 y2) ∧ w1.cell? ⟨g + 1, 3, none⟩ = some (.int .i64 y3) ∧ w1.cell? ⟨g + 1, 4, none⟩ = some (.int .i64 y4) ∧ w1.cell? ⟨g + 1, 5, none⟩ = some (.int .i64 y5) ∧ w1.cell? ⟨g + 1, 6, none⟩ = some (.int .i64 y6) ∧ w1.cell? ⟨g + 1, 7, none⟩ = some (.int .i64 y7) ∧ w1.cell? ⟨g + 1, 8, none⟩ = some (.int .i64 y8) ∧ GrW w w1) : w2.cell? ⟨g, 0, none⟩ = some (.int .i64 x0) ∧ w2.cell? ⟨g, 1, none⟩ = some (.int .i64 x1) ∧ w2.cell? ⟨g, 2, none⟩ = some (.int .i64 x2) ∧ w2.cell? ⟨g, 3, none⟩ = some (.int .i64 x3) ∧ w2.cell? ⟨g, 4, none⟩ = some (.int .i64 x4) ∧ w2.cell? ⟨g, 5, none⟩ = some (.int .i64 x5) ∧ w2.cell? ⟨g, 6, none⟩ = some (.int .i64 x6) ∧ w2.cell? ⟨g, 7, none⟩ = some (.int .i64 x7) ∧ w2.cell? ⟨g, 8, none⟩ = some (.int .i64 x8) ∧ w2.cell? ⟨g + 1, 0, none⟩ = some (.int .i64 y0) ∧ w2.cell? ⟨g + 1, 1, none⟩ = some (.int .i64 y1) ∧ w2.cell? ⟨g + 1, 2, none⟩ = some (.int .i64 y2) ∧ w2.cell? ⟨g + 1, 3, none⟩ = some (.int .i64 y3) ∧ w2.cell? ⟨g + 1, 4, none⟩ = some (.int .i64 y4) ∧ w2.cell? ⟨g + 1, 5, none⟩ = some (.int .i64 y5) ∧ w2.cell? ⟨g + 1, 6, none⟩ = some (.int .i64 y6) ∧ w2.cell? ⟨g + 1, 7, none⟩ = some (.int .i64 y7) ∧ w2.cell? ⟨g + 1, 8, none⟩ = some (.int .i64 y8) ∧ GrW w w2 := by
  obtain ⟨h0, h1, h2, h3, h4, h5, h6, h7, h8, h9, h10, h11, h12, h13, h14, h15, h16, h17, hg⟩ := h
  exact ⟨cell_keep hb.below h0, cell_keep hb.below h1, cell_keep hb.below h2, cell_keep hb.below h3, cell_keep hb.below h4, cell_keep hb.below h5, cell_keep hb.below h6, cell_keep hb.below h7, cell_keep hb.below h8, cell_keep hb.below h9, cell_keep hb.below h10, cell_keep hb.below h11, cell_keep hb.below h12, cell_keep hb.below h13, cell_keep hb.below h14, cell_keep hb.below h15, cell_keep hb.below h16, cell_keep hb.below h17, hg.trans hb⟩
theorem c18 {W : World} {g : Nat} {x0 x1 x2 x3 x4 x5 x6 x7 x8 y0 y1 y2 y3 y4 y5 y6 y7 y8 : Int} (b1 : BlkAt W g #[.int .i64 x0, .int .i64 x1, .int .i64 x2, .int .i64 x3, .int .i64 x4, .int .i64 x5, .int .i64 x6, .int .i64 x7, .int .i64 x8]) (b2 : BlkAt W (g + 1) #[.int .i64 y0, .int .i64 y1, .int .i64 y2, .int .i64 y3, .int .i64 y4, .int .i64 y5, .int .i64 y6, .int .i64 y7, .int .i64 y8]) : W.cell? ⟨g, 0, none⟩ = some (.int .i64 x0) ∧ W.cell? ⟨g, 1, none⟩ = some (.int .i64 x1) ∧ W.cell? ⟨g, 2, none⟩ = some (.int .i64 x2) ∧ W.cell? ⟨g, 3, none⟩ = some (.int .i64 x3) ∧ W.cell? ⟨g, 4, none⟩ = some (.int .i64 x4) ∧ W.cell? ⟨g, 5, none⟩ = some (.int .i64 x5) ∧ W.cell? ⟨g, 6, none⟩ = some (.int .i64 x6) ∧ W.cell? ⟨g, 7, none⟩ = some (.int .i64 x7) ∧ W.cell? ⟨g, 8, none⟩ = some (.int .i64 x8) ∧ W.cell? ⟨g + 1, 0, none⟩ = some (.int .i64 y0) ∧ W.cell? ⟨g + 1, 1, none⟩ = some (.int .i64 y1) ∧ W.cell? ⟨g + 1, 2, none⟩ = some (.int .i64 y2) ∧ W.cell? ⟨g + 1, 3, none⟩ = some (.int .i64 y3) ∧ W.cell? ⟨g + 1, 4, none⟩ = some (.int .i64 y4) ∧ W.cell? ⟨g + 1, 5, none⟩ = some (.int .i64 y5) ∧ W.cell? ⟨g + 1, 6, none⟩ = some (.int .i64 y6) ∧ W.cell? ⟨g + 1, 7, none⟩ = some (.int .i64 y7) ∧ W.cell? ⟨g + 1, 8, none⟩ = some (.int .i64 y8) := by
  obtain ⟨h0, h1, h2, h3, h4, h5, h6, h7, h8⟩ := nine_cellsE b1
  obtain ⟨h9, h10, h11, h12, h13, h14, h15, h16, h17⟩ := nine_cellsE b2
  exact ⟨h0, h1, h2, h3, h4, h5, h6, h7, h8, h9, h10, h11, h12, h13, h14, h15, h16, h17⟩
set_option maxRecDepth 100000 in
set_option maxHeartbeats 4000000 in
theorem set1_any (x y : EvL) (w : World) : Calls Try.prog 37 #[.agg (evA x), .agg (evA y)] w (fun e w' => e = .returned (.int .i64 (cmp1 x y)) ∧ GrW w w') := by
  have HCO := Lib.hid (fun W => compare_any x y W)
  have HC1 := Lib.hid (fun W => cmpI_any x.d y.d W)
  have HC2 := Lib.hid (fun W => cmpI_any x.s y.s W)
  have HR := Lib.hid (cmp1_or x y)
  generalize cmp1 x y = R at *
  generalize cmpE x y = C3 at *
  obtain ⟨x0, x1, x2, x3, x4, x5, x6, x7, x8⟩ := x
  obtain ⟨y0, y1, y2, y3, y4, y5, y6, y7, y8⟩ := y
  dsimp only [evA] at *
  generalize cmpI x0 y0 = C1 at *
  generalize cmpI x1 y1 = C2 at *
  have HB1 : Hid (BlkAt ((w.alloc (.cells #[.int .i64 x0, .int .i64 x1, .int .i64 x2, .int .i64 x3, .int .i64 x4, .int .i64 x5, .int .i64 x6, .int .i64 x7, .int .i64 x8] 27)).alloc (.cells #[.int .i64 y0, .int .i64 y1, .int .i64 y2, .int .i64 y3, .int .i64 y4, .int .i64 y5, .int .i64 y6, .int .i64 y7, .int .i64 y8] 27)) w.heap.size #[.int .i64 x0, .int .i64 x1, .int .i64 x2, .int .i64 x3, .int .i64 x4, .int .i64 x5, .int .i64 x6, .int .i64 x7, .int .i64 x8]) := Lib.hid (blkOld (blkNew rfl))
  have HB2 : Hid (BlkAt ((w.alloc (.cells #[.int .i64 x0, .int .i64 x1, .int .i64 x2, .int .i64 x3, .int .i64 x4, .int .i64 x5, .int .i64 x6, .int .i64 x7, .int .i64 x8] 27)).alloc (.cells #[.int .i64 y0, .int .i64 y1, .int .i64 y2, .int .i64 y3, .int .i64 y4, .int .i64 y5, .int .i64 y6, .int .i64 y7, .int .i64 y8] 27)) (w.heap.size + 1) #[.int .i64 y0, .int .i64 y1, .int .i64 y2, .int .i64 y3, .int .i64 y4, .int .i64 y5, .int .i64 y6, .int .i64 y7, .int .i64 y8]) := Lib.hid (blkNew (by simp))
  have HG : Hid (GrW w ((w.alloc (.cells #[.int .i64 x0, .int .i64 x1, .int .i64 x2, .int .i64 x3, .int .i64 x4, .int .i64 x5, .int .i64 x6, .int .i64 x7, .int .i64 x8] 27)).alloc (.cells #[.int .i64 y0, .int .i64 y1, .int .i64 y2, .int .i64 y3, .int .i64 y4, .int .i64 y5, .int .i64 y6, .int .i64 y7, .int .i64 y8] 27))) := Lib.hid ((grw_alloc _ _).trans (grw_alloc _ _))
  go_enter Try.func37, Try.ntmps37
  go_upto_region 1 with (fail)
  generalize (w.alloc (.cells #[.int .i64 x0, .int .i64 x1, .int .i64 x2, .int .i64 x3, .int .i64 x4, .int .i64 x5, .int .i64 x6, .int .i64 x7, .int .i64 x8] 27)).alloc (.cells #[.int .i64 y0, .int .i64 y1, .int .i64 y2, .int .i64 y3, .int .i64 y4, .int .i64 y5, .int .i64 y6, .int .i64 y7, .int .i64 y8] 27) = W1 at *
  generalize w.heap.size = g at *
  have HS := c18 HB1.out HB2.out
  have hG := HG.out
  obtain ⟨h0, h1, h2, h3, h4, h5, h6, h7, h8, h9, h10, h11, h12, h13, h14, h15, h16, h17⟩ := HS
  go_region_held3 (fun w' => w'.cell? ⟨g, 0, none⟩ = some (.int .i64 x0) ∧ w'.cell? ⟨g, 1, none⟩ = some (.int .i64 x1) ∧ w'.cell? ⟨g, 2, none⟩ = some (.int .i64 x2) ∧ w'.cell? ⟨g, 3, none⟩ = some (.int .i64 x3) ∧ w'.cell? ⟨g, 4, none⟩ = some (.int .i64 x4) ∧ w'.cell? ⟨g, 5, none⟩ = some (.int .i64 x5) ∧ w'.cell? ⟨g, 6, none⟩ = some (.int .i64 x6) ∧ w'.cell? ⟨g, 7, none⟩ = some (.int .i64 x7) ∧ w'.cell? ⟨g, 8, none⟩ = some (.int .i64 x8) ∧ w'.cell? ⟨g + 1, 0, none⟩ = some (.int .i64 y0) ∧ w'.cell? ⟨g + 1, 1, none⟩ = some (.int .i64 y1) ∧ w'.cell? ⟨g + 1, 2, none⟩ = some (.int .i64 y2) ∧ w'.cell? ⟨g + 1, 3, none⟩ = some (.int .i64 y3) ∧ w'.cell? ⟨g + 1, 4, none⟩ = some (.int .i64 y4) ∧ w'.cell? ⟨g + 1, 5, none⟩ = some (.int .i64 y5) ∧ w'.cell? ⟨g + 1, 6, none⟩ = some (.int .i64 y6) ∧ w'.cell? ⟨g + 1, 7, none⟩ = some (.int .i64 y7) ∧ w'.cell? ⟨g + 1, 8, none⟩ = some (.int .i64 y8) ∧ GrW w w')
    (repeat (with_reducible first | assumption | exact ⟨h0, h1, h2, h3, h4, h5, h6, h7, h8, h9, h10, h11, h12, h13, h14, h15, h16, h17, hG⟩ | refine keepC (grw_drew _) ?_ | refine keepC (grw_alloc _ _) ?_ | (apply keepC; focus assumption)))
    (first
      | (go_at_call 39; (with_reducible refine (HC1.out _).mono ?_); rintro e w1 ⟨rfl, rfl⟩)
      | (go_at_call 39; (with_reducible refine (HC2.out _).mono ?_); rintro e w1 ⟨rfl, rfl⟩)
      | (go_at_call 40; (with_reducible refine (HCO.out _).mono ?_); rintro e w1 ⟨rfl, hb1⟩)
      | (go_at_call 38; (with_reducible refine (or3_any (x := C1) (y := C2) (z := C3) _ ?_).mono ?_); (repeat (first | ((with_reducible refine blkNew ?_); focus (simp; done)) | (with_reducible assumption) | (with_reducible refine blkDrew ?_) | (with_reducible refine blkOld ?_))); rintro e w1 ⟨rfl, rfl⟩))
  all_goals (
    rw [HR.out]
    go_wp2
    go_ret
    exact ⟨rfl, by go_split_ands; assumption⟩)
theorem gcell {W : World} {g i : Nat} {v : Value} (h : W.cell? ⟨g, i, none⟩ = some v) (n : Nat) (os : Array Obj) : (grow (W.drewN n) os).cell? ⟨g, i, none⟩ = some v := cell_keep (GrW.below ⟨n, os, rfl⟩) h
theorem c18g {W : World} {g : Nat} {x0 x1 x2 x3 x4 x5 x6 x7 x8 y0 y1 y2 y3 y4 y5 y6 y7 y8 : Int} (b1 : BlkAt W g #[.int .i64 x0, .int .i64 x1, .int .i64 x2, .int .i64 x3, .int .i64 x4, .int .i64 x5, .int .i64 x6, .int .i64 x7, .int .i64 x8]) (b2 : BlkAt W (g + 1) #[.int .i64 y0, .int .i64 y1, .int .i64 y2, .int .i64 y3, .int .i64 y4, .int .i64 y5, .int .i64 y6, .int .i64 y7, .int .i64 y8]) : (∀ n os, (grow (W.drewN n) os).cell? ⟨g, 0, none⟩ = some (.int .i64 x0)) ∧ (∀ n os, (grow (W.drewN n) os).cell? ⟨g, 1, none⟩ = some (.int .i64 x1)) ∧ (∀ n os, (grow (W.drewN n) os).cell? ⟨g, 2, none⟩ = some (.int .i64 x2)) ∧ (∀ n os, (grow (W.drewN n) os).cell? ⟨g, 3, none⟩ = some (.int .i64 x3)) ∧ (∀ n os, (grow (W.drewN n) os).cell? ⟨g, 4, none⟩ = some (.int .i64 x4)) ∧ (∀ n os, (grow (W.drewN n) os).cell? ⟨g, 5, none⟩ = some (.int .i64 x5)) ∧ (∀ n os, (grow (W.drewN n) os).cell? ⟨g, 6, none⟩ = some (.int .i64 x6)) ∧ (∀ n os, (grow (W.drewN n) os).cell? ⟨g, 7, none⟩ = some (.int .i64 x7)) ∧ (∀ n os, (grow (W.drewN n) os).cell? ⟨g, 8, none⟩ = some (.int .i64 x8)) ∧ (∀ n os, (grow (W.drewN n) os).cell? ⟨g + 1, 0, none⟩ = some (.int .i64 y0)) ∧ (∀ n os, (grow (W.drewN n) os).cell? ⟨g + 1, 1, none⟩ = some (.int .i64 y1)) ∧ (∀ n os, (grow (W.drewN n) os).cell? ⟨g + 1, 2, none⟩ = some (.int .i64 y2)) ∧ (∀ n os, (grow (W.drewN n) os).cell? ⟨g + 1, 3, none⟩ = some (.int .i64 y3)) ∧ (∀ n os, (grow (W.drewN n) os).cell? ⟨g + 1, 4, none⟩ = some (.int .i64 y4)) ∧ (∀ n os, (grow (W.drewN n) os).cell? ⟨g + 1, 5, none⟩ = some (.int .i64 y5)) ∧ (∀ n os, (grow (W.drewN n) os).cell? ⟨g + 1, 6, none⟩ = some (.int .i64 y6)) ∧ (∀ n os, (grow (W.drewN n) os).cell? ⟨g + 1, 7, none⟩ = some (.int .i64 y7)) ∧ (∀ n os, (grow (W.drewN n) os).cell? ⟨g + 1, 8, none⟩ = some (.int .i64 y8)) := by
  obtain ⟨h0, h1, h2, h3, h4, h5, h6, h7, h8⟩ := nine_cellsE b1
  obtain ⟨h9, h10, h11, h12, h13, h14, h15, h16, h17⟩ := nine_cellsE b2
  exact ⟨gcell h0, gcell h1, gcell h2, gcell h3, gcell h4, gcell h5, gcell h6, gcell h7, gcell h8, gcell h9, gcell h10, gcell h11, gcell h12, gcell h13, gcell h14, gcell h15, gcell h16, gcell h17⟩
instance : Inhabited EvL := ⟨EvL.zero⟩
def encEv (x : EvL) : List Value := (evA x).toList
theorem laysS (blk off size : Nat) (w : World) : CmpLays Try.prog 37 #[] encEv 9 cmp1 blk off size w := fun _ _ _ _ x y => set1_any x y _
theorem laysC (blk off size : Nat) (w : World) : CmpLays Try.prog 40 #[] encEv 9 cmpE blk off size w := fun _ _ _ _ x y => compare_any x y _
end Go.Proofs.Ytdgjdbpbnipjcaa
