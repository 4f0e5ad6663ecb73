/-
  CUSTODY: why an event has no effect: kinds 4, 5, 6. (Printed by gen_trw.py.)
-/
import Derived.Test.YtdgjdbpbnipjcaaTrW
import Derived.Deep.RegionHeld3
import Derived.BigQuiet
import Derived.BigRegion
import Derived.Laws.StructEq
import Derived.StillTailTactics
import Derived.RegionTactic
import Derived.Deep.DeepCutAuto
import Derived.Deep.QuietTactic
import Derived.WalkSpells
import Derived.WalkLawsBesides
namespace Go.Proofs.Ytdgjdbpbnipjcaa
open Go.RowKit Go.Maps
set_option linter.unusedVariables false

theorem three_cellsT {W : World} {k : Nat} {x0 x1 x2 : Value} (h : BlkAt W k #[x0, x1, x2]) : W.cell? ⟨k, 0, none⟩ = some x0 ∧ W.cell? ⟨k, 1, none⟩ = some x1 ∧ W.cell? ⟨k, 2, none⟩ = some x2 := by
  obtain ⟨E, h⟩ := h
  refine ⟨?_, ?_, ?_⟩ <;> (rw [cell_of_row _ _ _ _ _ _ h]; rfl)
set_option maxRecDepth 100000 in
set_option maxHeartbeats 4000000 in
theorem check_k4 {c : CuP} {B : Nat} {fl : FlL} {N : Nat} {w : World} {σ : StL} (h : CuW c B fl N w σ) (hfm : FlM w fl) (hn : c.n ≤ 1000) (x : EvL) (bn : Nat) (hb : x.b = (bn : Int)) (hbn : bn < c.n) (he : InI x.e) (hk : x.k = 4) :
    Calls Try.prog 30 #[.pointer (some ⟨c.g, 0, none⟩), .agg (evA x)] w (RetB (.int .i64 (checkS fl σ x)) w) := by
  have HCU := Lib.hid h
  have HFM := Lib.hid hfm
  obtain ⟨T, hT⟩ : ∃ T, checkS fl σ x = T := ⟨_, rfl⟩
  have HT := Lib.hid hT
  rw [hT]
  unfold checkS at HT
  clear hT h hfm
  obtain ⟨d, s, a, l, k, b, p, r, e⟩ := x
  dsimp only at hb he hk
  subst hb
  subst hk
  dsimp only [evA, Int.toNat_natCast] at *
  have HE : Hid (BlkAt (w.alloc (.cells #[.int .i64 d, .int .i64 s, .int .i64 a, .int .i64 l, .int .i64 4, .int .i64 (bn : Int), .int .i64 p, .int .i64 r, .int .i64 e] 27)) w.heap.size #[.int .i64 d, .int .i64 s, .int .i64 a, .int .i64 l, .int .i64 4, .int .i64 (bn : Int), .int .i64 p, .int .i64 r, .int .i64 e]) := Lib.hid (blkNew rfl)
  have HB : Hid (Below w.heap.size w (w.alloc (.cells #[.int .i64 d, .int .i64 s, .int .i64 a, .int .i64 l, .int .i64 4, .int .i64 (bn : Int), .int .i64 p, .int .i64 r, .int .i64 e] 27))) := Lib.hid (below_alloc _ _)
  have HSP := Lib.hid (fun W (hb : Below w.heap.size w W) j v => (HCU.out.ext hb).spot bn hbn j v)
  generalize hsp : σ.sp.getD bn SpL.zero = S at *
  obtain ⟨s0, s1, s2, s3⟩ := S
  have hz : (w.alloc (.cells #[.int .i64 d, .int .i64 s, .int .i64 a, .int .i64 l, .int .i64 4, .int .i64 (bn : Int), .int .i64 p, .int .i64 r, .int .i64 e] 27)).heap.size = w.heap.size + 1 := by simp
  have hnn : (bn : Int) < (c.n : Int) := by omega
  have hn0 : (0 : Int) ≤ (bn : Int) := by omega
  clear hsp
  go_enter Try.func30, Try.ntmps30
  go_upto_region 1 with (fail)
  generalize w.alloc (.cells #[.int .i64 d, .int .i64 s, .int .i64 a, .int .i64 l, .int .i64 4, .int .i64 (bn : Int), .int .i64 p, .int .i64 r, .int .i64 e] 27) = W1 at *
  obtain ⟨e0, e1, e2, e3, e4, e5, e6, e7, e8⟩ := nine_cellsE HE.out
  have HCU1 := Lib.hid (HCU.out.ext HB.out)
  obtain ⟨d4, d5, d6, d7⟩ := HCU1.out.cells
  obtain ⟨lg, ls⟩ := HCU1.out.lts
  have lw : w.heap.size < W1.heap.size := by omega
  have HZ := Lib.hid hz
  clear hz
  have q0 : W1.cell? ⟨c.sg, bn * 4, none⟩ = some (.int .i64 s0) := HSP.out W1 HB.out 0 _ rfl
  have q1 : W1.cell? ⟨c.sg, bn * 4 + 1, none⟩ = some (.int .i64 s1) := HSP.out W1 HB.out 1 _ rfl
  have q2 : W1.cell? ⟨c.sg, bn * 4 + 2, none⟩ = some (.int .i64 s2) := HSP.out W1 HB.out 2 _ rfl
  have q3 : W1.cell? ⟨c.sg, bn * 4 + 3, none⟩ = some (.bool s3) := HSP.out W1 HB.out 3 _ rfl
  have HK2 : Hid (ChkW w c B fl N σ #[.int .i64 d, .int .i64 s, .int .i64 a, .int .i64 l, .int .i64 4, .int .i64 (bn : Int), .int .i64 p, .int .i64 r, .int .i64 e] #[.int .i64 s0, .int .i64 s1, .int .i64 s2, .bool s3] (W1.alloc (.cells #[.int .i64 s0, .int .i64 s1, .int .i64 s2, .bool s3] 60)).drew) := Lib.hid ⟨blkDrew (blkOld HE.out), blkDrew (blkNew HZ.out.symm), (HCU1.out.ext (below_alloc _ _)).ext (below_drew (Below.refl _ _)), ((HFM.out.below HB.out).below (below_alloc _ _)).below (below_drew (Below.refl _ _)), below_step HB.out (below_drew (below_alloc _ _))⟩
  have HSZ : Hid (W1.heap.size = w.heap.size + 1) := HZ
  go_region
  rw [HSZ.out]
  clear e0 e1 e2 e3 e4 e5 e6 e7 e8 d4 d5 d6 d7 lg ls lw q0 q1 q2 q3 HE HB HCU1 HSP HCU HZ HSZ hnn hn0
  generalize (W1.alloc (.cells #[.int .i64 s0, .int .i64 s1, .int .i64 s2, .bool s3] 60)).drew = W2 at *
  obtain ⟨V, hlk, hV⟩ := HK2.out.cu.lookO e he
  have HV := Lib.hid hV
  have hlk' : ∀ n, (Instr.lookup 55 (.map (some c.bo)) (.int .i64 e) false).run Try.prog (W2.drewN n) = .ok V (W2.drewN n) := fun n => hlk _ (below_drewN (Below.refl _ _) n)
  obtain ⟨d4, d5, d6, d7⟩ := HK2.out.cu.cells
  obtain ⟨e0, e1, e2, e3, e4, e5, e6, e7, e8⟩ := nine_cellsE HK2.out.e
  clear hlk hV
  go_upto_region 2 with (fail)
  go_quiet (fail)
  have HB3 : Hid (Below W2.heap.size W2 (W2.drewN nq)) := Lib.hid (below_drewN (Below.refl _ _) nq)
  have HK0 := Lib.hid (HK2.out.ext HB3.out)
  clear hlk' d4 d5 d6 d7 e0 e1 e2 e3 e4 e5 e6 e7 e8 HK2
  generalize W2.drewN nq = W3 at *
  have HPK := Lib.hid (fun W => parked_any ⟨s0, s1, s2, s3⟩ W)
  dsimp only [spA] at HPK
  obtain ⟨a0, a1, a2, a3⟩ := four_cells HK0.out.x
  obtain ⟨e0, e1, e2, e3, e4, e5, e6, e7, e8⟩ := nine_cellsE HK0.out.e
  obtain ⟨P, hP⟩ : ∃ P, parkedB ⟨s0, s1, s2, s3⟩ = P := ⟨_, rfl⟩
  rw [hP] at HT HPK
  clear hP
  have HT0 : Hid ((match σ.o e with | none => (7 : Int) | some t => if P = false then 23 else refS t.z 12) = T) := Lib.hid (by rw [← HT.out]; rfl)
  clear HT
  rcases HV.out with ⟨ho, hV⟩ | ⟨q, t, ho, hbq, hV⟩
  · subst hV
    have HT1 : Hid (T = 7) := Lib.hid (by rw [← HT0.out, ho])
    go_wp2_with fail
    have hh := HT1.out
    subst hh
    go_ret
    exact ⟨rfl, HK0.out.bel⟩
  · subst hV
    have HBQ : Hid (BlkAt W3 q (tpA t)) := Lib.hid (hbq W3 HB3.out)
    have HT2 : Hid ((if P = false then 23 else refS t.z 12) = T) := Lib.hid (by rw [← HT0.out, ho])
    obtain ⟨tr, tb, tz⟩ := t
    dsimp only [tpA] at HBQ
    clear ho hbq HT0
    go_wp2_with fail
    refine (HPK.out _).mono ?_
    rintro e' w1 ⟨rfl, hb⟩
    have HK1 := Lib.hid (HK0.out.ext hb)
    obtain ⟨b0, b1, b2⟩ := three_cellsT (blkBelow hb HBQ.out)
    clear hb
    clear a0 a1 a2 a3 e0 e1 e2 e3 e4 e5 e6 e7 e8
    obtain ⟨a0, a1, a2, a3⟩ := four_cells HK1.out.x
    obtain ⟨e0, e1, e2, e3, e4, e5, e6, e7, e8⟩ := nine_cellsE HK1.out.e
    cases P with
    | false =>
      have HT1 : Hid (T = 23) := Lib.hid (by rw [← HT2.out]; rfl)
      go_wp2_with fail
      have hh := HT1.out
      subst hh
      go_ret
      exact ⟨rfl, HK1.out.bel⟩
    | true =>
      have HT1 : Hid (T = refS tz 12) := Lib.hid (by rw [← HT2.out]; rfl)
      go_wp2_with fail
      refine (ref_any _ _ _).mono ?_
      rintro e' w9 ⟨rfl, rfl⟩
      go_wp2_with fail
      have hh := HT1.out
      subst hh
      go_ret
      exact ⟨rfl, HK1.out.bel⟩
set_option maxRecDepth 100000 in
set_option maxHeartbeats 4000000 in
theorem check_k5 {c : CuP} {B : Nat} {fl : FlL} {N : Nat} {w : World} {σ : StL} (h : CuW c B fl N w σ) (hfm : FlM w fl) (hn : c.n ≤ 1000) (x : EvL) (bn : Nat) (hb : x.b = (bn : Int)) (hbn : bn < c.n) (he : InI x.e) (hk : x.k = 5) :
    Calls Try.prog 30 #[.pointer (some ⟨c.g, 0, none⟩), .agg (evA x)] w (RetB (.int .i64 (checkS fl σ x)) w) := by
  have HCU := Lib.hid h
  have HFM := Lib.hid hfm
  obtain ⟨T, hT⟩ : ∃ T, checkS fl σ x = T := ⟨_, rfl⟩
  have HT := Lib.hid hT
  rw [hT]
  unfold checkS at HT
  clear hT h hfm
  obtain ⟨d, s, a, l, k, b, p, r, e⟩ := x
  dsimp only at hb he hk
  subst hb
  subst hk
  dsimp only [evA, Int.toNat_natCast] at *
  have HE : Hid (BlkAt (w.alloc (.cells #[.int .i64 d, .int .i64 s, .int .i64 a, .int .i64 l, .int .i64 5, .int .i64 (bn : Int), .int .i64 p, .int .i64 r, .int .i64 e] 27)) w.heap.size #[.int .i64 d, .int .i64 s, .int .i64 a, .int .i64 l, .int .i64 5, .int .i64 (bn : Int), .int .i64 p, .int .i64 r, .int .i64 e]) := Lib.hid (blkNew rfl)
  have HB : Hid (Below w.heap.size w (w.alloc (.cells #[.int .i64 d, .int .i64 s, .int .i64 a, .int .i64 l, .int .i64 5, .int .i64 (bn : Int), .int .i64 p, .int .i64 r, .int .i64 e] 27))) := Lib.hid (below_alloc _ _)
  have HSP := Lib.hid (fun W (hb : Below w.heap.size w W) j v => (HCU.out.ext hb).spot bn hbn j v)
  generalize hsp : σ.sp.getD bn SpL.zero = S at *
  obtain ⟨s0, s1, s2, s3⟩ := S
  have hz : (w.alloc (.cells #[.int .i64 d, .int .i64 s, .int .i64 a, .int .i64 l, .int .i64 5, .int .i64 (bn : Int), .int .i64 p, .int .i64 r, .int .i64 e] 27)).heap.size = w.heap.size + 1 := by simp
  have hnn : (bn : Int) < (c.n : Int) := by omega
  have hn0 : (0 : Int) ≤ (bn : Int) := by omega
  clear hsp
  go_enter Try.func30, Try.ntmps30
  go_upto_region 1 with (fail)
  generalize w.alloc (.cells #[.int .i64 d, .int .i64 s, .int .i64 a, .int .i64 l, .int .i64 5, .int .i64 (bn : Int), .int .i64 p, .int .i64 r, .int .i64 e] 27) = W1 at *
  obtain ⟨e0, e1, e2, e3, e4, e5, e6, e7, e8⟩ := nine_cellsE HE.out
  have HCU1 := Lib.hid (HCU.out.ext HB.out)
  obtain ⟨d4, d5, d6, d7⟩ := HCU1.out.cells
  obtain ⟨lg, ls⟩ := HCU1.out.lts
  have lw : w.heap.size < W1.heap.size := by omega
  have HZ := Lib.hid hz
  clear hz
  have q0 : W1.cell? ⟨c.sg, bn * 4, none⟩ = some (.int .i64 s0) := HSP.out W1 HB.out 0 _ rfl
  have q1 : W1.cell? ⟨c.sg, bn * 4 + 1, none⟩ = some (.int .i64 s1) := HSP.out W1 HB.out 1 _ rfl
  have q2 : W1.cell? ⟨c.sg, bn * 4 + 2, none⟩ = some (.int .i64 s2) := HSP.out W1 HB.out 2 _ rfl
  have q3 : W1.cell? ⟨c.sg, bn * 4 + 3, none⟩ = some (.bool s3) := HSP.out W1 HB.out 3 _ rfl
  have HK2 : Hid (ChkW w c B fl N σ #[.int .i64 d, .int .i64 s, .int .i64 a, .int .i64 l, .int .i64 5, .int .i64 (bn : Int), .int .i64 p, .int .i64 r, .int .i64 e] #[.int .i64 s0, .int .i64 s1, .int .i64 s2, .bool s3] (W1.alloc (.cells #[.int .i64 s0, .int .i64 s1, .int .i64 s2, .bool s3] 60)).drew) := Lib.hid ⟨blkDrew (blkOld HE.out), blkDrew (blkNew HZ.out.symm), (HCU1.out.ext (below_alloc _ _)).ext (below_drew (Below.refl _ _)), ((HFM.out.below HB.out).below (below_alloc _ _)).below (below_drew (Below.refl _ _)), below_step HB.out (below_drew (below_alloc _ _))⟩
  have HSZ : Hid (W1.heap.size = w.heap.size + 1) := HZ
  go_region
  rw [HSZ.out]
  clear e0 e1 e2 e3 e4 e5 e6 e7 e8 d4 d5 d6 d7 lg ls lw q0 q1 q2 q3 HE HB HCU1 HSP HCU HZ HSZ hnn hn0
  generalize (W1.alloc (.cells #[.int .i64 s0, .int .i64 s1, .int .i64 s2, .bool s3] 60)).drew = W2 at *
  obtain ⟨V, hlk, hV⟩ := HK2.out.cu.lookO e he
  have HV := Lib.hid hV
  have hlk' : ∀ n, (Instr.lookup 55 (.map (some c.bo)) (.int .i64 e) false).run Try.prog (W2.drewN n) = .ok V (W2.drewN n) := fun n => hlk _ (below_drewN (Below.refl _ _) n)
  obtain ⟨d4, d5, d6, d7⟩ := HK2.out.cu.cells
  obtain ⟨e0, e1, e2, e3, e4, e5, e6, e7, e8⟩ := nine_cellsE HK2.out.e
  clear hlk hV
  go_upto_region 2 with (fail)
  go_quiet (fail)
  have HB3 : Hid (Below W2.heap.size W2 (W2.drewN nq)) := Lib.hid (below_drewN (Below.refl _ _) nq)
  have HK0 := Lib.hid (HK2.out.ext HB3.out)
  clear hlk' d4 d5 d6 d7 e0 e1 e2 e3 e4 e5 e6 e7 e8 HK2
  generalize W2.drewN nq = W3 at *
  have HPK := Lib.hid (fun W => parked_any ⟨s0, s1, s2, s3⟩ W)
  dsimp only [spA] at HPK
  obtain ⟨a0, a1, a2, a3⟩ := four_cells HK0.out.x
  obtain ⟨e0, e1, e2, e3, e4, e5, e6, e7, e8⟩ := nine_cellsE HK0.out.e
  by_cases h3 : s0 = 3
  · subst h3
    cases s3 with
    | true =>
      have HT1 : Hid (T = refS true 12) := Lib.hid (by rw [← HT.out]; rfl)
      go_wp2_with fail
      refine (ref_any _ _ _).mono ?_
      rintro e' w9 ⟨rfl, rfl⟩
      go_wp2_with fail
      have hh := HT1.out
      subst hh
      go_ret
      exact ⟨rfl, HK0.out.bel⟩
    | false =>
      have HT1 : Hid (T = refS false 12) := Lib.hid (by rw [← HT.out]; rfl)
      go_wp2_with fail
      refine (ref_any _ _ _).mono ?_
      rintro e' w9 ⟨rfl, rfl⟩
      go_wp2_with fail
      have hh := HT1.out
      subst hh
      go_ret
      exact ⟨rfl, HK0.out.bel⟩
  · have HT1 : Hid (T = 23) := Lib.hid (by rw [← HT.out]; exact if_pos h3)
    go_wp2_with fail
    have hh := HT1.out
    subst hh
    go_ret
    exact ⟨rfl, HK0.out.bel⟩
set_option maxRecDepth 100000 in
set_option maxHeartbeats 4000000 in
theorem check_k6 {c : CuP} {B : Nat} {fl : FlL} {N : Nat} {w : World} {σ : StL} (h : CuW c B fl N w σ) (hfm : FlM w fl) (hn : c.n ≤ 1000) (x : EvL) (bn : Nat) (hb : x.b = (bn : Int)) (hbn : bn < c.n) (he : InI x.e) (hk : x.k = 6) :
    Calls Try.prog 30 #[.pointer (some ⟨c.g, 0, none⟩), .agg (evA x)] w (RetB (.int .i64 (checkS fl σ x)) w) := by
  have HCU := Lib.hid h
  have HFM := Lib.hid hfm
  obtain ⟨T, hT⟩ : ∃ T, checkS fl σ x = T := ⟨_, rfl⟩
  have HT := Lib.hid hT
  rw [hT]
  unfold checkS at HT
  clear hT h hfm
  obtain ⟨d, s, a, l, k, b, p, r, e⟩ := x
  dsimp only at hb he hk
  subst hb
  subst hk
  dsimp only [evA, Int.toNat_natCast] at *
  have HE : Hid (BlkAt (w.alloc (.cells #[.int .i64 d, .int .i64 s, .int .i64 a, .int .i64 l, .int .i64 6, .int .i64 (bn : Int), .int .i64 p, .int .i64 r, .int .i64 e] 27)) w.heap.size #[.int .i64 d, .int .i64 s, .int .i64 a, .int .i64 l, .int .i64 6, .int .i64 (bn : Int), .int .i64 p, .int .i64 r, .int .i64 e]) := Lib.hid (blkNew rfl)
  have HB : Hid (Below w.heap.size w (w.alloc (.cells #[.int .i64 d, .int .i64 s, .int .i64 a, .int .i64 l, .int .i64 6, .int .i64 (bn : Int), .int .i64 p, .int .i64 r, .int .i64 e] 27))) := Lib.hid (below_alloc _ _)
  have HSP := Lib.hid (fun W (hb : Below w.heap.size w W) j v => (HCU.out.ext hb).spot bn hbn j v)
  generalize hsp : σ.sp.getD bn SpL.zero = S at *
  obtain ⟨s0, s1, s2, s3⟩ := S
  have hz : (w.alloc (.cells #[.int .i64 d, .int .i64 s, .int .i64 a, .int .i64 l, .int .i64 6, .int .i64 (bn : Int), .int .i64 p, .int .i64 r, .int .i64 e] 27)).heap.size = w.heap.size + 1 := by simp
  have hnn : (bn : Int) < (c.n : Int) := by omega
  have hn0 : (0 : Int) ≤ (bn : Int) := by omega
  clear hsp
  go_enter Try.func30, Try.ntmps30
  go_upto_region 1 with (fail)
  generalize w.alloc (.cells #[.int .i64 d, .int .i64 s, .int .i64 a, .int .i64 l, .int .i64 6, .int .i64 (bn : Int), .int .i64 p, .int .i64 r, .int .i64 e] 27) = W1 at *
  obtain ⟨e0, e1, e2, e3, e4, e5, e6, e7, e8⟩ := nine_cellsE HE.out
  have HCU1 := Lib.hid (HCU.out.ext HB.out)
  obtain ⟨d4, d5, d6, d7⟩ := HCU1.out.cells
  obtain ⟨lg, ls⟩ := HCU1.out.lts
  have lw : w.heap.size < W1.heap.size := by omega
  have HZ := Lib.hid hz
  clear hz
  have q0 : W1.cell? ⟨c.sg, bn * 4, none⟩ = some (.int .i64 s0) := HSP.out W1 HB.out 0 _ rfl
  have q1 : W1.cell? ⟨c.sg, bn * 4 + 1, none⟩ = some (.int .i64 s1) := HSP.out W1 HB.out 1 _ rfl
  have q2 : W1.cell? ⟨c.sg, bn * 4 + 2, none⟩ = some (.int .i64 s2) := HSP.out W1 HB.out 2 _ rfl
  have q3 : W1.cell? ⟨c.sg, bn * 4 + 3, none⟩ = some (.bool s3) := HSP.out W1 HB.out 3 _ rfl
  have HK2 : Hid (ChkW w c B fl N σ #[.int .i64 d, .int .i64 s, .int .i64 a, .int .i64 l, .int .i64 6, .int .i64 (bn : Int), .int .i64 p, .int .i64 r, .int .i64 e] #[.int .i64 s0, .int .i64 s1, .int .i64 s2, .bool s3] (W1.alloc (.cells #[.int .i64 s0, .int .i64 s1, .int .i64 s2, .bool s3] 60)).drew) := Lib.hid ⟨blkDrew (blkOld HE.out), blkDrew (blkNew HZ.out.symm), (HCU1.out.ext (below_alloc _ _)).ext (below_drew (Below.refl _ _)), ((HFM.out.below HB.out).below (below_alloc _ _)).below (below_drew (Below.refl _ _)), below_step HB.out (below_drew (below_alloc _ _))⟩
  have HSZ : Hid (W1.heap.size = w.heap.size + 1) := HZ
  go_region
  rw [HSZ.out]
  clear e0 e1 e2 e3 e4 e5 e6 e7 e8 d4 d5 d6 d7 lg ls lw q0 q1 q2 q3 HE HB HCU1 HSP HCU HZ HSZ hnn hn0
  generalize (W1.alloc (.cells #[.int .i64 s0, .int .i64 s1, .int .i64 s2, .bool s3] 60)).drew = W2 at *
  obtain ⟨V, hlk, hV⟩ := HK2.out.cu.lookO e he
  have HV := Lib.hid hV
  have hlk' : ∀ n, (Instr.lookup 55 (.map (some c.bo)) (.int .i64 e) false).run Try.prog (W2.drewN n) = .ok V (W2.drewN n) := fun n => hlk _ (below_drewN (Below.refl _ _) n)
  obtain ⟨d4, d5, d6, d7⟩ := HK2.out.cu.cells
  obtain ⟨e0, e1, e2, e3, e4, e5, e6, e7, e8⟩ := nine_cellsE HK2.out.e
  clear hlk hV
  go_upto_region 2 with (fail)
  go_quiet (fail)
  have HB3 : Hid (Below W2.heap.size W2 (W2.drewN nq)) := Lib.hid (below_drewN (Below.refl _ _) nq)
  have HK0 := Lib.hid (HK2.out.ext HB3.out)
  clear hlk' d4 d5 d6 d7 e0 e1 e2 e3 e4 e5 e6 e7 e8 HK2
  generalize W2.drewN nq = W3 at *
  have HPK := Lib.hid (fun W => parked_any ⟨s0, s1, s2, s3⟩ W)
  dsimp only [spA] at HPK
  obtain ⟨a0, a1, a2, a3⟩ := four_cells HK0.out.x
  obtain ⟨e0, e1, e2, e3, e4, e5, e6, e7, e8⟩ := nine_cellsE HK0.out.e
  by_cases h3 : s0 = 3
  · subst h3
    cases s3 with
    | true =>
      have HT1 : Hid (T = refS false 12) := Lib.hid (by rw [← HT.out]; rfl)
      go_wp2_with fail
      refine (ref_any _ _ _).mono ?_
      rintro e' w9 ⟨rfl, rfl⟩
      go_wp2_with fail
      have hh := HT1.out
      subst hh
      go_ret
      exact ⟨rfl, HK0.out.bel⟩
    | false =>
      have HT1 : Hid (T = refS true 12) := Lib.hid (by rw [← HT.out]; rfl)
      go_wp2_with fail
      refine (ref_any _ _ _).mono ?_
      rintro e' w9 ⟨rfl, rfl⟩
      go_wp2_with fail
      have hh := HT1.out
      subst hh
      go_ret
      exact ⟨rfl, HK0.out.bel⟩
  · have HT1 : Hid (T = 23) := Lib.hid (by rw [← HT.out]; exact if_pos h3)
    go_wp2_with fail
    have hh := HT1.out
    subst hh
    go_ret
    exact ⟨rfl, HK0.out.bel⟩
end Go.Proofs.Ytdgjdbpbnipjcaa
