/-
  CUSTODY: why an event has no effect: kinds 1, 2, 3. (Printed by gen_trw.py.)
-/
import Derived.Test.YtdgjdbpbnipjcaaTrW
import Derived.Deep.RegionHeld3
import Derived.BigQuiet
import Derived.BigRegion
import Derived.Laws.StructEq
import Derived.StillTailTactics
import Derived.RegionTactic
import Derived.Deep.DeepCutAuto
import Derived.Deep.QuietTactic
import Derived.WalkSpells
import Derived.WalkLawsBesides
namespace Go.Proofs.Ytdgjdbpbnipjcaa
open Go.RowKit Go.Maps
set_option linter.unusedVariables false

set_option maxRecDepth 100000 in
set_option maxHeartbeats 4000000 in
theorem check_k1 {c : CuP} {B : Nat} {fl : FlL} {N : Nat} {w : World} {σ : StL} (h : CuW c B fl N w σ) (hfm : FlM w fl) (hn : c.n ≤ 1000) (x : EvL) (bn : Nat) (hb : x.b = (bn : Int)) (hbn : bn < c.n) (he : InI x.e) (hk : x.k = 1) :
    Calls Try.prog 30 #[.pointer (some ⟨c.g, 0, none⟩), .agg (evA x)] w (RetB (.int .i64 (checkS fl σ x)) w) := by
  have HCU := Lib.hid h
  have HFM := Lib.hid hfm
  obtain ⟨T, hT⟩ : ∃ T, checkS fl σ x = T := ⟨_, rfl⟩
  have HT := Lib.hid hT
  rw [hT]
  unfold checkS at HT
  clear hT h hfm
  obtain ⟨d, s, a, l, k, b, p, r, e⟩ := x
  dsimp only at hb he hk
  subst hb
  subst hk
  dsimp only [evA, Int.toNat_natCast] at *
  have HE : Hid (BlkAt (w.alloc (.cells #[.int .i64 d, .int .i64 s, .int .i64 a, .int .i64 l, .int .i64 1, .int .i64 (bn : Int), .int .i64 p, .int .i64 r, .int .i64 e] 27)) w.heap.size #[.int .i64 d, .int .i64 s, .int .i64 a, .int .i64 l, .int .i64 1, .int .i64 (bn : Int), .int .i64 p, .int .i64 r, .int .i64 e]) := Lib.hid (blkNew rfl)
  have HB : Hid (Below w.heap.size w (w.alloc (.cells #[.int .i64 d, .int .i64 s, .int .i64 a, .int .i64 l, .int .i64 1, .int .i64 (bn : Int), .int .i64 p, .int .i64 r, .int .i64 e] 27))) := Lib.hid (below_alloc _ _)
  have HSP := Lib.hid (fun W (hb : Below w.heap.size w W) j v => (HCU.out.ext hb).spot bn hbn j v)
  generalize hsp : σ.sp.getD bn SpL.zero = S at *
  obtain ⟨s0, s1, s2, s3⟩ := S
  have hz : (w.alloc (.cells #[.int .i64 d, .int .i64 s, .int .i64 a, .int .i64 l, .int .i64 1, .int .i64 (bn : Int), .int .i64 p, .int .i64 r, .int .i64 e] 27)).heap.size = w.heap.size + 1 := by simp
  have hnn : (bn : Int) < (c.n : Int) := by omega
  have hn0 : (0 : Int) ≤ (bn : Int) := by omega
  clear hsp
  go_enter Try.func30, Try.ntmps30
  go_upto_region 1 with (fail)
  generalize w.alloc (.cells #[.int .i64 d, .int .i64 s, .int .i64 a, .int .i64 l, .int .i64 1, .int .i64 (bn : Int), .int .i64 p, .int .i64 r, .int .i64 e] 27) = W1 at *
  obtain ⟨e0, e1, e2, e3, e4, e5, e6, e7, e8⟩ := nine_cellsE HE.out
  have HCU1 := Lib.hid (HCU.out.ext HB.out)
  obtain ⟨d4, d5, d6, d7⟩ := HCU1.out.cells
  obtain ⟨lg, ls⟩ := HCU1.out.lts
  have lw : w.heap.size < W1.heap.size := by omega
  have HZ := Lib.hid hz
  clear hz
  have q0 : W1.cell? ⟨c.sg, bn * 4, none⟩ = some (.int .i64 s0) := HSP.out W1 HB.out 0 _ rfl
  have q1 : W1.cell? ⟨c.sg, bn * 4 + 1, none⟩ = some (.int .i64 s1) := HSP.out W1 HB.out 1 _ rfl
  have q2 : W1.cell? ⟨c.sg, bn * 4 + 2, none⟩ = some (.int .i64 s2) := HSP.out W1 HB.out 2 _ rfl
  have q3 : W1.cell? ⟨c.sg, bn * 4 + 3, none⟩ = some (.bool s3) := HSP.out W1 HB.out 3 _ rfl
  have HK2 : Hid (ChkW w c B fl N σ #[.int .i64 d, .int .i64 s, .int .i64 a, .int .i64 l, .int .i64 1, .int .i64 (bn : Int), .int .i64 p, .int .i64 r, .int .i64 e] #[.int .i64 s0, .int .i64 s1, .int .i64 s2, .bool s3] (W1.alloc (.cells #[.int .i64 s0, .int .i64 s1, .int .i64 s2, .bool s3] 60)).drew) := Lib.hid ⟨blkDrew (blkOld HE.out), blkDrew (blkNew HZ.out.symm), (HCU1.out.ext (below_alloc _ _)).ext (below_drew (Below.refl _ _)), ((HFM.out.below HB.out).below (below_alloc _ _)).below (below_drew (Below.refl _ _)), below_step HB.out (below_drew (below_alloc _ _))⟩
  have HSZ : Hid (W1.heap.size = w.heap.size + 1) := HZ
  go_region
  rw [HSZ.out]
  clear e0 e1 e2 e3 e4 e5 e6 e7 e8 d4 d5 d6 d7 lg ls lw q0 q1 q2 q3 HE HB HCU1 HSP HCU HZ HSZ hnn hn0
  generalize (W1.alloc (.cells #[.int .i64 s0, .int .i64 s1, .int .i64 s2, .bool s3] 60)).drew = W2 at *
  obtain ⟨V, hlk, hV⟩ := HK2.out.cu.lookO e he
  have HV := Lib.hid hV
  have hlk' : ∀ n, (Instr.lookup 55 (.map (some c.bo)) (.int .i64 e) false).run Try.prog (W2.drewN n) = .ok V (W2.drewN n) := fun n => hlk _ (below_drewN (Below.refl _ _) n)
  obtain ⟨d4, d5, d6, d7⟩ := HK2.out.cu.cells
  obtain ⟨e0, e1, e2, e3, e4, e5, e6, e7, e8⟩ := nine_cellsE HK2.out.e
  clear hlk hV
  go_upto_region 2 with (fail)
  go_quiet (fail)
  have HB3 : Hid (Below W2.heap.size W2 (W2.drewN nq)) := Lib.hid (below_drewN (Below.refl _ _) nq)
  have HK0 := Lib.hid (HK2.out.ext HB3.out)
  clear hlk' d4 d5 d6 d7 e0 e1 e2 e3 e4 e5 e6 e7 e8 HK2
  generalize W2.drewN nq = W3 at *
  have HPK := Lib.hid (fun W => parked_any ⟨s0, s1, s2, s3⟩ W)
  dsimp only [spA] at HPK
  obtain ⟨a0, a1, a2, a3⟩ := four_cells HK0.out.x
  obtain ⟨e0, e1, e2, e3, e4, e5, e6, e7, e8⟩ := nine_cellsE HK0.out.e
  obtain ⟨P, hP⟩ : ∃ P, parkedB ⟨s0, s1, s2, s3⟩ = P := ⟨_, rfl⟩
  rw [hP] at HT HPK
  clear hP
  have HCN := Lib.hid (fun W (h : CuW c B fl N W σ) => count_any h hn 1 p)
  have HT0 : Hid ((if P = true then 23 else if 0 < countN σ.sp 1 p then 22 else 0) = T) := Lib.hid (by rw [← HT.out]; rfl)
  generalize countN σ.sp 1 p = C at *
  have hC0 : (0 : Int) ≤ (C : Int) := by omega
  clear HT
  go_wp2_with fail
  refine (HPK.out _).mono ?_
  rintro e' w1 ⟨rfl, hb⟩
  have HK1 := Lib.hid (HK0.out.ext hb)
  clear hb
  clear a0 a1 a2 a3 e0 e1 e2 e3 e4 e5 e6 e7 e8
  obtain ⟨a0, a1, a2, a3⟩ := four_cells HK1.out.x
  obtain ⟨e0, e1, e2, e3, e4, e5, e6, e7, e8⟩ := nine_cellsE HK1.out.e
  cases P with
  | true =>
    have HT1 : Hid (T = 23) := Lib.hid (by rw [← HT0.out]; rfl)
    go_wp2_with fail
    refine (HPK.out _).mono ?_
    rintro e' w2 ⟨rfl, hb⟩
    have HK2 := Lib.hid (HK1.out.ext hb)
    clear hb
    clear a0 a1 a2 a3 e0 e1 e2 e3 e4 e5 e6 e7 e8
    obtain ⟨a0, a1, a2, a3⟩ := four_cells HK2.out.x
    obtain ⟨e0, e1, e2, e3, e4, e5, e6, e7, e8⟩ := nine_cellsE HK2.out.e
    go_wp2_with fail
    refine (ref_any _ _ _).mono ?_
    rintro e' w9 ⟨rfl, rfl⟩
    go_wp2_with fail
    have hh := HT1.out
    subst hh
    go_ret
    exact ⟨rfl, HK2.out.bel⟩
  | false =>
    go_wp2_with fail
    refine (HCN.out _ HK1.out.cu).mono ?_
    rintro e' w2 ⟨rfl, hb⟩
    have HK2 := Lib.hid (HK1.out.ext hb)
    clear hb
    clear a0 a1 a2 a3 e0 e1 e2 e3 e4 e5 e6 e7 e8
    obtain ⟨a0, a1, a2, a3⟩ := four_cells HK2.out.x
    obtain ⟨e0, e1, e2, e3, e4, e5, e6, e7, e8⟩ := nine_cellsE HK2.out.e
    by_cases hC : 0 < C
    · have hC1 : (0 : Int) < (C : Int) := by omega
      have HT1 : Hid (T = 22) := Lib.hid (by rw [← HT0.out, if_neg (by decide), if_pos hC])
      go_wp2_with fail
      have hh := HT1.out
      subst hh
      go_ret
      exact ⟨rfl, HK2.out.bel⟩
    · have hC1 : ¬ (0 : Int) < (C : Int) := by omega
      have HT1 : Hid (T = 0) := Lib.hid (by rw [← HT0.out, if_neg (by decide), if_neg hC])
      go_wp2_with fail
      refine (HPK.out _).mono ?_
      rintro e' w3 ⟨rfl, hb⟩
      have HK3 := Lib.hid (HK2.out.ext hb)
      clear hb
      clear a0 a1 a2 a3 e0 e1 e2 e3 e4 e5 e6 e7 e8
      obtain ⟨a0, a1, a2, a3⟩ := four_cells HK3.out.x
      obtain ⟨e0, e1, e2, e3, e4, e5, e6, e7, e8⟩ := nine_cellsE HK3.out.e
      go_wp2_with fail
      refine (ref_any _ _ _).mono ?_
      rintro e' w9 ⟨rfl, rfl⟩
      go_wp2_with fail
      have hh := HT1.out
      subst hh
      go_ret
      exact ⟨rfl, HK3.out.bel⟩
set_option maxRecDepth 100000 in
set_option maxHeartbeats 4000000 in
theorem check_k2 {c : CuP} {B : Nat} {fl : FlL} {N : Nat} {w : World} {σ : StL} (h : CuW c B fl N w σ) (hfm : FlM w fl) (hn : c.n ≤ 1000) (x : EvL) (bn : Nat) (hb : x.b = (bn : Int)) (hbn : bn < c.n) (he : InI x.e) (hk : x.k = 2) :
    Calls Try.prog 30 #[.pointer (some ⟨c.g, 0, none⟩), .agg (evA x)] w (RetB (.int .i64 (checkS fl σ x)) w) := by
  have HCU := Lib.hid h
  have HFM := Lib.hid hfm
  obtain ⟨T, hT⟩ : ∃ T, checkS fl σ x = T := ⟨_, rfl⟩
  have HT := Lib.hid hT
  rw [hT]
  unfold checkS at HT
  clear hT h hfm
  obtain ⟨d, s, a, l, k, b, p, r, e⟩ := x
  dsimp only at hb he hk
  subst hb
  subst hk
  dsimp only [evA, Int.toNat_natCast] at *
  have HE : Hid (BlkAt (w.alloc (.cells #[.int .i64 d, .int .i64 s, .int .i64 a, .int .i64 l, .int .i64 2, .int .i64 (bn : Int), .int .i64 p, .int .i64 r, .int .i64 e] 27)) w.heap.size #[.int .i64 d, .int .i64 s, .int .i64 a, .int .i64 l, .int .i64 2, .int .i64 (bn : Int), .int .i64 p, .int .i64 r, .int .i64 e]) := Lib.hid (blkNew rfl)
  have HB : Hid (Below w.heap.size w (w.alloc (.cells #[.int .i64 d, .int .i64 s, .int .i64 a, .int .i64 l, .int .i64 2, .int .i64 (bn : Int), .int .i64 p, .int .i64 r, .int .i64 e] 27))) := Lib.hid (below_alloc _ _)
  have HSP := Lib.hid (fun W (hb : Below w.heap.size w W) j v => (HCU.out.ext hb).spot bn hbn j v)
  generalize hsp : σ.sp.getD bn SpL.zero = S at *
  obtain ⟨s0, s1, s2, s3⟩ := S
  have hz : (w.alloc (.cells #[.int .i64 d, .int .i64 s, .int .i64 a, .int .i64 l, .int .i64 2, .int .i64 (bn : Int), .int .i64 p, .int .i64 r, .int .i64 e] 27)).heap.size = w.heap.size + 1 := by simp
  have hnn : (bn : Int) < (c.n : Int) := by omega
  have hn0 : (0 : Int) ≤ (bn : Int) := by omega
  clear hsp
  go_enter Try.func30, Try.ntmps30
  go_upto_region 1 with (fail)
  generalize w.alloc (.cells #[.int .i64 d, .int .i64 s, .int .i64 a, .int .i64 l, .int .i64 2, .int .i64 (bn : Int), .int .i64 p, .int .i64 r, .int .i64 e] 27) = W1 at *
  obtain ⟨e0, e1, e2, e3, e4, e5, e6, e7, e8⟩ := nine_cellsE HE.out
  have HCU1 := Lib.hid (HCU.out.ext HB.out)
  obtain ⟨d4, d5, d6, d7⟩ := HCU1.out.cells
  obtain ⟨lg, ls⟩ := HCU1.out.lts
  have lw : w.heap.size < W1.heap.size := by omega
  have HZ := Lib.hid hz
  clear hz
  have q0 : W1.cell? ⟨c.sg, bn * 4, none⟩ = some (.int .i64 s0) := HSP.out W1 HB.out 0 _ rfl
  have q1 : W1.cell? ⟨c.sg, bn * 4 + 1, none⟩ = some (.int .i64 s1) := HSP.out W1 HB.out 1 _ rfl
  have q2 : W1.cell? ⟨c.sg, bn * 4 + 2, none⟩ = some (.int .i64 s2) := HSP.out W1 HB.out 2 _ rfl
  have q3 : W1.cell? ⟨c.sg, bn * 4 + 3, none⟩ = some (.bool s3) := HSP.out W1 HB.out 3 _ rfl
  have HK2 : Hid (ChkW w c B fl N σ #[.int .i64 d, .int .i64 s, .int .i64 a, .int .i64 l, .int .i64 2, .int .i64 (bn : Int), .int .i64 p, .int .i64 r, .int .i64 e] #[.int .i64 s0, .int .i64 s1, .int .i64 s2, .bool s3] (W1.alloc (.cells #[.int .i64 s0, .int .i64 s1, .int .i64 s2, .bool s3] 60)).drew) := Lib.hid ⟨blkDrew (blkOld HE.out), blkDrew (blkNew HZ.out.symm), (HCU1.out.ext (below_alloc _ _)).ext (below_drew (Below.refl _ _)), ((HFM.out.below HB.out).below (below_alloc _ _)).below (below_drew (Below.refl _ _)), below_step HB.out (below_drew (below_alloc _ _))⟩
  have HSZ : Hid (W1.heap.size = w.heap.size + 1) := HZ
  go_region
  rw [HSZ.out]
  clear e0 e1 e2 e3 e4 e5 e6 e7 e8 d4 d5 d6 d7 lg ls lw q0 q1 q2 q3 HE HB HCU1 HSP HCU HZ HSZ hnn hn0
  generalize (W1.alloc (.cells #[.int .i64 s0, .int .i64 s1, .int .i64 s2, .bool s3] 60)).drew = W2 at *
  obtain ⟨V, hlk, hV⟩ := HK2.out.cu.lookO e he
  have HV := Lib.hid hV
  have hlk' : ∀ n, (Instr.lookup 55 (.map (some c.bo)) (.int .i64 e) false).run Try.prog (W2.drewN n) = .ok V (W2.drewN n) := fun n => hlk _ (below_drewN (Below.refl _ _) n)
  obtain ⟨d4, d5, d6, d7⟩ := HK2.out.cu.cells
  obtain ⟨e0, e1, e2, e3, e4, e5, e6, e7, e8⟩ := nine_cellsE HK2.out.e
  clear hlk hV
  go_upto_region 2 with (fail)
  go_quiet (fail)
  have HB3 : Hid (Below W2.heap.size W2 (W2.drewN nq)) := Lib.hid (below_drewN (Below.refl _ _) nq)
  have HK0 := Lib.hid (HK2.out.ext HB3.out)
  clear hlk' d4 d5 d6 d7 e0 e1 e2 e3 e4 e5 e6 e7 e8 HK2
  generalize W2.drewN nq = W3 at *
  have HPK := Lib.hid (fun W => parked_any ⟨s0, s1, s2, s3⟩ W)
  dsimp only [spA] at HPK
  obtain ⟨a0, a1, a2, a3⟩ := four_cells HK0.out.x
  obtain ⟨e0, e1, e2, e3, e4, e5, e6, e7, e8⟩ := nine_cellsE HK0.out.e
  obtain ⟨P, hP⟩ : ∃ P, parkedB ⟨s0, s1, s2, s3⟩ = P := ⟨_, rfl⟩
  rw [hP] at HT HPK
  clear hP
  have HT1 : Hid (T = refS P 23) := Lib.hid (by rw [← HT.out]; rfl)
  go_wp2_with fail
  refine (HPK.out _).mono ?_
  rintro e' w1 ⟨rfl, hb⟩
  have HK1 := Lib.hid (HK0.out.ext hb)
  clear hb
  clear a0 a1 a2 a3 e0 e1 e2 e3 e4 e5 e6 e7 e8
  obtain ⟨a0, a1, a2, a3⟩ := four_cells HK1.out.x
  obtain ⟨e0, e1, e2, e3, e4, e5, e6, e7, e8⟩ := nine_cellsE HK1.out.e
  go_wp2_with fail
  refine (ref_any _ _ _).mono ?_
  rintro e' w9 ⟨rfl, rfl⟩
  go_wp2_with fail
  have hh := HT1.out
  subst hh
  go_ret
  exact ⟨rfl, HK1.out.bel⟩
set_option maxRecDepth 100000 in
set_option maxHeartbeats 4000000 in
theorem check_k3 {c : CuP} {B : Nat} {fl : FlL} {N : Nat} {w : World} {σ : StL} (h : CuW c B fl N w σ) (hfm : FlM w fl) (hn : c.n ≤ 1000) (x : EvL) (bn : Nat) (hb : x.b = (bn : Int)) (hbn : bn < c.n) (he : InI x.e) (hk : x.k = 3) :
    Calls Try.prog 30 #[.pointer (some ⟨c.g, 0, none⟩), .agg (evA x)] w (RetB (.int .i64 (checkS fl σ x)) w) := by
  have HCU := Lib.hid h
  have HFM := Lib.hid hfm
  obtain ⟨T, hT⟩ : ∃ T, checkS fl σ x = T := ⟨_, rfl⟩
  have HT := Lib.hid hT
  rw [hT]
  unfold checkS at HT
  clear hT h hfm
  obtain ⟨d, s, a, l, k, b, p, r, e⟩ := x
  dsimp only at hb he hk
  subst hb
  subst hk
  dsimp only [evA, Int.toNat_natCast] at *
  have HE : Hid (BlkAt (w.alloc (.cells #[.int .i64 d, .int .i64 s, .int .i64 a, .int .i64 l, .int .i64 3, .int .i64 (bn : Int), .int .i64 p, .int .i64 r, .int .i64 e] 27)) w.heap.size #[.int .i64 d, .int .i64 s, .int .i64 a, .int .i64 l, .int .i64 3, .int .i64 (bn : Int), .int .i64 p, .int .i64 r, .int .i64 e]) := Lib.hid (blkNew rfl)
  have HB : Hid (Below w.heap.size w (w.alloc (.cells #[.int .i64 d, .int .i64 s, .int .i64 a, .int .i64 l, .int .i64 3, .int .i64 (bn : Int), .int .i64 p, .int .i64 r, .int .i64 e] 27))) := Lib.hid (below_alloc _ _)
  have HSP := Lib.hid (fun W (hb : Below w.heap.size w W) j v => (HCU.out.ext hb).spot bn hbn j v)
  generalize hsp : σ.sp.getD bn SpL.zero = S at *
  obtain ⟨s0, s1, s2, s3⟩ := S
  have hz : (w.alloc (.cells #[.int .i64 d, .int .i64 s, .int .i64 a, .int .i64 l, .int .i64 3, .int .i64 (bn : Int), .int .i64 p, .int .i64 r, .int .i64 e] 27)).heap.size = w.heap.size + 1 := by simp
  have hnn : (bn : Int) < (c.n : Int) := by omega
  have hn0 : (0 : Int) ≤ (bn : Int) := by omega
  clear hsp
  go_enter Try.func30, Try.ntmps30
  go_upto_region 1 with (fail)
  generalize w.alloc (.cells #[.int .i64 d, .int .i64 s, .int .i64 a, .int .i64 l, .int .i64 3, .int .i64 (bn : Int), .int .i64 p, .int .i64 r, .int .i64 e] 27) = W1 at *
  obtain ⟨e0, e1, e2, e3, e4, e5, e6, e7, e8⟩ := nine_cellsE HE.out
  have HCU1 := Lib.hid (HCU.out.ext HB.out)
  obtain ⟨d4, d5, d6, d7⟩ := HCU1.out.cells
  obtain ⟨lg, ls⟩ := HCU1.out.lts
  have lw : w.heap.size < W1.heap.size := by omega
  have HZ := Lib.hid hz
  clear hz
  have q0 : W1.cell? ⟨c.sg, bn * 4, none⟩ = some (.int .i64 s0) := HSP.out W1 HB.out 0 _ rfl
  have q1 : W1.cell? ⟨c.sg, bn * 4 + 1, none⟩ = some (.int .i64 s1) := HSP.out W1 HB.out 1 _ rfl
  have q2 : W1.cell? ⟨c.sg, bn * 4 + 2, none⟩ = some (.int .i64 s2) := HSP.out W1 HB.out 2 _ rfl
  have q3 : W1.cell? ⟨c.sg, bn * 4 + 3, none⟩ = some (.bool s3) := HSP.out W1 HB.out 3 _ rfl
  have HK2 : Hid (ChkW w c B fl N σ #[.int .i64 d, .int .i64 s, .int .i64 a, .int .i64 l, .int .i64 3, .int .i64 (bn : Int), .int .i64 p, .int .i64 r, .int .i64 e] #[.int .i64 s0, .int .i64 s1, .int .i64 s2, .bool s3] (W1.alloc (.cells #[.int .i64 s0, .int .i64 s1, .int .i64 s2, .bool s3] 60)).drew) := Lib.hid ⟨blkDrew (blkOld HE.out), blkDrew (blkNew HZ.out.symm), (HCU1.out.ext (below_alloc _ _)).ext (below_drew (Below.refl _ _)), ((HFM.out.below HB.out).below (below_alloc _ _)).below (below_drew (Below.refl _ _)), below_step HB.out (below_drew (below_alloc _ _))⟩
  have HSZ : Hid (W1.heap.size = w.heap.size + 1) := HZ
  go_region
  rw [HSZ.out]
  clear e0 e1 e2 e3 e4 e5 e6 e7 e8 d4 d5 d6 d7 lg ls lw q0 q1 q2 q3 HE HB HCU1 HSP HCU HZ HSZ hnn hn0
  generalize (W1.alloc (.cells #[.int .i64 s0, .int .i64 s1, .int .i64 s2, .bool s3] 60)).drew = W2 at *
  obtain ⟨V, hlk, hV⟩ := HK2.out.cu.lookO e he
  have HV := Lib.hid hV
  have hlk' : ∀ n, (Instr.lookup 55 (.map (some c.bo)) (.int .i64 e) false).run Try.prog (W2.drewN n) = .ok V (W2.drewN n) := fun n => hlk _ (below_drewN (Below.refl _ _) n)
  obtain ⟨d4, d5, d6, d7⟩ := HK2.out.cu.cells
  obtain ⟨e0, e1, e2, e3, e4, e5, e6, e7, e8⟩ := nine_cellsE HK2.out.e
  clear hlk hV
  go_upto_region 2 with (fail)
  go_quiet (fail)
  have HB3 : Hid (Below W2.heap.size W2 (W2.drewN nq)) := Lib.hid (below_drewN (Below.refl _ _) nq)
  have HK0 := Lib.hid (HK2.out.ext HB3.out)
  clear hlk' d4 d5 d6 d7 e0 e1 e2 e3 e4 e5 e6 e7 e8 HK2
  generalize W2.drewN nq = W3 at *
  have HPK := Lib.hid (fun W => parked_any ⟨s0, s1, s2, s3⟩ W)
  dsimp only [spA] at HPK
  obtain ⟨a0, a1, a2, a3⟩ := four_cells HK0.out.x
  obtain ⟨e0, e1, e2, e3, e4, e5, e6, e7, e8⟩ := nine_cellsE HK0.out.e
  obtain ⟨P, hP⟩ : ∃ P, parkedB ⟨s0, s1, s2, s3⟩ = P := ⟨_, rfl⟩
  rw [hP] at HT HPK
  clear hP
  have HU := Lib.hid (fun W (h : CuW c B fl N W σ) => h.lookU e he)
  have HRD := Lib.hid (fun W (h : CuW c B fl N W σ) => riding_any h r)
  have HT0 : Hid ((if P = false then 23 else if σ.u e = true then 6 else refS (ridingB σ r) 22) = T) := Lib.hid (by rw [← HT.out]; rfl)
  generalize ridingB σ r = R at *
  generalize σ.u e = U at *
  clear HT
  go_wp2_with fail
  refine (HPK.out _).mono ?_
  rintro e' w1 ⟨rfl, hb⟩
  have HK1 := Lib.hid (HK0.out.ext hb)
  clear hb
  clear a0 a1 a2 a3 e0 e1 e2 e3 e4 e5 e6 e7 e8
  obtain ⟨a0, a1, a2, a3⟩ := four_cells HK1.out.x
  obtain ⟨e0, e1, e2, e3, e4, e5, e6, e7, e8⟩ := nine_cellsE HK1.out.e
  cases P with
  | false =>
    have HT1 : Hid (T = 23) := Lib.hid (by rw [← HT0.out]; rfl)
    go_wp2_with fail
    have hh := HT1.out
    subst hh
    go_ret
    exact ⟨rfl, HK1.out.bel⟩
  | true =>
    have hlk : ∀ n, (Instr.lookup 56 (.map (some c.bu)) (.int .i64 e) false).run Try.prog (w1.drewN n) = .ok (.bool U) (w1.drewN n) := fun n => HU.out _ (HK1.out.cu.ext (below_drewN (Below.refl _ _) n))
    obtain ⟨d4, d5, d6, d7⟩ := HK1.out.cu.cells
    go_upto_region 19 with (fail)
    go_quiet (fail)
    have HB2 : Hid (Below w1.heap.size w1 (w1.drewN nq)) := Lib.hid (below_drewN (Below.refl _ _) nq)
    have HK2 := Lib.hid (HK1.out.ext HB2.out)
    clear hlk d4 d5 d6 d7 HB2
    clear a0 a1 a2 a3 e0 e1 e2 e3 e4 e5 e6 e7 e8
    generalize w1.drewN nq = w2 at *
    obtain ⟨a0, a1, a2, a3⟩ := four_cells HK2.out.x
    obtain ⟨e0, e1, e2, e3, e4, e5, e6, e7, e8⟩ := nine_cellsE HK2.out.e
    cases U with
    | true =>
      have HT1 : Hid (T = 6) := Lib.hid (by rw [← HT0.out]; rfl)
      go_wp2_with fail
      have hh := HT1.out
      subst hh
      go_ret
      exact ⟨rfl, HK2.out.bel⟩
    | false =>
      have HT1 : Hid (T = refS R 22) := Lib.hid (by rw [← HT0.out]; rfl)
      go_wp2_with fail
      refine (HRD.out _ HK2.out.cu).mono ?_
      rintro e' w3 ⟨rfl, hb⟩
      have HK3 := Lib.hid (HK2.out.ext hb)
      clear hb
      go_wp2_with fail
      refine (ref_any _ _ _).mono ?_
      rintro e' w9 ⟨rfl, rfl⟩
      go_wp2_with fail
      have hh := HT1.out
      subst hh
      go_ret
      exact ⟨rfl, HK3.out.bel⟩
end Go.Proofs.Ytdgjdbpbnipjcaa
