/-
  CUSTODY: why an event has no effect: kinds 7, 8, 9, others. (Printed by gen_trw.py.)
-/
import Derived.Test.YtdgjdbpbnipjcaaTrW
import Derived.Deep.RegionHeld3
import Derived.BigQuiet
import Derived.BigRegion
import Derived.Laws.StructEq
import Derived.StillTailTactics
import Derived.RegionTactic
import Derived.Deep.DeepCutAuto
import Derived.Deep.QuietTactic
import Derived.WalkSpells
import Derived.WalkLawsBesides
namespace Go.Proofs.Ytdgjdbpbnipjcaa
open Go.RowKit Go.Maps
set_option linter.unusedVariables false

theorem keepT {w w1 w2 : World} {c : CuP} {B : Nat} {fl : FlL} {N : Nat} {σ : StL} {E X : Array Value} {a b d : Addr} {x y z : Value} (hb : Below w1.heap.size w1 w2) (h : w1.cell? a = some x ∧ w1.cell? b = some y ∧ w1.cell? d = some z ∧ ChkW w c B fl N σ E X w1) :
    w2.cell? a = some x ∧ w2.cell? b = some y ∧ w2.cell? d = some z ∧ ChkW w c B fl N σ E X w2 := ⟨cell_keep hb h.1, cell_keep hb h.2.1, cell_keep hb h.2.2.1, h.2.2.2.ext hb⟩
set_option maxRecDepth 100000 in
set_option maxHeartbeats 4000000 in
theorem check_k7 {c : CuP} {B : Nat} {fl : FlL} {N : Nat} {w : World} {σ : StL} (h : CuW c B fl N w σ) (hfm : FlM w fl) (hn : c.n ≤ 1000) (x : EvL) (bn : Nat) (hb : x.b = (bn : Int)) (hbn : bn < c.n) (he : InI x.e) (hk : x.k = 7) (pn : Nat) (hpn : x.p = (pn : Int)) (hpt : pn < fl.tn) :
    Calls Try.prog 30 #[.pointer (some ⟨c.g, 0, none⟩), .agg (evA x)] w (RetB (.int .i64 (checkS fl σ x)) w) := by
  have HCU := Lib.hid h
  have HFM := Lib.hid hfm
  obtain ⟨T, hT⟩ : ∃ T, checkS fl σ x = T := ⟨_, rfl⟩
  have HT := Lib.hid hT
  rw [hT]
  unfold checkS at HT
  clear hT h hfm
  obtain ⟨d, s, a, l, k, b, p, r, e⟩ := x
  dsimp only at hb he hk hpn
  subst hb
  subst hk
  subst hpn
  dsimp only [evA, Int.toNat_natCast] at *
  have HE : Hid (BlkAt (w.alloc (.cells #[.int .i64 d, .int .i64 s, .int .i64 a, .int .i64 l, .int .i64 7, .int .i64 (bn : Int), .int .i64 (pn : Int), .int .i64 r, .int .i64 e] 27)) w.heap.size #[.int .i64 d, .int .i64 s, .int .i64 a, .int .i64 l, .int .i64 7, .int .i64 (bn : Int), .int .i64 (pn : Int), .int .i64 r, .int .i64 e]) := Lib.hid (blkNew rfl)
  have HB : Hid (Below w.heap.size w (w.alloc (.cells #[.int .i64 d, .int .i64 s, .int .i64 a, .int .i64 l, .int .i64 7, .int .i64 (bn : Int), .int .i64 (pn : Int), .int .i64 r, .int .i64 e] 27))) := Lib.hid (below_alloc _ _)
  have HSP := Lib.hid (fun W (hb : Below w.heap.size w W) j v => (HCU.out.ext hb).spot bn hbn j v)
  generalize hsp : σ.sp.getD bn SpL.zero = S at *
  obtain ⟨s0, s1, s2, s3⟩ := S
  have hz : (w.alloc (.cells #[.int .i64 d, .int .i64 s, .int .i64 a, .int .i64 l, .int .i64 7, .int .i64 (bn : Int), .int .i64 (pn : Int), .int .i64 r, .int .i64 e] 27)).heap.size = w.heap.size + 1 := by simp
  have hnn : (bn : Int) < (c.n : Int) := by omega
  have hn0 : (0 : Int) ≤ (bn : Int) := by omega
  clear hsp
  go_enter Try.func30, Try.ntmps30
  go_upto_region 1 with (fail)
  generalize w.alloc (.cells #[.int .i64 d, .int .i64 s, .int .i64 a, .int .i64 l, .int .i64 7, .int .i64 (bn : Int), .int .i64 (pn : Int), .int .i64 r, .int .i64 e] 27) = W1 at *
  obtain ⟨e0, e1, e2, e3, e4, e5, e6, e7, e8⟩ := nine_cellsE HE.out
  have HCU1 := Lib.hid (HCU.out.ext HB.out)
  obtain ⟨d4, d5, d6, d7⟩ := HCU1.out.cells
  obtain ⟨lg, ls⟩ := HCU1.out.lts
  have lw : w.heap.size < W1.heap.size := by omega
  have HZ := Lib.hid hz
  clear hz
  have q0 : W1.cell? ⟨c.sg, bn * 4, none⟩ = some (.int .i64 s0) := HSP.out W1 HB.out 0 _ rfl
  have q1 : W1.cell? ⟨c.sg, bn * 4 + 1, none⟩ = some (.int .i64 s1) := HSP.out W1 HB.out 1 _ rfl
  have q2 : W1.cell? ⟨c.sg, bn * 4 + 2, none⟩ = some (.int .i64 s2) := HSP.out W1 HB.out 2 _ rfl
  have q3 : W1.cell? ⟨c.sg, bn * 4 + 3, none⟩ = some (.bool s3) := HSP.out W1 HB.out 3 _ rfl
  have HK2 : Hid (ChkW w c B fl N σ #[.int .i64 d, .int .i64 s, .int .i64 a, .int .i64 l, .int .i64 7, .int .i64 (bn : Int), .int .i64 (pn : Int), .int .i64 r, .int .i64 e] #[.int .i64 s0, .int .i64 s1, .int .i64 s2, .bool s3] (W1.alloc (.cells #[.int .i64 s0, .int .i64 s1, .int .i64 s2, .bool s3] 60)).drew) := Lib.hid ⟨blkDrew (blkOld HE.out), blkDrew (blkNew HZ.out.symm), (HCU1.out.ext (below_alloc _ _)).ext (below_drew (Below.refl _ _)), ((HFM.out.below HB.out).below (below_alloc _ _)).below (below_drew (Below.refl _ _)), below_step HB.out (below_drew (below_alloc _ _))⟩
  have HSZ : Hid (W1.heap.size = w.heap.size + 1) := HZ
  go_region
  rw [HSZ.out]
  clear e0 e1 e2 e3 e4 e5 e6 e7 e8 d4 d5 d6 d7 lg ls lw q0 q1 q2 q3 HE HB HCU1 HSP HCU HZ HSZ hnn hn0
  generalize (W1.alloc (.cells #[.int .i64 s0, .int .i64 s1, .int .i64 s2, .bool s3] 60)).drew = W2 at *
  obtain ⟨V, hlk, hV⟩ := HK2.out.cu.lookO e he
  have HV := Lib.hid hV
  have hlk' : ∀ n, (Instr.lookup 55 (.map (some c.bo)) (.int .i64 e) false).run Try.prog (W2.drewN n) = .ok V (W2.drewN n) := fun n => hlk _ (below_drewN (Below.refl _ _) n)
  obtain ⟨d4, d5, d6, d7⟩ := HK2.out.cu.cells
  obtain ⟨e0, e1, e2, e3, e4, e5, e6, e7, e8⟩ := nine_cellsE HK2.out.e
  clear hlk hV
  go_upto_region 2 with (fail)
  go_quiet (fail)
  have HB3 : Hid (Below W2.heap.size W2 (W2.drewN nq)) := Lib.hid (below_drewN (Below.refl _ _) nq)
  have HK0 := Lib.hid (HK2.out.ext HB3.out)
  clear hlk' d4 d5 d6 d7 e0 e1 e2 e3 e4 e5 e6 e7 e8 HK2
  generalize W2.drewN nq = W3 at *
  have HPK := Lib.hid (fun W => parked_any ⟨s0, s1, s2, s3⟩ W)
  dsimp only [spA] at HPK
  obtain ⟨a0, a1, a2, a3⟩ := four_cells HK0.out.x
  obtain ⟨e0, e1, e2, e3, e4, e5, e6, e7, e8⟩ := nine_cellsE HK0.out.e
  have HCN := Lib.hid (fun W (h : CuW c B fl N W σ) => count_any h hn 4 (pn : Int))
  have HT0 : Hid ((if s0 = 3 ∨ s0 = 4 then 23 else refS (decide (fl.ts.getD pn 0 ≤ (countN σ.sp 4 (pn : Int) : Int))) 24) = T) := Lib.hid (by rw [← HT.out]; rfl)
  generalize countN σ.sp 4 (pn : Int) = C at *
  clear HT
  by_cases h3 : s0 = 3
  · subst h3
    have HT1 : Hid (T = 23) := Lib.hid (by rw [← HT0.out]; rfl)
    go_wp2_with fail
    have hh := HT1.out
    subst hh
    go_ret
    exact ⟨rfl, HK0.out.bel⟩
  · by_cases h4 : s0 = 4
    · subst h4
      have HT1 : Hid (T = 23) := Lib.hid (by rw [← HT0.out]; rfl)
      go_wp2_with fail
      have hh := HT1.out
      subst hh
      go_ret
      exact ⟨rfl, HK0.out.bel⟩
    · have HT1 : Hid (T = refS (decide (fl.ts.getD pn 0 ≤ (C : Int))) 24) := Lib.hid (by rw [← HT0.out, if_neg (show ¬ (s0 = 3 ∨ s0 = 4) from fun h => h.elim h3 h4)])
      obtain ⟨tb, ofs, ea, tc⟩ := sl_int HK0.out.fm.t HK0.out.fm.tl pn hpt
      obtain ⟨d4, d5, d6, d7⟩ := HK0.out.cu.cells
      generalize fl.ts.getD pn 0 = TK at *
      rw [ea] at d4
      have hp0 : (0 : Int) ≤ (pn : Int) := by omega
      have hpt1 : (pn : Int) < (fl.tn : Int) := by omega
      have hck := HK0.out
      clear HT0 a1 a2 a3 e0 e1 e2 e3 e5 e7 e8 d5 d6 d7
      go_wp2_with fail
      all_goals (try (exfalso; rename_i hq; simp [h3, h4] at hq; done))
      go_region_held3 (fun w9 => w9.cell? ⟨w.heap.size, 6, none⟩ = some (.int .i64 (pn : Int)) ∧ w9.cell? ⟨c.g, 4, none⟩ = some (.slice (some ⟨tb, ofs, none⟩) fl.tn fl.tc) ∧ w9.cell? ⟨tb, ofs + pn, none⟩ = some (.int .i64 TK) ∧ ChkW w c B fl N σ #[.int .i64 d, .int .i64 s, .int .i64 a, .int .i64 l, .int .i64 7, .int .i64 (bn : Int), .int .i64 (pn : Int), .int .i64 r, .int .i64 e] #[.int .i64 s0, .int .i64 s1, .int .i64 s2, .bool s3] w9)
        (repeat (with_reducible first | assumption | exact ⟨e6, d4, tc, hck⟩ | refine keepT (below_drew (Below.refl _ _)) ?_ | (apply keepT; focus assumption)))
        (first
          | (go_at_call 48; (with_reducible refine (HCN.out _ ?_).mono ?_); (focus (first | (exact ChkW.cu (by assumption)) | exact (hck.ext (below_drew (Below.refl _ _))).cu)); rintro e' w5 ⟨rfl, hb5⟩)
          | (go_at_call 46; (with_reducible refine (ref_any _ _ _).mono ?_); rintro e' w6 ⟨rfl, rfl⟩))
      have hh := HT1.out
      subst hh
      all_goals
        go_wp2_with fail
        go_ret
        exact ⟨rfl, ChkW.bel (by go_split_ands; assumption)⟩
set_option maxRecDepth 100000 in
set_option maxHeartbeats 4000000 in
theorem check_k8 {c : CuP} {B : Nat} {fl : FlL} {N : Nat} {w : World} {σ : StL} (h : CuW c B fl N w σ) (hfm : FlM w fl) (hn : c.n ≤ 1000) (x : EvL) (bn : Nat) (hb : x.b = (bn : Int)) (hbn : bn < c.n) (he : InI x.e) (hk : x.k = 8) :
    Calls Try.prog 30 #[.pointer (some ⟨c.g, 0, none⟩), .agg (evA x)] w (RetB (.int .i64 (checkS fl σ x)) w) := by
  have HCU := Lib.hid h
  have HFM := Lib.hid hfm
  obtain ⟨T, hT⟩ : ∃ T, checkS fl σ x = T := ⟨_, rfl⟩
  have HT := Lib.hid hT
  rw [hT]
  unfold checkS at HT
  clear hT h hfm
  obtain ⟨d, s, a, l, k, b, p, r, e⟩ := x
  dsimp only at hb he hk
  subst hb
  subst hk
  dsimp only [evA, Int.toNat_natCast] at *
  have HE : Hid (BlkAt (w.alloc (.cells #[.int .i64 d, .int .i64 s, .int .i64 a, .int .i64 l, .int .i64 8, .int .i64 (bn : Int), .int .i64 p, .int .i64 r, .int .i64 e] 27)) w.heap.size #[.int .i64 d, .int .i64 s, .int .i64 a, .int .i64 l, .int .i64 8, .int .i64 (bn : Int), .int .i64 p, .int .i64 r, .int .i64 e]) := Lib.hid (blkNew rfl)
  have HB : Hid (Below w.heap.size w (w.alloc (.cells #[.int .i64 d, .int .i64 s, .int .i64 a, .int .i64 l, .int .i64 8, .int .i64 (bn : Int), .int .i64 p, .int .i64 r, .int .i64 e] 27))) := Lib.hid (below_alloc _ _)
  have HSP := Lib.hid (fun W (hb : Below w.heap.size w W) j v => (HCU.out.ext hb).spot bn hbn j v)
  generalize hsp : σ.sp.getD bn SpL.zero = S at *
  obtain ⟨s0, s1, s2, s3⟩ := S
  have hz : (w.alloc (.cells #[.int .i64 d, .int .i64 s, .int .i64 a, .int .i64 l, .int .i64 8, .int .i64 (bn : Int), .int .i64 p, .int .i64 r, .int .i64 e] 27)).heap.size = w.heap.size + 1 := by simp
  have hnn : (bn : Int) < (c.n : Int) := by omega
  have hn0 : (0 : Int) ≤ (bn : Int) := by omega
  clear hsp
  go_enter Try.func30, Try.ntmps30
  go_upto_region 1 with (fail)
  generalize w.alloc (.cells #[.int .i64 d, .int .i64 s, .int .i64 a, .int .i64 l, .int .i64 8, .int .i64 (bn : Int), .int .i64 p, .int .i64 r, .int .i64 e] 27) = W1 at *
  obtain ⟨e0, e1, e2, e3, e4, e5, e6, e7, e8⟩ := nine_cellsE HE.out
  have HCU1 := Lib.hid (HCU.out.ext HB.out)
  obtain ⟨d4, d5, d6, d7⟩ := HCU1.out.cells
  obtain ⟨lg, ls⟩ := HCU1.out.lts
  have lw : w.heap.size < W1.heap.size := by omega
  have HZ := Lib.hid hz
  clear hz
  have q0 : W1.cell? ⟨c.sg, bn * 4, none⟩ = some (.int .i64 s0) := HSP.out W1 HB.out 0 _ rfl
  have q1 : W1.cell? ⟨c.sg, bn * 4 + 1, none⟩ = some (.int .i64 s1) := HSP.out W1 HB.out 1 _ rfl
  have q2 : W1.cell? ⟨c.sg, bn * 4 + 2, none⟩ = some (.int .i64 s2) := HSP.out W1 HB.out 2 _ rfl
  have q3 : W1.cell? ⟨c.sg, bn * 4 + 3, none⟩ = some (.bool s3) := HSP.out W1 HB.out 3 _ rfl
  have HK2 : Hid (ChkW w c B fl N σ #[.int .i64 d, .int .i64 s, .int .i64 a, .int .i64 l, .int .i64 8, .int .i64 (bn : Int), .int .i64 p, .int .i64 r, .int .i64 e] #[.int .i64 s0, .int .i64 s1, .int .i64 s2, .bool s3] (W1.alloc (.cells #[.int .i64 s0, .int .i64 s1, .int .i64 s2, .bool s3] 60)).drew) := Lib.hid ⟨blkDrew (blkOld HE.out), blkDrew (blkNew HZ.out.symm), (HCU1.out.ext (below_alloc _ _)).ext (below_drew (Below.refl _ _)), ((HFM.out.below HB.out).below (below_alloc _ _)).below (below_drew (Below.refl _ _)), below_step HB.out (below_drew (below_alloc _ _))⟩
  have HSZ : Hid (W1.heap.size = w.heap.size + 1) := HZ
  go_region
  rw [HSZ.out]
  clear e0 e1 e2 e3 e4 e5 e6 e7 e8 d4 d5 d6 d7 lg ls lw q0 q1 q2 q3 HE HB HCU1 HSP HCU HZ HSZ hnn hn0
  generalize (W1.alloc (.cells #[.int .i64 s0, .int .i64 s1, .int .i64 s2, .bool s3] 60)).drew = W2 at *
  obtain ⟨V, hlk, hV⟩ := HK2.out.cu.lookO e he
  have HV := Lib.hid hV
  have hlk' : ∀ n, (Instr.lookup 55 (.map (some c.bo)) (.int .i64 e) false).run Try.prog (W2.drewN n) = .ok V (W2.drewN n) := fun n => hlk _ (below_drewN (Below.refl _ _) n)
  obtain ⟨d4, d5, d6, d7⟩ := HK2.out.cu.cells
  obtain ⟨e0, e1, e2, e3, e4, e5, e6, e7, e8⟩ := nine_cellsE HK2.out.e
  clear hlk hV
  go_upto_region 2 with (fail)
  go_quiet (fail)
  have HB3 : Hid (Below W2.heap.size W2 (W2.drewN nq)) := Lib.hid (below_drewN (Below.refl _ _) nq)
  have HK0 := Lib.hid (HK2.out.ext HB3.out)
  clear hlk' d4 d5 d6 d7 e0 e1 e2 e3 e4 e5 e6 e7 e8 HK2
  generalize W2.drewN nq = W3 at *
  have HPK := Lib.hid (fun W => parked_any ⟨s0, s1, s2, s3⟩ W)
  dsimp only [spA] at HPK
  obtain ⟨a0, a1, a2, a3⟩ := four_cells HK0.out.x
  obtain ⟨e0, e1, e2, e3, e4, e5, e6, e7, e8⟩ := nine_cellsE HK0.out.e
  by_cases h1 : s0 = 3
  · subst h1
    have HT1 : Hid (T = 23) := Lib.hid (by rw [← HT.out]; rfl)
    go_wp2_with fail
    refine (ref_any _ _ _).mono ?_
    rintro e' w9 ⟨rfl, rfl⟩
    go_wp2_with fail
    have hh := HT1.out
    subst hh
    go_ret
    exact ⟨rfl, HK0.out.bel⟩
  · by_cases h2 : s0 = 5
    · subst h2
      have HT1 : Hid (T = 23) := Lib.hid (by rw [← HT.out]; rfl)
      go_wp2_with fail
      refine (ref_any _ _ _).mono ?_
      rintro e' w9 ⟨rfl, rfl⟩
      go_wp2_with fail
      have hh := HT1.out
      subst hh
      go_ret
      exact ⟨rfl, HK0.out.bel⟩
    · have HT1 : Hid (T = 0) := Lib.hid (by rw [← HT.out]; exact if_neg (show ¬ (s0 = 3 ∨ s0 = 5) from fun h => h.elim h1 h2))
      go_wp2_with fail
      refine (ref_any _ _ _).mono ?_
      rintro e' w9 ⟨rfl, rfl⟩
      go_wp2_with fail
      have hh := HT1.out
      subst hh
      go_ret
      exact ⟨by simp [refS, h1, h2], HK0.out.bel⟩
set_option maxRecDepth 100000 in
set_option maxHeartbeats 4000000 in
theorem check_k9 {c : CuP} {B : Nat} {fl : FlL} {N : Nat} {w : World} {σ : StL} (h : CuW c B fl N w σ) (hfm : FlM w fl) (hn : c.n ≤ 1000) (x : EvL) (bn : Nat) (hb : x.b = (bn : Int)) (hbn : bn < c.n) (he : InI x.e) (hk : x.k = 9) :
    Calls Try.prog 30 #[.pointer (some ⟨c.g, 0, none⟩), .agg (evA x)] w (RetB (.int .i64 (checkS fl σ x)) w) := by
  have HCU := Lib.hid h
  have HFM := Lib.hid hfm
  obtain ⟨T, hT⟩ : ∃ T, checkS fl σ x = T := ⟨_, rfl⟩
  have HT := Lib.hid hT
  rw [hT]
  unfold checkS at HT
  clear hT h hfm
  obtain ⟨d, s, a, l, k, b, p, r, e⟩ := x
  dsimp only at hb he hk
  subst hb
  subst hk
  dsimp only [evA, Int.toNat_natCast] at *
  have HE : Hid (BlkAt (w.alloc (.cells #[.int .i64 d, .int .i64 s, .int .i64 a, .int .i64 l, .int .i64 9, .int .i64 (bn : Int), .int .i64 p, .int .i64 r, .int .i64 e] 27)) w.heap.size #[.int .i64 d, .int .i64 s, .int .i64 a, .int .i64 l, .int .i64 9, .int .i64 (bn : Int), .int .i64 p, .int .i64 r, .int .i64 e]) := Lib.hid (blkNew rfl)
  have HB : Hid (Below w.heap.size w (w.alloc (.cells #[.int .i64 d, .int .i64 s, .int .i64 a, .int .i64 l, .int .i64 9, .int .i64 (bn : Int), .int .i64 p, .int .i64 r, .int .i64 e] 27))) := Lib.hid (below_alloc _ _)
  have HSP := Lib.hid (fun W (hb : Below w.heap.size w W) j v => (HCU.out.ext hb).spot bn hbn j v)
  generalize hsp : σ.sp.getD bn SpL.zero = S at *
  obtain ⟨s0, s1, s2, s3⟩ := S
  have hz : (w.alloc (.cells #[.int .i64 d, .int .i64 s, .int .i64 a, .int .i64 l, .int .i64 9, .int .i64 (bn : Int), .int .i64 p, .int .i64 r, .int .i64 e] 27)).heap.size = w.heap.size + 1 := by simp
  have hnn : (bn : Int) < (c.n : Int) := by omega
  have hn0 : (0 : Int) ≤ (bn : Int) := by omega
  clear hsp
  go_enter Try.func30, Try.ntmps30
  go_upto_region 1 with (fail)
  generalize w.alloc (.cells #[.int .i64 d, .int .i64 s, .int .i64 a, .int .i64 l, .int .i64 9, .int .i64 (bn : Int), .int .i64 p, .int .i64 r, .int .i64 e] 27) = W1 at *
  obtain ⟨e0, e1, e2, e3, e4, e5, e6, e7, e8⟩ := nine_cellsE HE.out
  have HCU1 := Lib.hid (HCU.out.ext HB.out)
  obtain ⟨d4, d5, d6, d7⟩ := HCU1.out.cells
  obtain ⟨lg, ls⟩ := HCU1.out.lts
  have lw : w.heap.size < W1.heap.size := by omega
  have HZ := Lib.hid hz
  clear hz
  have q0 : W1.cell? ⟨c.sg, bn * 4, none⟩ = some (.int .i64 s0) := HSP.out W1 HB.out 0 _ rfl
  have q1 : W1.cell? ⟨c.sg, bn * 4 + 1, none⟩ = some (.int .i64 s1) := HSP.out W1 HB.out 1 _ rfl
  have q2 : W1.cell? ⟨c.sg, bn * 4 + 2, none⟩ = some (.int .i64 s2) := HSP.out W1 HB.out 2 _ rfl
  have q3 : W1.cell? ⟨c.sg, bn * 4 + 3, none⟩ = some (.bool s3) := HSP.out W1 HB.out 3 _ rfl
  have HK2 : Hid (ChkW w c B fl N σ #[.int .i64 d, .int .i64 s, .int .i64 a, .int .i64 l, .int .i64 9, .int .i64 (bn : Int), .int .i64 p, .int .i64 r, .int .i64 e] #[.int .i64 s0, .int .i64 s1, .int .i64 s2, .bool s3] (W1.alloc (.cells #[.int .i64 s0, .int .i64 s1, .int .i64 s2, .bool s3] 60)).drew) := Lib.hid ⟨blkDrew (blkOld HE.out), blkDrew (blkNew HZ.out.symm), (HCU1.out.ext (below_alloc _ _)).ext (below_drew (Below.refl _ _)), ((HFM.out.below HB.out).below (below_alloc _ _)).below (below_drew (Below.refl _ _)), below_step HB.out (below_drew (below_alloc _ _))⟩
  have HSZ : Hid (W1.heap.size = w.heap.size + 1) := HZ
  go_region
  rw [HSZ.out]
  clear e0 e1 e2 e3 e4 e5 e6 e7 e8 d4 d5 d6 d7 lg ls lw q0 q1 q2 q3 HE HB HCU1 HSP HCU HZ HSZ hnn hn0
  generalize (W1.alloc (.cells #[.int .i64 s0, .int .i64 s1, .int .i64 s2, .bool s3] 60)).drew = W2 at *
  obtain ⟨V, hlk, hV⟩ := HK2.out.cu.lookO e he
  have HV := Lib.hid hV
  have hlk' : ∀ n, (Instr.lookup 55 (.map (some c.bo)) (.int .i64 e) false).run Try.prog (W2.drewN n) = .ok V (W2.drewN n) := fun n => hlk _ (below_drewN (Below.refl _ _) n)
  obtain ⟨d4, d5, d6, d7⟩ := HK2.out.cu.cells
  obtain ⟨e0, e1, e2, e3, e4, e5, e6, e7, e8⟩ := nine_cellsE HK2.out.e
  clear hlk hV
  go_upto_region 2 with (fail)
  go_quiet (fail)
  have HB3 : Hid (Below W2.heap.size W2 (W2.drewN nq)) := Lib.hid (below_drewN (Below.refl _ _) nq)
  have HK0 := Lib.hid (HK2.out.ext HB3.out)
  clear hlk' d4 d5 d6 d7 e0 e1 e2 e3 e4 e5 e6 e7 e8 HK2
  generalize W2.drewN nq = W3 at *
  have HPK := Lib.hid (fun W => parked_any ⟨s0, s1, s2, s3⟩ W)
  dsimp only [spA] at HPK
  obtain ⟨a0, a1, a2, a3⟩ := four_cells HK0.out.x
  obtain ⟨e0, e1, e2, e3, e4, e5, e6, e7, e8⟩ := nine_cellsE HK0.out.e
  by_cases h1 : s0 = 5
  · subst h1
    have HT1 : Hid (T = 23) := Lib.hid (by rw [← HT.out]; rfl)
    go_wp2_with fail
    refine (ref_any _ _ _).mono ?_
    rintro e' w9 ⟨rfl, rfl⟩
    go_wp2_with fail
    have hh := HT1.out
    subst hh
    go_ret
    exact ⟨rfl, HK0.out.bel⟩
  · by_cases h2 : s0 = 6
    · subst h2
      have HT1 : Hid (T = 23) := Lib.hid (by rw [← HT.out]; rfl)
      go_wp2_with fail
      refine (ref_any _ _ _).mono ?_
      rintro e' w9 ⟨rfl, rfl⟩
      go_wp2_with fail
      have hh := HT1.out
      subst hh
      go_ret
      exact ⟨rfl, HK0.out.bel⟩
    · have HT1 : Hid (T = 0) := Lib.hid (by rw [← HT.out]; exact if_neg (show ¬ (s0 = 5 ∨ s0 = 6) from fun h => h.elim h1 h2))
      go_wp2_with fail
      refine (ref_any _ _ _).mono ?_
      rintro e' w9 ⟨rfl, rfl⟩
      go_wp2_with fail
      have hh := HT1.out
      subst hh
      go_ret
      exact ⟨by simp [refS, h1, h2], HK0.out.bel⟩
set_option maxRecDepth 100000 in
set_option maxHeartbeats 4000000 in
theorem check_ko {c : CuP} {B : Nat} {fl : FlL} {N : Nat} {w : World} {σ : StL} (h : CuW c B fl N w σ) (hfm : FlM w fl) (hn : c.n ≤ 1000) (x : EvL) (bn : Nat) (hb : x.b = (bn : Int)) (hbn : bn < c.n) (he : InI x.e) (hk : x.k ≠ 1 ∧ x.k ≠ 2 ∧ x.k ≠ 3 ∧ x.k ≠ 4 ∧ x.k ≠ 5 ∧ x.k ≠ 6 ∧ x.k ≠ 7 ∧ x.k ≠ 8 ∧ x.k ≠ 9) :
    Calls Try.prog 30 #[.pointer (some ⟨c.g, 0, none⟩), .agg (evA x)] w (RetB (.int .i64 (checkS fl σ x)) w) := by
  have HCU := Lib.hid h
  have HFM := Lib.hid hfm
  obtain ⟨T, hT⟩ : ∃ T, checkS fl σ x = T := ⟨_, rfl⟩
  have HT := Lib.hid hT
  rw [hT]
  unfold checkS at HT
  clear hT h hfm
  obtain ⟨d, s, a, l, k, b, p, r, e⟩ := x
  dsimp only at hb he hk
  subst hb
  dsimp only [evA, Int.toNat_natCast] at *
  have HE : Hid (BlkAt (w.alloc (.cells #[.int .i64 d, .int .i64 s, .int .i64 a, .int .i64 l, .int .i64 k, .int .i64 (bn : Int), .int .i64 p, .int .i64 r, .int .i64 e] 27)) w.heap.size #[.int .i64 d, .int .i64 s, .int .i64 a, .int .i64 l, .int .i64 k, .int .i64 (bn : Int), .int .i64 p, .int .i64 r, .int .i64 e]) := Lib.hid (blkNew rfl)
  have HB : Hid (Below w.heap.size w (w.alloc (.cells #[.int .i64 d, .int .i64 s, .int .i64 a, .int .i64 l, .int .i64 k, .int .i64 (bn : Int), .int .i64 p, .int .i64 r, .int .i64 e] 27))) := Lib.hid (below_alloc _ _)
  have HSP := Lib.hid (fun W (hb : Below w.heap.size w W) j v => (HCU.out.ext hb).spot bn hbn j v)
  generalize hsp : σ.sp.getD bn SpL.zero = S at *
  obtain ⟨s0, s1, s2, s3⟩ := S
  have hz : (w.alloc (.cells #[.int .i64 d, .int .i64 s, .int .i64 a, .int .i64 l, .int .i64 k, .int .i64 (bn : Int), .int .i64 p, .int .i64 r, .int .i64 e] 27)).heap.size = w.heap.size + 1 := by simp
  have hnn : (bn : Int) < (c.n : Int) := by omega
  have hn0 : (0 : Int) ≤ (bn : Int) := by omega
  clear hsp
  go_enter Try.func30, Try.ntmps30
  go_upto_region 1 with (fail)
  generalize w.alloc (.cells #[.int .i64 d, .int .i64 s, .int .i64 a, .int .i64 l, .int .i64 k, .int .i64 (bn : Int), .int .i64 p, .int .i64 r, .int .i64 e] 27) = W1 at *
  obtain ⟨e0, e1, e2, e3, e4, e5, e6, e7, e8⟩ := nine_cellsE HE.out
  have HCU1 := Lib.hid (HCU.out.ext HB.out)
  obtain ⟨d4, d5, d6, d7⟩ := HCU1.out.cells
  obtain ⟨lg, ls⟩ := HCU1.out.lts
  have lw : w.heap.size < W1.heap.size := by omega
  have HZ := Lib.hid hz
  clear hz
  have q0 : W1.cell? ⟨c.sg, bn * 4, none⟩ = some (.int .i64 s0) := HSP.out W1 HB.out 0 _ rfl
  have q1 : W1.cell? ⟨c.sg, bn * 4 + 1, none⟩ = some (.int .i64 s1) := HSP.out W1 HB.out 1 _ rfl
  have q2 : W1.cell? ⟨c.sg, bn * 4 + 2, none⟩ = some (.int .i64 s2) := HSP.out W1 HB.out 2 _ rfl
  have q3 : W1.cell? ⟨c.sg, bn * 4 + 3, none⟩ = some (.bool s3) := HSP.out W1 HB.out 3 _ rfl
  have HK2 : Hid (ChkW w c B fl N σ #[.int .i64 d, .int .i64 s, .int .i64 a, .int .i64 l, .int .i64 k, .int .i64 (bn : Int), .int .i64 p, .int .i64 r, .int .i64 e] #[.int .i64 s0, .int .i64 s1, .int .i64 s2, .bool s3] (W1.alloc (.cells #[.int .i64 s0, .int .i64 s1, .int .i64 s2, .bool s3] 60)).drew) := Lib.hid ⟨blkDrew (blkOld HE.out), blkDrew (blkNew HZ.out.symm), (HCU1.out.ext (below_alloc _ _)).ext (below_drew (Below.refl _ _)), ((HFM.out.below HB.out).below (below_alloc _ _)).below (below_drew (Below.refl _ _)), below_step HB.out (below_drew (below_alloc _ _))⟩
  have HSZ : Hid (W1.heap.size = w.heap.size + 1) := HZ
  go_region
  rw [HSZ.out]
  clear e0 e1 e2 e3 e4 e5 e6 e7 e8 d4 d5 d6 d7 lg ls lw q0 q1 q2 q3 HE HB HCU1 HSP HCU HZ HSZ hnn hn0
  generalize (W1.alloc (.cells #[.int .i64 s0, .int .i64 s1, .int .i64 s2, .bool s3] 60)).drew = W2 at *
  obtain ⟨V, hlk, hV⟩ := HK2.out.cu.lookO e he
  have HV := Lib.hid hV
  have hlk' : ∀ n, (Instr.lookup 55 (.map (some c.bo)) (.int .i64 e) false).run Try.prog (W2.drewN n) = .ok V (W2.drewN n) := fun n => hlk _ (below_drewN (Below.refl _ _) n)
  obtain ⟨d4, d5, d6, d7⟩ := HK2.out.cu.cells
  obtain ⟨e0, e1, e2, e3, e4, e5, e6, e7, e8⟩ := nine_cellsE HK2.out.e
  clear hlk hV
  go_upto_region 2 with (fail)
  go_quiet (fail)
  have HB3 : Hid (Below W2.heap.size W2 (W2.drewN nq)) := Lib.hid (below_drewN (Below.refl _ _) nq)
  have HK0 := Lib.hid (HK2.out.ext HB3.out)
  clear hlk' d4 d5 d6 d7 e0 e1 e2 e3 e4 e5 e6 e7 e8 HK2
  generalize W2.drewN nq = W3 at *
  have HPK := Lib.hid (fun W => parked_any ⟨s0, s1, s2, s3⟩ W)
  dsimp only [spA] at HPK
  obtain ⟨a0, a1, a2, a3⟩ := four_cells HK0.out.x
  obtain ⟨e0, e1, e2, e3, e4, e5, e6, e7, e8⟩ := nine_cellsE HK0.out.e
  obtain ⟨n1, n2, n3, n4, n5, n6, n7, n8, n9⟩ := hk
  have HT1 : Hid (T = 0) := Lib.hid (by rw [← HT.out]; simp [n1, n2, n3, n4, n5, n6, n7, n8, n9])
  go_wp2_with fail
  have hh := HT1.out
  subst hh
  go_ret
  exact ⟨rfl, HK0.out.bel⟩
end Go.Proofs.Ytdgjdbpbnipjcaa
