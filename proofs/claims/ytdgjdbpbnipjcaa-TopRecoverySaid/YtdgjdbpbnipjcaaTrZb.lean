/-
  CUSTODY: what an event does. (Printed by gen_trz.py.)
-/
import Derived.Test.YtdgjdbpbnipjcaaTrZ
import Derived.BigQuiet
import Derived.BigRegion
import Derived.Laws.StructEq
import Derived.StillTailTactics
import Derived.RegionTactic
import Derived.Deep.DeepCutAuto
import Derived.Deep.QuietTactic
import Derived.WalkSpells
import Derived.WalkLawsBesides
namespace Go.Proofs.Ytdgjdbpbnipjcaa
open Go.RowKit Go.Maps
set_option linter.unusedVariables false

set_option maxRecDepth 100000 in
set_option maxHeartbeats 4000000 in
theorem do_k4 {c : CuP} {B : Nat} {fl : FlL} {N : Nat} {w : World} {σ : StL} (h : CuW c B fl N w σ) (x : EvL) (bn : Nat) (hb : x.b = (bn : Int)) (hbn : bn < c.n) (hk : x.k = 4) (he : InI x.e) (t : TpL) (ho : σ.o x.e = some t) (tbn : Nat) (htb : t.b = (tbn : Int)) (htn : tbn < c.n) :
    Calls Try.prog 31 #[.pointer (some ⟨c.g, 0, none⟩), .agg (evA x)] w (fun e w' => e = .returned (.tuple #[]) ∧ CuW c B fl (N + 2) w' (doS σ x) ∧ Below B w w') := by
  obtain ⟨σ', hσ'⟩ : ∃ σ', doS σ x = σ' := ⟨_, rfl⟩
  rw [hσ']
  have HSI : Hid (σ' = ⟨(σ.sp.set tbn (σ.sp.getD bn SpL.zero)).set bn ⟨3, 0, x.e, false⟩, fun j => if j = x.e then some ⟨t.r, x.b, t.z⟩ else σ.o j, σ.u, σ.ks⟩) := Lib.hid (by rw [← hσ']; unfold doS; rw [hk, ho]; simp only [hb, Option.getD_some, htb, Int.toNat_natCast]; rfl)
  clear hσ'
  obtain ⟨d, s, a, l, k, b, p, r, e⟩ := x
  dsimp only at *
  subst hb
  subst hk
  dsimp only [evA, Int.toNat_natCast] at *
  have HD := Lib.hid (doW_new h #[.int .i64 d, .int .i64 s, .int .i64 a, .int .i64 l, .int .i64 4, .int .i64 (bn : Int), .int .i64 p, .int .i64 r, .int .i64 e] #[.int .i64 3, .int .i64 0, .int .i64 e, .bool false] 27 60)
  have HS := Lib.hid h
  clear h
  go_enter Try.func31, Try.ntmps31
  go_upto_region 2 with (fail)
  generalize (w.alloc (.cells #[.int .i64 d, .int .i64 s, .int .i64 a, .int .i64 l, .int .i64 4, .int .i64 (bn : Int), .int .i64 p, .int .i64 r, .int .i64 e] 27)).alloc (.cells #[.int .i64 3, .int .i64 0, .int .i64 e, .bool false] 60) = W2 at *
  obtain ⟨e0, e1, e2, e3, e4, e5, e6, e7, e8⟩ := nine_cellsE HD.out.e
  obtain ⟨tr, tb, tz⟩ := t
  dsimp only at htb HSI
  subst htb
  obtain ⟨F, nO, nU, DO, DU, hc⟩ := HD.out.cu
  obtain ⟨q, hF⟩ : ∃ q, F e = some (q, ⟨tr, (tbn : Int), tz⟩) := by
    rw [hc.ab] at ho
    obtain ⟨pp, hp, e2⟩ := Option.map_eq_some_iff.1 ho
    exact ⟨pp.1, by rw [hp, ← e2]⟩
  have hcd := hc.ext (show Below W2.heap.size W2 W2.drew from below_drew (Below.refl _ _))
  have hlk : (Instr.lookup 55 (.map (some c.bo)) (.int .i64 e) false).run Try.prog W2.drew = .ok (.pointer (some ⟨q, 0, none⟩)) W2.drew := by
    rw [hcd.mo.look Try.underlying55 (z := .pointer none) (by kernel_rfl) _ he, show ptrV F e = some (.pointer (some ⟨q, 0, none⟩)) by unfold ptrV; rw [hF]; rfl]
    rfl
  obtain ⟨d4, d5, d6, d7⟩ := hc.cells
  have HCD := Lib.hid hcd
  have HB3 : Hid (Below B w W2.drew) := Lib.hid (below_drew HD.out.bel)
  have HE3 : Hid (BlkAt W2.drew w.heap.size #[.int .i64 d, .int .i64 s, .int .i64 a, .int .i64 l, .int .i64 4, .int .i64 (bn : Int), .int .i64 p, .int .i64 r, .int .i64 e]) := Lib.hid (blkDrew HD.out.e)
  have HX3 : Hid (BlkAt W2.drew (w.heap.size + 1) #[.int .i64 3, .int .i64 0, .int .i64 e, .bool false]) := Lib.hid (blkDrew HD.out.x)
  have HQ : Hid (c.sg ≠ w.heap.size ∧ c.sg ≠ w.heap.size + 1) := Lib.hid (by have := HS.out.lts; omega)
  have HHF := Lib.hid hF
  clear hc hcd ho d4 d5 d7 e0 e1 e2 e3 e5 e6 e7 hF HD HS
  go_upto_region 12 with (fail)
  go_region
  clear hlk d6 e4 e8
  generalize W2.drew = W3 at *
  have htr := (HCD.out.tr _ _ _ HHF.out).1
  have b1 : W3.cell? ⟨q, 1, none⟩ = some (.int .i64 (tbn : Int)) := by rw [cell_of_row _ _ _ _ _ _ htr]; rfl
  obtain ⟨d4, d5, d6, d7⟩ := HCD.out.cells
  obtain ⟨e0, e1, e2, e3, e4, e5, e6, e7, e8⟩ := nine_cellsE HE3.out
  obtain ⟨⟨u0, u1, u2, u3⟩, hu⟩ : ∃ u, σ.sp.getD bn SpL.zero = u := ⟨_, rfl⟩
  obtain ⟨⟨v0, v1, v2, v3⟩, hv⟩ : ∃ u, σ.sp.getD tbn SpL.zero = u := ⟨_, rfl⟩
  have hq := fun j v hv => HCD.out.spot bn hbn j v (by rw [hu]; exact hv)
  have hqv := fun j v hw => HCD.out.spot tbn htn j v (by rw [hv]; exact hw)
  have q0 : W3.cell? ⟨c.sg, bn * 4, none⟩ = some (.int .i64 u0) := hq 0 _ rfl
  have q1 : W3.cell? ⟨c.sg, bn * 4 + 1, none⟩ = some (.int .i64 u1) := hq 1 _ rfl
  have q2 : W3.cell? ⟨c.sg, bn * 4 + 2, none⟩ = some (.int .i64 u2) := hq 2 _ rfl
  have q3 : W3.cell? ⟨c.sg, bn * 4 + 3, none⟩ = some (.bool u3) := hq 3 _ rfl
  have r0 : W3.cell? ⟨c.sg, tbn * 4, none⟩ = some (.int .i64 v0) := hqv 0 _ rfl
  have r1 : W3.cell? ⟨c.sg, tbn * 4 + 1, none⟩ = some (.int .i64 v1) := hqv 1 _ rfl
  have r2 : W3.cell? ⟨c.sg, tbn * 4 + 2, none⟩ = some (.int .i64 v2) := hqv 2 _ rfl
  have r3 : W3.cell? ⟨c.sg, tbn * 4 + 3, none⟩ = some (.bool v3) := hqv 3 _ rfl
  have f0 := HCD.out.sfz (tbn * 4)
  have f1 := HCD.out.sfz (tbn * 4 + 1)
  have f2 := HCD.out.sfz (tbn * 4 + 2)
  have f3 := HCD.out.sfz (tbn * 4 + 3)
  have hnn : (bn : Int) < (c.n : Int) := by omega
  have hn0 : (0 : Int) ≤ (bn : Int) := by omega
  have htnn : (tbn : Int) < (c.n : Int) := by omega
  have htn0 : (0 : Int) ≤ (tbn : Int) := by omega
  have hp4 := (HCD.out.ext (show Below W3.heap.size W3 W3.drew from below_drew (Below.refl _ _))).putSpot tbn htn ⟨u0, u1, u2, u3⟩
  have HP4 : Hid (CuAt c B fl N (((((W3.setCell ⟨c.sg, tbn * 4, none⟩ (.int .i64 u0)).setCell ⟨c.sg, tbn * 4 + 1, none⟩ (.int .i64 u1)).setCell ⟨c.sg, tbn * 4 + 2, none⟩ (.int .i64 u2)).setCell ⟨c.sg, tbn * 4 + 3, none⟩ (.bool u3)).drew) ⟨σ.sp.set tbn ⟨u0, u1, u2, u3⟩, σ.o, σ.u, σ.ks⟩ F nO nU DO DU ∧ Below B w (((((W3.setCell ⟨c.sg, tbn * 4, none⟩ (.int .i64 u0)).setCell ⟨c.sg, tbn * 4 + 1, none⟩ (.int .i64 u1)).setCell ⟨c.sg, tbn * 4 + 2, none⟩ (.int .i64 u2)).setCell ⟨c.sg, tbn * 4 + 3, none⟩ (.bool u3)).drew)) := Lib.hid ⟨hp4.1, (below_drew HB3.out).trans hp4.2⟩
  have HE4 : Hid (BlkAt (((((W3.setCell ⟨c.sg, tbn * 4, none⟩ (.int .i64 u0)).setCell ⟨c.sg, tbn * 4 + 1, none⟩ (.int .i64 u1)).setCell ⟨c.sg, tbn * 4 + 2, none⟩ (.int .i64 u2)).setCell ⟨c.sg, tbn * 4 + 3, none⟩ (.bool u3)).drew) w.heap.size #[.int .i64 d, .int .i64 s, .int .i64 a, .int .i64 l, .int .i64 4, .int .i64 (bn : Int), .int .i64 p, .int .i64 r, .int .i64 e]) := Lib.hid (blkDrew (blkU_off (blkU_off (blkU_off (blkU_off HE3.out HQ.out.1.symm) HQ.out.1.symm) HQ.out.1.symm) HQ.out.1.symm))
  have HX4 : Hid (BlkAt (((((W3.setCell ⟨c.sg, tbn * 4, none⟩ (.int .i64 u0)).setCell ⟨c.sg, tbn * 4 + 1, none⟩ (.int .i64 u1)).setCell ⟨c.sg, tbn * 4 + 2, none⟩ (.int .i64 u2)).setCell ⟨c.sg, tbn * 4 + 3, none⟩ (.bool u3)).drew) (w.heap.size + 1) #[.int .i64 3, .int .i64 0, .int .i64 e, .bool false]) := Lib.hid (blkDrew (blkU_off (blkU_off (blkU_off (blkU_off HX3.out HQ.out.2.symm) HQ.out.2.symm) HQ.out.2.symm) HQ.out.2.symm))
  have HU := Lib.hid hu
  clear hp4 hq hqv hu hv htr d4 d6 d7 e0 e1 e2 e3 e4 e6 e7 e8
  go_upto_region 13 with (fail)
  go_region
  clear b1 d5 e5 q0 q1 q2 q3 r0 r1 r2 r3 f0 f1 f2 f3 HE3 HX3 HB3 HCD htnn htn0
  generalize ((((W3.setCell ⟨c.sg, tbn * 4, none⟩ (.int .i64 u0)).setCell ⟨c.sg, tbn * 4 + 1, none⟩ (.int .i64 u1)).setCell ⟨c.sg, tbn * 4 + 2, none⟩ (.int .i64 u2)).setCell ⟨c.sg, tbn * 4 + 3, none⟩ (.bool u3)).drew = W4 at *
  obtain ⟨d4, d5, d6, d7⟩ := HP4.out.1.cells
  obtain ⟨e0, e1, e2, e3, e4, e5, e6, e7, e8⟩ := nine_cellsE HE4.out
  obtain ⟨x0, x1, x2, x3⟩ := four_cells HX4.out
  obtain ⟨⟨v0, v1, v2, v3⟩, hv⟩ : ∃ u, (σ.sp.set tbn ⟨u0, u1, u2, u3⟩).getD bn SpL.zero = u := ⟨_, rfl⟩
  have hq := fun j v hw => HP4.out.1.spot bn hbn j v (by show (spA ((σ.sp.set tbn ⟨u0, u1, u2, u3⟩).getD bn SpL.zero))[j]? = some v; rw [hv]; exact hw)
  have q0 : W4.cell? ⟨c.sg, bn * 4, none⟩ = some (.int .i64 v0) := hq 0 _ rfl
  have q1 : W4.cell? ⟨c.sg, bn * 4 + 1, none⟩ = some (.int .i64 v1) := hq 1 _ rfl
  have q2 : W4.cell? ⟨c.sg, bn * 4 + 2, none⟩ = some (.int .i64 v2) := hq 2 _ rfl
  have q3 : W4.cell? ⟨c.sg, bn * 4 + 3, none⟩ = some (.bool v3) := hq 3 _ rfl
  have f0 := HP4.out.1.sfz (bn * 4)
  have f1 := HP4.out.1.sfz (bn * 4 + 1)
  have f2 := HP4.out.1.sfz (bn * 4 + 2)
  have f3 := HP4.out.1.sfz (bn * 4 + 3)
  have hp5 := (HP4.out.1.ext (show Below W4.heap.size W4 W4.drew from below_drew (Below.refl _ _))).putSpot bn hbn ⟨3, 0, e, false⟩
  have HP5 : Hid (CuAt c B fl N (((((W4.setCell ⟨c.sg, bn * 4, none⟩ (.int .i64 3)).setCell ⟨c.sg, bn * 4 + 1, none⟩ (.int .i64 0)).setCell ⟨c.sg, bn * 4 + 2, none⟩ (.int .i64 e)).setCell ⟨c.sg, bn * 4 + 3, none⟩ (.bool false)).drew) ⟨(σ.sp.set tbn ⟨u0, u1, u2, u3⟩).set bn ⟨3, 0, e, false⟩, σ.o, σ.u, σ.ks⟩ F nO nU DO DU ∧ Below B w (((((W4.setCell ⟨c.sg, bn * 4, none⟩ (.int .i64 3)).setCell ⟨c.sg, bn * 4 + 1, none⟩ (.int .i64 0)).setCell ⟨c.sg, bn * 4 + 2, none⟩ (.int .i64 e)).setCell ⟨c.sg, bn * 4 + 3, none⟩ (.bool false)).drew)) := Lib.hid ⟨hp5.1, (below_drew HP4.out.2).trans hp5.2⟩
  have HE5 : Hid (BlkAt (((((W4.setCell ⟨c.sg, bn * 4, none⟩ (.int .i64 3)).setCell ⟨c.sg, bn * 4 + 1, none⟩ (.int .i64 0)).setCell ⟨c.sg, bn * 4 + 2, none⟩ (.int .i64 e)).setCell ⟨c.sg, bn * 4 + 3, none⟩ (.bool false)).drew) w.heap.size #[.int .i64 d, .int .i64 s, .int .i64 a, .int .i64 l, .int .i64 4, .int .i64 (bn : Int), .int .i64 p, .int .i64 r, .int .i64 e]) := Lib.hid (blkDrew (blkU_off (blkU_off (blkU_off (blkU_off HE4.out HQ.out.1.symm) HQ.out.1.symm) HQ.out.1.symm) HQ.out.1.symm))
  clear hp5 hq hv d4 d6 d7 e0 e1 e2 e3 e4 e6 e7 e8
  go_upto_region 14 with (fail)
  go_region
  clear d5 e5 q0 q1 q2 q3 f0 f1 f2 f3 HE4 HX4 HP4 x0 x1 x2 x3
  generalize ((((W4.setCell ⟨c.sg, bn * 4, none⟩ (.int .i64 3)).setCell ⟨c.sg, bn * 4 + 1, none⟩ (.int .i64 0)).setCell ⟨c.sg, bn * 4 + 2, none⟩ (.int .i64 e)).setCell ⟨c.sg, bn * 4 + 3, none⟩ (.bool false)).drew = W5 at *
  obtain ⟨e0, e1, e2, e3, e4, e5, e6, e7, e8⟩ := nine_cellsE HE5.out
  have htr := (HP5.out.1.tr _ _ _ HHF.out).1
  have b1 : W5.cell? ⟨q, 1, none⟩ = some (.int .i64 (tbn : Int)) := by rw [cell_of_row _ _ _ _ _ _ htr]; rfl
  have g1 : W5.frozen? ⟨q, 1, none⟩ = false := frozen_of_row _ _ _ _ _ htr
  have hst := HP5.out.1.setTrip HHF.out (W' := W5.setCell ⟨q, 1, none⟩ (.int .i64 (bn : Int))) (t' := ⟨tr, (bn : Int), tz⟩) ⟨rfl, rfl, rfl, by simp, fun k hk hne => heap_setCell_other _ _ _ _ (fun e => hne (by rw [e]))⟩ (by rw [heap_setCell_same _ _ _ _ _ _ htr]; rfl)
  have HFIN := Lib.hid (And.intro (hst.1.mono (Nat.le_add_right N 2)) (HP5.out.2.trans hst.2))
  have hh := HSI.out
  rw [HU.out] at hh
  subst hh
  clear hst htr e0 e1 e2 e3 e4 e6 e7 e8
  go_wp2_with fail
  go_end0
  exact ⟨rfl, HFIN.out.1, HFIN.out.2⟩
set_option maxRecDepth 100000 in
set_option maxHeartbeats 4000000 in
theorem do_k5 {c : CuP} {B : Nat} {fl : FlL} {N : Nat} {w : World} {σ : StL} (h : CuW c B fl N w σ) (x : EvL) (bn : Nat) (hb : x.b = (bn : Int)) (hbn : bn < c.n) (hk : x.k = 5) (hr : InI (σ.sp.getD bn SpL.zero).r) (t : TpL) (ho : σ.o (σ.sp.getD bn SpL.zero).r = some t) :
    Calls Try.prog 31 #[.pointer (some ⟨c.g, 0, none⟩), .agg (evA x)] w (fun e w' => e = .returned (.tuple #[]) ∧ CuW c B fl (N + 2) w' (doS σ x) ∧ Below B w w') := by
  have HLV := Lib.hid (fun W (h : CuW c B fl N W σ) => pause_any h bn hbn true hr t ho)
  obtain ⟨σ', hσ'⟩ : ∃ σ', doS σ x = σ' := ⟨_, rfl⟩
  rw [hσ']
  have HSI : Hid (pauseS σ bn true = σ') := Lib.hid (by rw [← hσ']; unfold doS; rw [hb, hk, Int.toNat_natCast]; rfl)
  clear hσ' hr ho
  obtain ⟨d, s, a, l, k, b, p, r, e⟩ := x
  dsimp only at *
  subst hb
  subst hk
  dsimp only [evA, Int.toNat_natCast] at *
  have HD := Lib.hid (doW_new h #[.int .i64 d, .int .i64 s, .int .i64 a, .int .i64 l, .int .i64 5, .int .i64 (bn : Int), .int .i64 p, .int .i64 r, .int .i64 e] #[.int .i64 3, .int .i64 0, .int .i64 e, .bool false] 27 60)
  have HS := Lib.hid h
  clear h
  go_enter Try.func31, Try.ntmps31
  go_upto_region 2 with (fail)
  generalize (w.alloc (.cells #[.int .i64 d, .int .i64 s, .int .i64 a, .int .i64 l, .int .i64 5, .int .i64 (bn : Int), .int .i64 p, .int .i64 r, .int .i64 e] 27)).alloc (.cells #[.int .i64 3, .int .i64 0, .int .i64 e, .bool false] 60) = W2 at *
  obtain ⟨e0, e1, e2, e3, e4, e5, e6, e7, e8⟩ := nine_cellsE HD.out.e
  go_wp2_with fail
  refine (HLV.out _ HD.out.cu).mono ?_
  rintro e' w3 ⟨rfl, hc, hb⟩
  have HF := Lib.hid (And.intro (hc.mono (Nat.le_add_right N 2)) (HD.out.bel.trans hb))
  rw [HSI.out] at HF
  clear hc hb e0 e1 e2 e3 e4 e5 e6 e7 e8
  go_wp2_with fail
  go_end0
  exact ⟨rfl, HF.out.1, HF.out.2⟩
set_option maxRecDepth 100000 in
set_option maxHeartbeats 4000000 in
theorem do_k6 {c : CuP} {B : Nat} {fl : FlL} {N : Nat} {w : World} {σ : StL} (h : CuW c B fl N w σ) (x : EvL) (bn : Nat) (hb : x.b = (bn : Int)) (hbn : bn < c.n) (hk : x.k = 6) (hr : InI (σ.sp.getD bn SpL.zero).r) (t : TpL) (ho : σ.o (σ.sp.getD bn SpL.zero).r = some t) :
    Calls Try.prog 31 #[.pointer (some ⟨c.g, 0, none⟩), .agg (evA x)] w (fun e w' => e = .returned (.tuple #[]) ∧ CuW c B fl (N + 2) w' (doS σ x) ∧ Below B w w') := by
  have HLV := Lib.hid (fun W (h : CuW c B fl N W σ) => pause_any h bn hbn false hr t ho)
  obtain ⟨σ', hσ'⟩ : ∃ σ', doS σ x = σ' := ⟨_, rfl⟩
  rw [hσ']
  have HSI : Hid (pauseS σ bn false = σ') := Lib.hid (by rw [← hσ']; unfold doS; rw [hb, hk, Int.toNat_natCast]; rfl)
  clear hσ' hr ho
  obtain ⟨d, s, a, l, k, b, p, r, e⟩ := x
  dsimp only at *
  subst hb
  subst hk
  dsimp only [evA, Int.toNat_natCast] at *
  have HD := Lib.hid (doW_new h #[.int .i64 d, .int .i64 s, .int .i64 a, .int .i64 l, .int .i64 6, .int .i64 (bn : Int), .int .i64 p, .int .i64 r, .int .i64 e] #[.int .i64 3, .int .i64 0, .int .i64 e, .bool false] 27 60)
  have HS := Lib.hid h
  clear h
  go_enter Try.func31, Try.ntmps31
  go_upto_region 2 with (fail)
  generalize (w.alloc (.cells #[.int .i64 d, .int .i64 s, .int .i64 a, .int .i64 l, .int .i64 6, .int .i64 (bn : Int), .int .i64 p, .int .i64 r, .int .i64 e] 27)).alloc (.cells #[.int .i64 3, .int .i64 0, .int .i64 e, .bool false] 60) = W2 at *
  obtain ⟨e0, e1, e2, e3, e4, e5, e6, e7, e8⟩ := nine_cellsE HD.out.e
  go_wp2_with fail
  refine (HLV.out _ HD.out.cu).mono ?_
  rintro e' w3 ⟨rfl, hc, hb⟩
  have HF := Lib.hid (And.intro (hc.mono (Nat.le_add_right N 2)) (HD.out.bel.trans hb))
  rw [HSI.out] at HF
  clear hc hb e0 e1 e2 e3 e4 e5 e6 e7 e8
  go_wp2_with fail
  go_end0
  exact ⟨rfl, HF.out.1, HF.out.2⟩
end Go.Proofs.Ytdgjdbpbnipjcaa
