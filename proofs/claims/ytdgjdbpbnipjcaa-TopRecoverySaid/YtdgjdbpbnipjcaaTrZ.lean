/-
  CUSTODY: what an event does. (Printed by gen_trz.py.)
-/
import Derived.Test.YtdgjdbpbnipjcaaTrX
import Derived.BigQuiet
import Derived.BigRegion
import Derived.Laws.StructEq
import Derived.StillTailTactics
import Derived.RegionTactic
import Derived.Deep.DeepCutAuto
import Derived.Deep.QuietTactic
import Derived.WalkSpells
import Derived.WalkLawsBesides
namespace Go.Proofs.Ytdgjdbpbnipjcaa
open Go.RowKit Go.Maps
set_option linter.unusedVariables false

def doS (σ : StL) (x : EvL) : StL :=
  if x.k = 1 then leaveS σ x.b.toNat ⟨1, x.p, 0, false⟩
  else if x.k = 2 then leaveS σ x.b.toNat ⟨2, x.p, 0, false⟩
  else if x.k = 3 then ⟨σ.sp.set x.b.toNat ⟨3, 0, x.e, false⟩, fun j => if j = x.e then some ⟨x.r, x.b, false⟩ else σ.o j, fun j => decide (j = x.e) || σ.u j, x.e :: σ.ks⟩
  else if x.k = 4 then ⟨(σ.sp.set ((σ.o x.e).getD ⟨0, 0, false⟩).b.toNat (σ.sp.getD x.b.toNat SpL.zero)).set x.b.toNat ⟨3, 0, x.e, false⟩, fun j => if j = x.e then some ⟨((σ.o x.e).getD ⟨0, 0, false⟩).r, x.b, ((σ.o x.e).getD ⟨0, 0, false⟩).z⟩ else σ.o j, σ.u, σ.ks⟩
  else if x.k = 5 then pauseS σ x.b.toNat true
  else if x.k = 6 then pauseS σ x.b.toNat false
  else if x.k = 7 then leaveS σ x.b.toNat ⟨4, x.p, 0, false⟩
  else if x.k = 8 then leaveS σ x.b.toNat ⟨5, 0, 0, false⟩
  else if x.k = 9 then leaveS σ x.b.toNat ⟨6, 0, 0, false⟩
  else σ
structure DoW (w : World) (c : CuP) (B : Nat) (fl : FlL) (N : Nat) (σ : StL) (E X : Array Value) (W : World) : Prop where
  e : BlkAt W w.heap.size E
  x : BlkAt W (w.heap.size + 1) X
  cu : CuW c B fl N W σ
  bel : Below B w W
  lt : w.heap.size + 1 < W.heap.size
theorem CuW.mono {c : CuP} {B : Nat} {fl : FlL} {N N' : Nat} {W : World} {σ : StL} (h : CuW c B fl N W σ) (hn : N ≤ N') : CuW c B fl N' W σ := by
  obtain ⟨F, nO, nU, DO, DU, h⟩ := h
  exact ⟨F, nO, nU, DO, DU, h.blk, h.row, h.len, h.mo, h.mu, Nat.le_trans h.hO hn, Nat.le_trans h.hU hn, h.tr, h.inj, h.ab, h.hk, h.hg, h.ho, h.hu, h.oo, h.fr⟩
theorem doW_new {c : CuP} {B : Nat} {fl : FlL} {N : Nat} {w : World} {σ : StL} (h : CuW c B fl N w σ) (E X : Array Value) (T1 T2 : TypeId) : DoW w c B fl N σ E X ((w.alloc (.cells E T1)).alloc (.cells X T2)) :=
  ⟨blkOld (blkNew rfl), blkNew (by simp), (h.ext (below_alloc _ _)).ext (below_alloc _ _), ((below_alloc _ _).mono h.size).trans ((below_alloc _ _).mono (by have := h.size; simp; omega)), by simp⟩
theorem CuW.putKey {c : CuP} {B : Nat} {fl : FlL} {N : Nat} {W : World} {σ : StL} (h : CuW c B fl N W σ) (hN : N < 1000000) (k : Int) (hk : InI k) (t : TpL) :
    ∃ W', (Instr.mapUpdate 55 (.map (some c.bo)) (.int .i64 k) (.pointer (some ⟨W.heap.size, 0, none⟩))).run Try.prog (W.alloc (.cells (tpA t) 94)) = .ok () W' ∧
      CuW c B fl (N + 1) W' { σ with o := fun j => if j = k then some t else σ.o j, ks := k :: σ.ks } ∧ Below B W W' ∧ (W.alloc (.cells (tpA t) 94)).grownBy W' (some c.bo) := by
  obtain ⟨F, nO, nU, DO, DU, h⟩ := h
  exact h.putKey hN k hk t
theorem CuW.putUse {c : CuP} {B : Nat} {fl : FlL} {N : Nat} {W : World} {σ : StL} (h : CuW c B fl N W σ) (hN : N < 1000000) (k : Int) (hk : InI k) :
    ∃ W', (Instr.mapUpdate 56 (.map (some c.bu)) (.int .i64 k) (.bool true)).run Try.prog W = .ok () W' ∧
      CuW c B fl (N + 1) W' { σ with u := fun j => decide (j = k) || σ.u j } ∧ Below B W W' ∧ W.grownBy W' (some c.bu) := by
  obtain ⟨F, nO, nU, DO, DU, h⟩ := h
  exact h.putUse hN k hk
set_option maxRecDepth 100000 in
set_option maxHeartbeats 4000000 in
theorem do_k1 {c : CuP} {B : Nat} {fl : FlL} {N : Nat} {w : World} {σ : StL} (h : CuW c B fl N w σ) (x : EvL) (bn : Nat) (hb : x.b = (bn : Int)) (hbn : bn < c.n) (hk : x.k = 1) (hr : (σ.sp.getD bn SpL.zero).w = 3 → InI (σ.sp.getD bn SpL.zero).r) :
    Calls Try.prog 31 #[.pointer (some ⟨c.g, 0, none⟩), .agg (evA x)] w (fun e w' => e = .returned (.tuple #[]) ∧ CuW c B fl (N + 2) w' (doS σ x) ∧ Below B w w') := by
  have HLV := Lib.hid (fun W (h : CuW c B fl N W σ) => leave_any h bn hbn ⟨1, x.p, 0, false⟩ hr)
  dsimp only [spA] at HLV
  obtain ⟨σ', hσ'⟩ : ∃ σ', doS σ x = σ' := ⟨_, rfl⟩
  rw [hσ']
  have HSI : Hid (leaveS σ bn ⟨1, x.p, 0, false⟩ = σ') := Lib.hid (by rw [← hσ']; unfold doS; rw [hb, hk, Int.toNat_natCast]; rfl)
  clear hσ' hr
  obtain ⟨d, s, a, l, k, b, p, r, e⟩ := x
  dsimp only at *
  subst hb
  subst hk
  dsimp only [evA, Int.toNat_natCast] at *
  have HD := Lib.hid (doW_new h #[.int .i64 d, .int .i64 s, .int .i64 a, .int .i64 l, .int .i64 1, .int .i64 (bn : Int), .int .i64 p, .int .i64 r, .int .i64 e] #[.int .i64 3, .int .i64 0, .int .i64 e, .bool false] 27 60)
  have HS := Lib.hid h
  clear h
  go_enter Try.func31, Try.ntmps31
  go_upto_region 2 with (fail)
  generalize (w.alloc (.cells #[.int .i64 d, .int .i64 s, .int .i64 a, .int .i64 l, .int .i64 1, .int .i64 (bn : Int), .int .i64 p, .int .i64 r, .int .i64 e] 27)).alloc (.cells #[.int .i64 3, .int .i64 0, .int .i64 e, .bool false] 60) = W2 at *
  obtain ⟨e0, e1, e2, e3, e4, e5, e6, e7, e8⟩ := nine_cellsE HD.out.e
  go_wp2_with fail
  refine (HLV.out _ HD.out.cu).mono ?_
  rintro e' w3 ⟨rfl, hc, hb⟩
  have HF := Lib.hid (And.intro (hc.mono (Nat.le_add_right N 2)) (HD.out.bel.trans hb))
  rw [HSI.out] at HF
  clear hc hb e0 e1 e2 e3 e4 e5 e6 e7 e8
  go_wp2_with fail
  go_end0
  exact ⟨rfl, HF.out.1, HF.out.2⟩
set_option maxRecDepth 100000 in
set_option maxHeartbeats 4000000 in
theorem do_k2 {c : CuP} {B : Nat} {fl : FlL} {N : Nat} {w : World} {σ : StL} (h : CuW c B fl N w σ) (x : EvL) (bn : Nat) (hb : x.b = (bn : Int)) (hbn : bn < c.n) (hk : x.k = 2) (hr : (σ.sp.getD bn SpL.zero).w = 3 → InI (σ.sp.getD bn SpL.zero).r) :
    Calls Try.prog 31 #[.pointer (some ⟨c.g, 0, none⟩), .agg (evA x)] w (fun e w' => e = .returned (.tuple #[]) ∧ CuW c B fl (N + 2) w' (doS σ x) ∧ Below B w w') := by
  have HLV := Lib.hid (fun W (h : CuW c B fl N W σ) => leave_any h bn hbn ⟨2, x.p, 0, false⟩ hr)
  dsimp only [spA] at HLV
  obtain ⟨σ', hσ'⟩ : ∃ σ', doS σ x = σ' := ⟨_, rfl⟩
  rw [hσ']
  have HSI : Hid (leaveS σ bn ⟨2, x.p, 0, false⟩ = σ') := Lib.hid (by rw [← hσ']; unfold doS; rw [hb, hk, Int.toNat_natCast]; rfl)
  clear hσ' hr
  obtain ⟨d, s, a, l, k, b, p, r, e⟩ := x
  dsimp only at *
  subst hb
  subst hk
  dsimp only [evA, Int.toNat_natCast] at *
  have HD := Lib.hid (doW_new h #[.int .i64 d, .int .i64 s, .int .i64 a, .int .i64 l, .int .i64 2, .int .i64 (bn : Int), .int .i64 p, .int .i64 r, .int .i64 e] #[.int .i64 3, .int .i64 0, .int .i64 e, .bool false] 27 60)
  have HS := Lib.hid h
  clear h
  go_enter Try.func31, Try.ntmps31
  go_upto_region 2 with (fail)
  generalize (w.alloc (.cells #[.int .i64 d, .int .i64 s, .int .i64 a, .int .i64 l, .int .i64 2, .int .i64 (bn : Int), .int .i64 p, .int .i64 r, .int .i64 e] 27)).alloc (.cells #[.int .i64 3, .int .i64 0, .int .i64 e, .bool false] 60) = W2 at *
  obtain ⟨e0, e1, e2, e3, e4, e5, e6, e7, e8⟩ := nine_cellsE HD.out.e
  go_wp2_with fail
  refine (HLV.out _ HD.out.cu).mono ?_
  rintro e' w3 ⟨rfl, hc, hb⟩
  have HF := Lib.hid (And.intro (hc.mono (Nat.le_add_right N 2)) (HD.out.bel.trans hb))
  rw [HSI.out] at HF
  clear hc hb e0 e1 e2 e3 e4 e5 e6 e7 e8
  go_wp2_with fail
  go_end0
  exact ⟨rfl, HF.out.1, HF.out.2⟩
set_option maxRecDepth 100000 in
set_option maxHeartbeats 4000000 in
theorem do_k3 {c : CuP} {B : Nat} {fl : FlL} {N : Nat} {w : World} {σ : StL} (h : CuW c B fl N w σ) (x : EvL) (bn : Nat) (hb : x.b = (bn : Int)) (hbn : bn < c.n) (hk : x.k = 3) (hN : N + 1 < 1000000) (he : InI x.e) :
    Calls Try.prog 31 #[.pointer (some ⟨c.g, 0, none⟩), .agg (evA x)] w (fun e w' => e = .returned (.tuple #[]) ∧ CuW c B fl (N + 2) w' (doS σ x) ∧ Below B w w') := by
  obtain ⟨σ', hσ'⟩ : ∃ σ', doS σ x = σ' := ⟨_, rfl⟩
  rw [hσ']
  have HSI : Hid (σ' = ⟨σ.sp.set bn ⟨3, 0, x.e, false⟩, fun j => if j = x.e then some ⟨x.r, x.b, false⟩ else σ.o j, fun j => decide (j = x.e) || σ.u j, x.e :: σ.ks⟩) := Lib.hid (by rw [← hσ']; unfold doS; rw [hk]; simp only [hb, Int.toNat_natCast]; rfl)
  clear hσ'
  obtain ⟨d, s, a, l, k, b, p, r, e⟩ := x
  dsimp only at *
  subst hb
  subst hk
  dsimp only [evA, Int.toNat_natCast] at *
  have HD := Lib.hid (doW_new h #[.int .i64 d, .int .i64 s, .int .i64 a, .int .i64 l, .int .i64 3, .int .i64 (bn : Int), .int .i64 p, .int .i64 r, .int .i64 e] #[.int .i64 3, .int .i64 0, .int .i64 e, .bool false] 27 60)
  have HS := Lib.hid h
  clear h
  go_enter Try.func31, Try.ntmps31
  go_upto_region 2 with (fail)
  generalize (w.alloc (.cells #[.int .i64 d, .int .i64 s, .int .i64 a, .int .i64 l, .int .i64 3, .int .i64 (bn : Int), .int .i64 p, .int .i64 r, .int .i64 e] 27)).alloc (.cells #[.int .i64 3, .int .i64 0, .int .i64 e, .bool false] 60) = W2 at *
  obtain ⟨e0, e1, e2, e3, e4, e5, e6, e7, e8⟩ := nine_cellsE HD.out.e
  obtain ⟨W3, hmu, hc3, hb3, hg3⟩ := (HD.out.cu.ext (show Below W2.heap.size W2 W2.drew from below_drew (Below.refl _ _))).putKey (by omega) e he ⟨r, (bn : Int), false⟩
  have hmu' : (Instr.mapUpdate 55 (.map (some c.bo)) (.int .i64 e) (.pointer (some ⟨W2.heap.size, 0, none⟩))).run Try.prog (W2.alloc (.cells #[.int .i64 r, .int .i64 (bn : Int), .bool false] 94)).drew = .ok () W3 := hmu
  have hbo := HS.out.mbo
  have HE3 : Hid (BlkAt W3 w.heap.size #[.int .i64 d, .int .i64 s, .int .i64 a, .int .i64 l, .int .i64 3, .int .i64 (bn : Int), .int .i64 p, .int .i64 r, .int .i64 e]) := Lib.hid (blkGB (blkOld (blkDrew HD.out.e)) hg3 (by omega))
  have HX3 : Hid (BlkAt W3 (w.heap.size + 1) #[.int .i64 3, .int .i64 0, .int .i64 e, .bool false]) := Lib.hid (blkGB (blkOld (blkDrew HD.out.x)) hg3 (by omega))
  have HC3 := Lib.hid hc3
  have HB3 : Hid (Below B w W3) := Lib.hid ((below_drew HD.out.bel).trans hb3)
  have hl3 := HD.out.lt
  obtain ⟨lg, ls⟩ := HD.out.cu.lts
  obtain ⟨d4, d5, d6, d7⟩ := HD.out.cu.cells
  have hlw : w.heap.size < W2.heap.size := by omega
  clear hmu hc3 hb3 hg3 hbo hl3 d4 d5 d7 e0 e1 e2 e3 e6
  go_upto_region 8 with (fail)
  go_region
  clear hmu' d6 e4 e5 e7 e8 lg ls hlw
  obtain ⟨W4, hmu, hc4, hb4, hg4⟩ := (HC3.out.ext (show Below W3.heap.size W3 W3.drew from below_drew (Below.refl _ _))).putUse (by omega) e he
  have hbo := HS.out.mbo
  have HE4 : Hid (BlkAt W4 w.heap.size #[.int .i64 d, .int .i64 s, .int .i64 a, .int .i64 l, .int .i64 3, .int .i64 (bn : Int), .int .i64 p, .int .i64 r, .int .i64 e]) := Lib.hid (blkGB (blkDrew HE3.out) hg4 (by omega))
  have HX4 : Hid (BlkAt W4 (w.heap.size + 1) #[.int .i64 3, .int .i64 0, .int .i64 e, .bool false]) := Lib.hid (blkGB (blkDrew HX3.out) hg4 (by omega))
  have HC4 := Lib.hid hc4
  have HB4 : Hid (Below B w W4) := Lib.hid ((below_drew HB3.out).trans hb4)
  obtain ⟨e0, e1, e2, e3, e4, e5, e6, e7, e8⟩ := nine_cellsE HE3.out
  obtain ⟨d4, d5, d6, d7⟩ := HC3.out.cells
  clear hc4 hb4 hg4 hbo d4 d5 d6 e0 e1 e2 e3 e4 e5 e6 e7
  go_upto_region 9 with (fail)
  go_region
  clear hmu d7 e8
  obtain ⟨e0, e1, e2, e3, e4, e5, e6, e7, e8⟩ := nine_cellsE HE4.out
  obtain ⟨x0, x1, x2, x3⟩ := four_cells HX4.out
  obtain ⟨d4, d5, d6, d7⟩ := HC4.out.cells
  obtain ⟨⟨u0, u1, u2, u3⟩, hu⟩ : ∃ u, σ.sp.getD bn SpL.zero = u := ⟨_, rfl⟩
  have hq := fun j v hv => HC4.out.spot bn hbn j v (by show (spA (σ.sp.getD bn SpL.zero))[j]? = some v; rw [hu]; exact hv)
  have q0 : W4.cell? ⟨c.sg, bn * 4, none⟩ = some (.int .i64 u0) := hq 0 _ rfl
  have q1 : W4.cell? ⟨c.sg, bn * 4 + 1, none⟩ = some (.int .i64 u1) := hq 1 _ rfl
  have q2 : W4.cell? ⟨c.sg, bn * 4 + 2, none⟩ = some (.int .i64 u2) := hq 2 _ rfl
  have q3 : W4.cell? ⟨c.sg, bn * 4 + 3, none⟩ = some (.bool u3) := hq 3 _ rfl
  have f0 := HC4.out.fz (bn * 4)
  have f1 := HC4.out.fz (bn * 4 + 1)
  have f2 := HC4.out.fz (bn * 4 + 2)
  have f3 := HC4.out.fz (bn * 4 + 3)
  have hnn : (bn : Int) < (c.n : Int) := by omega
  have hn0 : (0 : Int) ≤ (bn : Int) := by omega
  have hfin := (HC4.out.ext (below_drew (Below.refl _ _))).putSpot bn hbn ⟨3, 0, e, false⟩
  have HFIN := Lib.hid (And.intro hfin.1 ((below_drew HB4.out).trans hfin.2))
  clear hfin hq hu d4 d6 d7 e0 e1 e2 e3 e4 e6 e7 e8
  have hh := HSI.out
  subst hh
  go_upto_region 10 with (fail)
  go_region
  go_wp2_with fail
  go_end0
  exact ⟨rfl, HFIN.out.1, HFIN.out.2⟩
end Go.Proofs.Ytdgjdbpbnipjcaa
