/-
  CUSTODY: leave, pause.
-/
import Derived.Test.YtdgjdbpbnipjcaaTrW
import Derived.BigQuiet
import Derived.BigRegion
import Derived.Laws.StructEq
import Derived.StillTailTactics
import Derived.RegionTactic
import Derived.Deep.DeepCutAuto
import Derived.Deep.QuietTactic
import Derived.WalkSpells
import Derived.WalkLawsBesides
namespace Go.Proofs.Ytdgjdbpbnipjcaa
open Go.RowKit Go.Maps
set_option linter.unusedVariables false

def leaveS (σ : StL) (b : Nat) (tv : SpL) : StL :=
  if (σ.sp.getD b SpL.zero).w = 3 then ⟨σ.sp.set b tv, fun j => if j = (σ.sp.getD b SpL.zero).r then none else σ.o j, σ.u, σ.ks⟩
  else ⟨σ.sp.set b tv, σ.o, σ.u, σ.ks⟩
def pauseS (σ : StL) (b : Nat) (z : Bool) : StL :=
  ⟨σ.sp.set b ⟨(σ.sp.getD b SpL.zero).w, (σ.sp.getD b SpL.zero).p, (σ.sp.getD b SpL.zero).r, z⟩,
   fun j => if j = (σ.sp.getD b SpL.zero).r then some ⟨((σ.o (σ.sp.getD b SpL.zero).r).getD ⟨0, 0, false⟩).r, ((σ.o (σ.sp.getD b SpL.zero).r).getD ⟨0, 0, false⟩).b, z⟩ else σ.o j, σ.u, σ.ks⟩
section
variable {c : CuP} {B : Nat} {fl : FlL} {N : Nat} {w W : World} {σ : StL}
theorem CuW.size (h : CuW c B fl N W σ) : B ≤ W.heap.size := by
  obtain ⟨F, nO, nU, DO, DU, h⟩ := h
  exact h.size
theorem CuW.mbo (h : CuW c B fl N W σ) : c.bo < W.heap.size ∧ c.bu < W.heap.size := by
  obtain ⟨F, nO, nU, DO, DU, h⟩ := h
  obtain ⟨e1, l1, h1⟩ := h.mo.blk
  obtain ⟨e2, l2, h2⟩ := h.mu.blk
  exact ⟨(Array.getElem?_eq_some_iff.1 h1).1, (Array.getElem?_eq_some_iff.1 h2).1⟩
theorem CuW.fz (h : CuW c B fl N W σ) (j : Nat) : W.frozen? ⟨c.sg, j, none⟩ = false := by
  obtain ⟨F, nO, nU, DO, DU, h⟩ := h
  exact h.sfz j
theorem CuW.putSpot (h : CuW c B fl N W σ) (k : Nat) (hk : k < c.n) (x : SpL) :
    CuW c B fl N ((((W.setCell ⟨c.sg, k * 4, none⟩ (.int .i64 x.w)).setCell ⟨c.sg, k * 4 + 1, none⟩ (.int .i64 x.p)).setCell ⟨c.sg, k * 4 + 2, none⟩ (.int .i64 x.r)).setCell ⟨c.sg, k * 4 + 3, none⟩ (.bool x.z)) ⟨σ.sp.set k x, σ.o, σ.u, σ.ks⟩ ∧
    Below B W ((((W.setCell ⟨c.sg, k * 4, none⟩ (.int .i64 x.w)).setCell ⟨c.sg, k * 4 + 1, none⟩ (.int .i64 x.p)).setCell ⟨c.sg, k * 4 + 2, none⟩ (.int .i64 x.r)).setCell ⟨c.sg, k * 4 + 3, none⟩ (.bool x.z)) := by
  obtain ⟨F, nO, nU, DO, DU, h⟩ := h
  have := h.putSpot k hk x
  exact ⟨⟨_, _, _, _, _, this.1⟩, this.2⟩
theorem blkGB {W W' : World} {k x : Nat} {C : Array Value} (h : BlkAt W k C) (hg : W.grownBy W' (some x)) (hne : k ≠ x) : BlkAt W' k C := h.elim fun E h => ⟨E, blkG h hg hne⟩
set_option maxRecDepth 100000 in
set_option maxHeartbeats 4000000 in
theorem leave_any (h : CuW c B fl N w σ) (bn : Nat) (hbn : bn < c.n) (tv : SpL) (hr : (σ.sp.getD bn SpL.zero).w = 3 → InI (σ.sp.getD bn SpL.zero).r) :
    Calls Try.prog 50 #[.pointer (some ⟨c.g, 0, none⟩), .int .i64 (bn : Int), .agg (spA tv)] w (fun e w' => e = .returned (.tuple #[]) ∧ CuW c B fl N w' (leaveS σ bn tv) ∧ Below B w w') := by
  have HCU := Lib.hid h
  have HSP := Lib.hid (fun W (hb : Below w.heap.size w W) j v => (HCU.out.ext hb).spot bn hbn j v)
  have HLV : Hid (leaveS σ bn tv = if (σ.sp.getD bn SpL.zero).w = 3 then ⟨σ.sp.set bn tv, fun j => if j = (σ.sp.getD bn SpL.zero).r then none else σ.o j, σ.u, σ.ks⟩ else ⟨σ.sp.set bn tv, σ.o, σ.u, σ.ks⟩) := Lib.hid rfl
  obtain ⟨σ', hσ'⟩ : ∃ σ', leaveS σ bn tv = σ' := ⟨_, rfl⟩
  rw [hσ'] at HLV ⊢
  clear hσ' h
  generalize σ.sp.getD bn SpL.zero = S at *
  obtain ⟨s0, s1, s2, s3⟩ := S
  obtain ⟨t0, t1, t2, t3⟩ := tv
  dsimp only [spA] at *
  have hnn : (bn : Int) < (c.n : Int) := by omega
  have hn0 : (0 : Int) ≤ (bn : Int) := by omega
  have HT : Hid (BlkAt (w.alloc (.cells #[.int .i64 t0, .int .i64 t1, .int .i64 t2, .bool t3] 60)) w.heap.size #[.int .i64 t0, .int .i64 t1, .int .i64 t2, .bool t3]) := Lib.hid (blkNew rfl)
  have HB : Hid (Below w.heap.size w (w.alloc (.cells #[.int .i64 t0, .int .i64 t1, .int .i64 t2, .bool t3] 60))) := Lib.hid (below_alloc _ _)
  have HZ : Hid ((w.alloc (.cells #[.int .i64 t0, .int .i64 t1, .int .i64 t2, .bool t3] 60)).heap.size = w.heap.size + 1) := Lib.hid (by simp)
  go_enter Try.func50, Try.ntmps50
  go_upto_region 1 with (fail)
  generalize w.alloc (.cells #[.int .i64 t0, .int .i64 t1, .int .i64 t2, .bool t3] 60) = W1 at *
  have HCU1 := Lib.hid (HCU.out.ext HB.out)
  obtain ⟨d4, d5, d6, d7⟩ := HCU1.out.cells
  have q0 : W1.cell? ⟨c.sg, bn * 4, none⟩ = some (.int .i64 s0) := HSP.out W1 HB.out 0 _ rfl
  have q1 : W1.cell? ⟨c.sg, bn * 4 + 1, none⟩ = some (.int .i64 s1) := HSP.out W1 HB.out 1 _ rfl
  have q2 : W1.cell? ⟨c.sg, bn * 4 + 2, none⟩ = some (.int .i64 s2) := HSP.out W1 HB.out 2 _ rfl
  have q3 : W1.cell? ⟨c.sg, bn * 4 + 3, none⟩ = some (.bool s3) := HSP.out W1 HB.out 3 _ rfl
  go_upto_region 2 with (fail)
  have HX : Hid (BlkAt (W1.alloc (.cells #[.int .i64 s0, .int .i64 s1, .int .i64 s2, .bool s3] 60)) W1.heap.size #[.int .i64 s0, .int .i64 s1, .int .i64 s2, .bool s3]) := Lib.hid (blkNew rfl)
  have HT2 : Hid (BlkAt (W1.alloc (.cells #[.int .i64 s0, .int .i64 s1, .int .i64 s2, .bool s3] 60)) w.heap.size #[.int .i64 t0, .int .i64 t1, .int .i64 t2, .bool t3]) := Lib.hid (blkOld HT.out)
  have HB2 : Hid (Below w.heap.size w (W1.alloc (.cells #[.int .i64 s0, .int .i64 s1, .int .i64 s2, .bool s3] 60))) := Lib.hid (below_step HB.out (below_alloc _ _))
  clear d4 d5 d6 d7 q0 q1 q2 q3 HT HB HCU1 HSP
  generalize W1.alloc (.cells #[.int .i64 s0, .int .i64 s1, .int .i64 s2, .bool s3] 60) = W2 at *
  generalize W1.heap.size = xb at *
  have HCU2 := Lib.hid (HCU.out.ext HB2.out)
  obtain ⟨d4, d5, d6, d7⟩ := HCU2.out.cells
  obtain ⟨x0, x1, x2, x3⟩ := four_cells HX.out
  by_cases h3 : s0 = 3
  · subst h3
    have HL1 : Hid (σ' = ⟨σ.sp.set bn ⟨t0, t1, t2, t3⟩, fun j => if j = s2 then none else σ.o j, σ.u, σ.ks⟩) := Lib.hid (HLV.out)
    have hcd : CuW c B fl N W2.drew σ := HCU2.out.ext (below_drew (Below.refl _ _))
    obtain ⟨F, nO, nU, DO, DU, hcd⟩ := hcd
    obtain ⟨W3, hdel, hc3, hb3, hg3⟩ := hcd.delKey s2 (hr rfl)
    have HT3 : Hid (BlkAt W3 w.heap.size #[.int .i64 t0, .int .i64 t1, .int .i64 t2, .bool t3]) := Lib.hid (blkGB (blkDrew HT2.out) hg3 (by have := HCU.out.mbo.1; omega))
    have HC3 := Lib.hid hc3
    have HB3 : Hid (Below B w W3) := Lib.hid ((below_drew (HB2.out.mono HCU.out.size)).trans hb3)
    clear hcd hc3 hb3 hg3 d4 d5 d7 x1 x3 HX HT2
    go_upto_region 3 with (fail)
    go_region
    clear hdel d6 x2 x0
    obtain ⟨d4, d5, d6, d7⟩ := HC3.out.cells
    obtain ⟨y0, y1, y2, y3⟩ := four_cells HT3.out
    obtain ⟨⟨u0, u1, u2, u3⟩, hu⟩ : ∃ u, σ.sp.getD bn SpL.zero = u := ⟨_, rfl⟩
    have hq := fun j v hv => HC3.out.spot bn hbn j v (by show (spA (σ.sp.getD bn SpL.zero))[j]? = some v; rw [hu]; exact hv)
    have q0 : W3.cell? ⟨c.sg, bn * 4, none⟩ = some (.int .i64 u0) := hq 0 _ rfl
    have q1 : W3.cell? ⟨c.sg, bn * 4 + 1, none⟩ = some (.int .i64 u1) := hq 1 _ rfl
    have q2 : W3.cell? ⟨c.sg, bn * 4 + 2, none⟩ = some (.int .i64 u2) := hq 2 _ rfl
    have q3 : W3.cell? ⟨c.sg, bn * 4 + 3, none⟩ = some (.bool u3) := hq 3 _ rfl
    have f0 := HC3.out.fz (bn * 4)
    have f1 := HC3.out.fz (bn * 4 + 1)
    have f2 := HC3.out.fz (bn * 4 + 2)
    have f3 := HC3.out.fz (bn * 4 + 3)
    have hfin := (HC3.out.ext (below_drew (Below.refl _ _))).putSpot bn hbn ⟨t0, t1, t2, t3⟩
    have HFIN := Lib.hid (And.intro hfin.1 ((below_drew HB3.out).trans hfin.2))
    clear hfin hq hu
    have hh := HL1.out
    subst hh
    go_upto_region 4 with (fail)
    go_region
    go_wp2_with fail
    go_end0
    exact ⟨rfl, HFIN.out.1, HFIN.out.2⟩
  · have HL1 : Hid (σ' = ⟨σ.sp.set bn ⟨t0, t1, t2, t3⟩, σ.o, σ.u, σ.ks⟩) := Lib.hid (by rw [HLV.out, if_neg h3])
    obtain ⟨y0, y1, y2, y3⟩ := four_cells HT2.out
    obtain ⟨⟨u0, u1, u2, u3⟩, hu⟩ : ∃ u, σ.sp.getD bn SpL.zero = u := ⟨_, rfl⟩
    have hq := fun j v hv => HCU2.out.spot bn hbn j v (by show (spA (σ.sp.getD bn SpL.zero))[j]? = some v; rw [hu]; exact hv)
    have q0 : W2.cell? ⟨c.sg, bn * 4, none⟩ = some (.int .i64 u0) := hq 0 _ rfl
    have q1 : W2.cell? ⟨c.sg, bn * 4 + 1, none⟩ = some (.int .i64 u1) := hq 1 _ rfl
    have q2 : W2.cell? ⟨c.sg, bn * 4 + 2, none⟩ = some (.int .i64 u2) := hq 2 _ rfl
    have q3 : W2.cell? ⟨c.sg, bn * 4 + 3, none⟩ = some (.bool u3) := hq 3 _ rfl
    have f0 := HCU2.out.fz (bn * 4)
    have f1 := HCU2.out.fz (bn * 4 + 1)
    have f2 := HCU2.out.fz (bn * 4 + 2)
    have f3 := HCU2.out.fz (bn * 4 + 3)
    have hfin := (HCU2.out.ext (below_drew (Below.refl _ _))).putSpot bn hbn ⟨t0, t1, t2, t3⟩
    have HFIN := Lib.hid (And.intro hfin.1 ((below_drew (HB2.out.mono HCU.out.size)).trans hfin.2))
    clear hfin hq hu
    have hh := HL1.out
    subst hh
    go_upto_region 4 with (fail)
    go_region
    go_wp2_with fail
    go_end0
    exact ⟨rfl, HFIN.out.1, HFIN.out.2⟩
set_option maxRecDepth 100000 in
set_option maxHeartbeats 4000000 in
theorem pause_any (h : CuW c B fl N w σ) (bn : Nat) (hbn : bn < c.n) (z : Bool) (hr : InI (σ.sp.getD bn SpL.zero).r) (t : TpL) (ho : σ.o (σ.sp.getD bn SpL.zero).r = some t) :
    Calls Try.prog 51 #[.pointer (some ⟨c.g, 0, none⟩), .int .i64 (bn : Int), .bool z] w (fun e w' => e = .returned (.tuple #[]) ∧ CuW c B fl N w' (pauseS σ bn z) ∧ Below B w w') := by
  have HLV : Hid (pauseS σ bn z = ⟨σ.sp.set bn ⟨(σ.sp.getD bn SpL.zero).w, (σ.sp.getD bn SpL.zero).p, (σ.sp.getD bn SpL.zero).r, z⟩, fun j => if j = (σ.sp.getD bn SpL.zero).r then some ⟨t.r, t.b, z⟩ else σ.o j, σ.u, σ.ks⟩) := Lib.hid (by unfold pauseS; rw [ho]; rfl)
  obtain ⟨σ', hσ'⟩ : ∃ σ', pauseS σ bn z = σ' := ⟨_, rfl⟩
  rw [hσ'] at HLV ⊢
  clear hσ'
  obtain ⟨F, nO, nU, DO, DU, h⟩ := h
  obtain ⟨q, hF⟩ : ∃ q, F (σ.sp.getD bn SpL.zero).r = some (q, t) := by
    rw [h.ab] at ho
    obtain ⟨p, hp, rfl⟩ := Option.map_eq_some_iff.1 ho
    exact ⟨p.1, hp⟩
  have HC := Lib.hid h
  have hcd := h.ext (below_drew (Below.refl _ _))
  have hlk : (Instr.lookup 55 (.map (some c.bo)) (.int .i64 (σ.sp.getD bn SpL.zero).r) false).run Try.prog w.drew = .ok (.pointer (some ⟨q, 0, none⟩)) w.drew := by
    rw [hcd.mo.look Try.underlying55 (z := .pointer none) (by kernel_rfl) _ hr, show ptrV F (σ.sp.getD bn SpL.zero).r = some (.pointer (some ⟨q, 0, none⟩)) by unfold ptrV; rw [hF]; rfl]
    rfl
  have htr := (h.tr _ _ _ hF).1
  have HST : Hid (∀ (W' : World), w.grownBy W' (some q) → W'.heap[q]? = some (.cells (tpA ⟨t.r, t.b, z⟩) 94) → CuW c B fl N W' { σ with o := fun j => if j = (σ.sp.getD bn SpL.zero).r then some ⟨t.r, t.b, z⟩ else σ.o j } ∧ Below B w W') := Lib.hid (fun W' hg hq => h.setTrip hF hg hq)
  have b0 : w.cell? ⟨q, 2, none⟩ = some (.bool t.z) := by rw [cell_of_row _ _ _ _ _ _ htr]; rfl
  have g0 : w.frozen? ⟨q, 2, none⟩ = false := frozen_of_row _ _ _ _ _ htr
  obtain ⟨d4, d5, d6, d7⟩ := h.cells
  have hq := fun j v hv => h.spot bn hbn j v hv
  have HTR : Hid (w.heap[q]? = some (.cells (tpA t) 94)) := Lib.hid htr
  have hnn : (bn : Int) < (c.n : Int) := by omega
  have hn0 : (0 : Int) ≤ (bn : Int) := by omega
  have HSP : Hid (∃ u, σ.sp.getD bn SpL.zero = u) := Lib.hid ⟨_, rfl⟩
  clear h hcd ho hr hF htr
  generalize hu : σ.sp.getD bn SpL.zero = S at *
  have HU := Lib.hid hu
  clear hu HSP
  obtain ⟨s0, s1, s2, s3⟩ := S
  obtain ⟨tr, tb, tz⟩ := t
  dsimp only at *
  have q0 : w.cell? ⟨c.sg, bn * 4, none⟩ = some (.int .i64 s0) := hq 0 _ rfl
  have q2 : w.cell? ⟨c.sg, bn * 4 + 2, none⟩ = some (.int .i64 s2) := hq 2 _ rfl
  clear hq d4 d7
  have HW2 : Hid (CuW c B fl N (w.setCell ⟨q, 2, none⟩ (.bool z)).drew { σ with o := fun j => if j = s2 then some ⟨tr, tb, z⟩ else σ.o j } ∧ Below B w (w.setCell ⟨q, 2, none⟩ (.bool z)).drew) := Lib.hid (by
    have h2 := HST.out (w.setCell ⟨q, 2, none⟩ (.bool z)) ⟨rfl, rfl, rfl, by simp, fun k hk hne => heap_setCell_other _ _ _ _ (fun e => hne (by rw [e]))⟩ (by rw [heap_setCell_same _ _ _ _ _ _ HTR.out]; rfl)
    exact ⟨h2.1.ext (below_drew (Below.refl _ _)), below_drew h2.2⟩)
  go_enter Try.func51, Try.ntmps51
  go_upto_region 0 with (fail)
  go_region
  clear hlk b0 g0 d5 d6 q0 q2 HST HTR HC
  generalize (w.setCell ⟨q, 2, none⟩ (.bool z)).drew = W2 at *
  obtain ⟨F2, nO2, nU2, DO2, DU2, hc2⟩ := HW2.out.1
  obtain ⟨d4, d5, d6, d7⟩ := hc2.cells
  have hq2 := fun j v hv => hc2.spot bn hbn j v (by show (spA (σ.sp.getD bn SpL.zero))[j]? = some v; rw [HU.out]; exact hv)
  have q3 : W2.cell? ⟨c.sg, bn * 4 + 3, none⟩ = some (.bool s3) := hq2 3 _ rfl
  have f3 := hc2.sfz (bn * 4 + 3)
  have hfin := hc2.putZ bn hbn ⟨s0, s1, s2, s3⟩ HU.out z
  have HFIN : Hid (CuW c B fl N (W2.setCell ⟨c.sg, bn * 4 + 3, none⟩ (.bool z)) σ' ∧ Below B w (W2.setCell ⟨c.sg, bn * 4 + 3, none⟩ (.bool z))) := Lib.hid (by
    rw [HLV.out]
    exact ⟨⟨_, _, _, _, _, hfin.1⟩, HW2.out.2.trans hfin.2⟩)
  clear hfin hc2 hq2 d4 d6 d7
  go_wp2_with fail
  go_end0
  exact ⟨rfl, HFIN.out.1, HFIN.out.2⟩
end
end Go.Proofs.Ytdgjdbpbnipjcaa
