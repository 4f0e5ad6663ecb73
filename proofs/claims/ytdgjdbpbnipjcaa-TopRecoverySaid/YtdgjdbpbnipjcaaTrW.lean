/-
  CUSTODY: why an event has no effect. (Printed by gen_trw.py.)
-/
import Derived.Test.YtdgjdbpbnipjcaaTrV
import Derived.Test.YtdgjdbpbnipjcaaTrI
import Derived.Deep.RegionHeld3
import Derived.BigQuiet
import Derived.BigRegion
import Derived.Laws.StructEq
import Derived.StillTailTactics
import Derived.RegionTactic
import Derived.Deep.DeepCutAuto
import Derived.Deep.QuietTactic
import Derived.WalkSpells
import Derived.WalkLawsBesides
namespace Go.Proofs.Ytdgjdbpbnipjcaa
open Go.RowKit Go.Maps
set_option linter.unusedVariables false

def refS (b : Bool) (n : Int) : Int := if b = true then n else 0
theorem ref_any (b : Bool) (n : Int) (w : World) : Calls Try.prog 46 #[.bool b, .int .i64 n] w (fun e w' => e = .returned (.int .i64 (refS b n)) ∧ w' = w) := by
  cases b with
  | true =>
    go_enter Try.func46, Try.ntmps46
    go_wp2
    go_ret
    exact ⟨rfl, rfl⟩
  | false =>
    go_enter Try.func46, Try.ntmps46
    go_wp2
    go_ret
    exact ⟨rfl, rfl⟩
/-- Why an event that is right by itself has no effect. -/
def checkS (fl : FlL) (σ : StL) (x : EvL) : Int :=
  let s := σ.sp.getD x.b.toNat SpL.zero
  if x.k = 1 then (if parkedB s = true then 23 else if 0 < countN σ.sp 1 x.p then 22 else 0)
  else if x.k = 2 then refS (parkedB s) 23
  else if x.k = 3 then (if parkedB s = false then 23 else if σ.u x.e = true then 6 else refS (ridingB σ x.r) 22)
  else if x.k = 4 then (match σ.o x.e with
    | none => 7
    | some t => if parkedB s = false then 23 else refS t.z 12)
  else if x.k = 5 ∨ x.k = 6 then (if s.w ≠ 3 then 23 else refS (s.z == decide (x.k = 5)) 12)
  else if x.k = 7 then (if s.w = 3 ∨ s.w = 4 then 23 else refS (decide (fl.ts.getD x.p.toNat 0 ≤ (countN σ.sp 4 x.p : Int))) 24)
  else if x.k = 8 then (if s.w = 3 ∨ s.w = 5 then 23 else 0)
  else if x.k = 9 then (if s.w = 5 ∨ s.w = 6 then 23 else 0)
  else 0
structure ChkW (w : World) (c : CuP) (B : Nat) (fl : FlL) (N : Nat) (σ : StL) (E X : Array Value) (W : World) : Prop where
  e : BlkAt W w.heap.size E
  x : BlkAt W (w.heap.size + 1) X
  cu : CuW c B fl N W σ
  fm : FlM W fl
  bel : Below w.heap.size w W
theorem ChkW.ext {w : World} {c : CuP} {B : Nat} {fl : FlL} {N : Nat} {σ : StL} {E X : Array Value} {W W' : World} (h : ChkW w c B fl N σ E X W) (hb : Below W.heap.size W W') : ChkW w c B fl N σ E X W' :=
  ⟨blkBelow hb h.e, blkBelow hb h.x, h.cu.ext hb, h.fm.below hb, below_step h.bel hb⟩
theorem four_cells {W : World} {k : Nat} {x0 x1 x2 x3 : Value} (h : BlkAt W k #[x0, x1, x2, x3]) : W.cell? ⟨k, 0, none⟩ = some x0 ∧ W.cell? ⟨k, 1, none⟩ = some x1 ∧ W.cell? ⟨k, 2, none⟩ = some x2 ∧ W.cell? ⟨k, 3, none⟩ = some x3 := by
  obtain ⟨E, h⟩ := h
  refine ⟨?_, ?_, ?_, ?_⟩ <;> (rw [cell_of_row _ _ _ _ _ _ h]; rfl)
theorem CuW.cells {c : CuP} {B : Nat} {fl : FlL} {N : Nat} {W : World} {σ : StL} (h : CuW c B fl N W σ) : W.cell? ⟨c.g, 4, none⟩ = some (.slice fl.ta fl.tn fl.tc) ∧ W.cell? ⟨c.g, 5, none⟩ = some (.slice (some ⟨c.sg, 0, none⟩) c.n c.n) ∧ W.cell? ⟨c.g, 6, none⟩ = some (.map (some c.bo)) ∧ W.cell? ⟨c.g, 7, none⟩ = some (.map (some c.bu)) := by
  obtain ⟨F, nO, nU, DO, DU, h⟩ := h
  exact h.cells
theorem CuW.lts {c : CuP} {B : Nat} {fl : FlL} {N : Nat} {W : World} {σ : StL} (h : CuW c B fl N W σ) : c.g < W.heap.size ∧ c.sg < W.heap.size := by
  obtain ⟨F, nO, nU, DO, DU, h⟩ := h
  obtain ⟨⟨cur, h2⟩, _⟩ := h.rowblk
  exact ⟨(Array.getElem?_eq_some_iff.1 h.blk).1, (Array.getElem?_eq_some_iff.1 h2).1⟩
/-- The open ride, looked up, in every world that has come of this one. -/
theorem CuW.lookO {c : CuP} {B : Nat} {fl : FlL} {N : Nat} {W : World} {σ : StL} (h : CuW c B fl N W σ) (k : Int) (hk : InI k) :
    ∃ V, (∀ W', Below W.heap.size W W' → (Instr.lookup 55 (.map (some c.bo)) (.int .i64 k) false).run Try.prog W' = .ok V W') ∧
    ((σ.o k = none ∧ V = .pointer none) ∨ ∃ q t, σ.o k = some t ∧ (∀ W', Below W.heap.size W W' → BlkAt W' q (tpA t)) ∧ V = .pointer (some ⟨q, 0, none⟩)) := by
  obtain ⟨F, nO, nU, DO, DU, h⟩ := h
  have hr := fun W' (hb : Below W.heap.size W W') => (h.ext hb).mo.look Try.underlying55 (z := .pointer none) (by kernel_rfl) k hk
  cases hF : F k with
  | none =>
    refine ⟨.pointer none, fun W' hb => ?_, .inl ⟨by rw [h.ab, hF]; rfl, rfl⟩⟩
    rw [hr W' hb, show ptrV F k = none by unfold ptrV; rw [hF]; rfl]
    rfl
  | some p =>
    refine ⟨.pointer (some ⟨p.1, 0, none⟩), fun W' hb => ?_, .inr ⟨p.1, p.2, by rw [h.ab, hF]; rfl, fun W' hb => ⟨_, ((h.ext hb).tr k p.1 p.2 hF).1⟩, rfl⟩⟩
    rw [hr W' hb, show ptrV F k = some (.pointer (some ⟨p.1, 0, none⟩)) by unfold ptrV; rw [hF]; rfl]
    rfl
theorem CuW.lookU {c : CuP} {B : Nat} {fl : FlL} {N : Nat} {W : World} {σ : StL} (h : CuW c B fl N W σ) (k : Int) (hk : InI k) :
    (Instr.lookup 56 (.map (some c.bu)) (.int .i64 k) false).run Try.prog W = .ok (.bool (σ.u k)) W := by
  obtain ⟨F, nO, nU, DO, DU, h⟩ := h
  have hr := h.mu.look Try.underlying56 (z := .bool false) (by kernel_rfl) k hk
  rw [hr]
  unfold useV
  cases σ.u k <;> rfl
theorem CuW.spot {c : CuP} {B : Nat} {fl : FlL} {N : Nat} {W : World} {σ : StL} (h : CuW c B fl N W σ) (k : Nat) (hk : k < c.n) (j : Nat) (v : Value) (hv : (spA (σ.sp.getD k SpL.zero))[j]? = some v) : W.cell? ⟨c.sg, k * 4 + j, none⟩ = some v := by
  obtain ⟨F, nO, nU, DO, DU, h⟩ := h
  exact h.spot k hk j v hv
end Go.Proofs.Ytdgjdbpbnipjcaa
