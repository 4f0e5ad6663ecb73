/-
  EVENTS: slices.CompactFunc. (Printed by gen_tro.py.)
-/
import Derived.Test.YtdgjdbpbnipjcaaTrN
import Derived.BigQuiet
import Derived.BigRegion
import Derived.Laws.StructEq
import Derived.StillTailTactics
import Derived.RegionTactic
import Derived.Deep.DeepCutAuto
import Derived.Deep.QuietTactic
import Derived.WalkSpells
import Derived.WalkLawsBesides
namespace Go.Proofs.Ytdgjdbpbnipjcaa
open Go.RowKit Go.Sort
set_option linter.unusedVariables false

def fdFrom (l : List EvL) : Nat → Nat → Nat
  | 0, _ => l.length
  | f + 1, k => if numEq (l.getD k EvL.zero) (l.getD (k - 1) EvL.zero) = true then k else fdFrom l f (k + 1)
def kp (l : List EvL) (k : Nat) : Nat → List EvL
  | 0 => []
  | j + 1 => kp l k j ++ if numEq (l.getD (k + 1 + j) EvL.zero) (l.getD (k + j) EvL.zero) = true then [] else [l.getD (k + 1 + j) EvL.zero]
def cptL (l : List EvL) : List EvL :=
  if fdFrom l (l.length - 1) 1 < l.length then l.take (fdFrom l (l.length - 1) 1) ++ kp l (fdFrom l (l.length - 1) 1) (l.length - fdFrom l (l.length - 1) 1 - 1) else l
theorem kp_len (l : List EvL) (k : Nat) : ∀ j, (kp l k j).length ≤ j
  | 0 => Nat.le_refl _
  | j + 1 => by
    have := kp_len l k j
    unfold kp
    rw [List.length_append]
    split <;> simp <;> omega
theorem kp_mem (l : List EvL) (k : Nat) : ∀ j, k + j < l.length → ∀ x ∈ kp l k j, x ∈ l
  | 0, _, x, h => by simp [kp] at h
  | j + 1, hj, x, h => by
    unfold kp at h
    rcases List.mem_append.1 h with h | h
    · exact kp_mem l k j (by omega) x h
    · split at h
      · simp at h
      · simp at h
        rw [h, List.getElem?_eq_getElem (show k + 1 + j < l.length by omega)]
        exact List.getElem_mem _
theorem cptL_mem (l : List EvL) (x : EvL) (h : x ∈ cptL l) : x ∈ l := by
  unfold cptL at h
  split at h
  · next hD =>
    rcases List.mem_append.1 h with h | h
    · exact List.mem_of_mem_take h
    · exact kp_mem l _ _ (by omega) x h
  · exact h
theorem cptL_len (l : List EvL) : (cptL l).length ≤ l.length := by
  unfold cptL
  split
  · next hD =>
    rw [List.length_append, List.length_take]
    have := kp_len l (fdFrom l (l.length - 1) 1) (l.length - fdFrom l (l.length - 1) 1 - 1)
    omega
  · exact Nat.le_refl _
theorem cptL_short (l : List EvL) (h : l.length < 2) : cptL l = l := by
  unfold cptL
  rw [show l.length - 1 = 0 by omega]
  unfold fdFrom
  rw [if_neg (by omega)]
theorem flat_set9 : ∀ (C : List EvL) (k : Nat) (x : EvL), k < C.length →
    (((((((((flatV evA C).set (k * 9) (.int .i64 x.d)).set (k * 9 + 1) (.int .i64 x.s)).set (k * 9 + 2) (.int .i64 x.a)).set (k * 9 + 3) (.int .i64 x.l)).set (k * 9 + 4) (.int .i64 x.k)).set (k * 9 + 5) (.int .i64 x.b)).set (k * 9 + 6) (.int .i64 x.p)).set (k * 9 + 7) (.int .i64 x.r)).set (k * 9 + 8) (.int .i64 x.e) = flatV evA (C.set k x)
  | [], k, x, h => by simp at h
  | y :: C, 0, x, _ => by
    rw [List.set_cons_zero, flatV_cons, flatV_cons]
    rfl
  | y :: C, k + 1, x, h => by
    have ih := flat_set9 C k x (by simpa using h)
    rw [List.set_cons_succ, flatV_cons, flatV_cons, ← ih]
    have e : ∀ (j : Nat) (L : List Value) (u : Value), ((evA y).toList ++ L).set ((k + 1) * 9 + j) u = (evA y).toList ++ L.set (k * 9 + j) u := fun j L u => by
      rw [List.set_append_right _ _ (by show 9 ≤ _; omega)]
      congr 2
      show (k + 1) * 9 + j - 9 = k * 9 + j
      omega
    have e0 := fun L u => e 0 L u
    simp only [Nat.add_zero] at e0
    rw [e0, e, e, e, e, e, e, e, e]
/-- The row at hand. -/
structure RwE (w0 W : World) (g cap n : Nat) (C : List EvL) : Prop where
  row : W.ownsRow g 27 9 (.slice (some ⟨g, 0, none⟩) n cap) n (flatV evA C)
  len : C.length = n
  gr : w0.grownBy W (some g)
theorem GrW.grown {W W' : World} (h : GrW W W') (row : Option Nat) : W.grownBy W' row := ⟨h.below.os, h.below.tape, h.below.output, h.below.size, fun k hk _ => h.below.block k hk⟩
theorem RwE.ext {w0 W W' : World} {g cap n : Nat} {C : List EvL} (h : RwE w0 W g cap n C) (hg : GrW W W') : RwE w0 W' g cap n C := ⟨ownsRow_ext h.row hg.below, h.len, h.gr.trans (hg.grown _)⟩
theorem RwE.cells {w0 W : World} {g cap n : Nat} {C : List EvL} (h : RwE w0 W g cap n C) (k : Nat) (hk : k < n) (j : Nat) (v : Value) (hv : (evA (C.getD k EvL.zero))[j]? = some v) : W.cell? ⟨g, k * 9 + j, none⟩ = some v := by
  have hj : j < 9 := (Array.getElem?_eq_some_iff.1 hv).1
  rw [h.row.cellAt (k * 9 + j) (by omega), flatE_get C k j (by rw [h.len]; exact hk) hj]
  exact hv
theorem RwE.put {w0 W : World} {g cap n : Nat} {C : List EvL} (h : RwE w0 W g cap n C) (k : Nat) (hk : k < n) (x : EvL) : RwE w0 (((((((((W.setCell ⟨g, k * 9, none⟩ (.int .i64 x.d)).setCell ⟨g, k * 9 + 1, none⟩ (.int .i64 x.s)).setCell ⟨g, k * 9 + 2, none⟩ (.int .i64 x.a)).setCell ⟨g, k * 9 + 3, none⟩ (.int .i64 x.l)).setCell ⟨g, k * 9 + 4, none⟩ (.int .i64 x.k)).setCell ⟨g, k * 9 + 5, none⟩ (.int .i64 x.b)).setCell ⟨g, k * 9 + 6, none⟩ (.int .i64 x.p)).setCell ⟨g, k * 9 + 7, none⟩ (.int .i64 x.r)).setCell ⟨g, k * 9 + 8, none⟩ (.int .i64 x.e)) g cap n (C.set k x) := by
  have s0 := h.row.stored (k * 9) (.int .i64 x.d)
  have s1 := s0.1.stored (k * 9 + 1) (.int .i64 x.s)
  have s2 := s1.1.stored (k * 9 + 2) (.int .i64 x.a)
  have s3 := s2.1.stored (k * 9 + 3) (.int .i64 x.l)
  have s4 := s3.1.stored (k * 9 + 4) (.int .i64 x.k)
  have s5 := s4.1.stored (k * 9 + 5) (.int .i64 x.b)
  have s6 := s5.1.stored (k * 9 + 6) (.int .i64 x.p)
  have s7 := s6.1.stored (k * 9 + 7) (.int .i64 x.r)
  have s8 := s7.1.stored (k * 9 + 8) (.int .i64 x.e)
  refine ⟨?_, by simpa using h.len, ((((((((h.gr.trans s0.2).trans s1.2).trans s2.2).trans s3.2).trans s4.2).trans s5.2).trans s6.2).trans s7.2).trans s8.2⟩
  have := s8.1
  rw [flat_set9 C k x (by rw [h.len]; exact hk)] at this
  exact this
theorem RwE.fz {w0 W : World} {g cap n : Nat} {C : List EvL} (h : RwE w0 W g cap n C) (j : Nat) : W.frozen? ⟨g, j, none⟩ = false := h.row.frozenAt j
/-- A run of stores in one row, behind its first cells. -/
theorem setCells_row {g cap n : Nat} {e : TypeId} : ∀ (vs : List Value) (o : Nat) (W : World) (xs : List Value), W.ownsRow g e 9 (.slice (some ⟨g, 0, none⟩) n cap) n xs →
    ∃ xs', (W.setCells g o vs).ownsRow g e 9 (.slice (some ⟨g, 0, none⟩) n cap) n xs' ∧ xs'.take o = xs.take o ∧ W.grownBy (W.setCells g o vs) (some g)
  | [], o, W, xs, h => ⟨xs, h, rfl, World.grownBy.refl _ _⟩
  | v :: vs, o, W, xs, h => by
    have s := h.stored o v
    obtain ⟨xs', h1, h2, h3⟩ := setCells_row vs (o + 1) _ _ s.1
    refine ⟨xs', h1, ?_, s.2.trans h3⟩
    have : (xs'.take (o + 1)).take o = ((xs.set o v).take (o + 1)).take o := by rw [h2]
    rw [List.take_take, List.take_take, Nat.min_eq_left (Nat.le_succ o)] at this
    rw [this, List.take_set_of_le (Nat.le_refl o)]
theorem own_short {W : World} {g cap n m : Nat} {e : TypeId} {xs : List Value} (h : W.ownsRow g e 9 (.slice (some ⟨g, 0, none⟩) n cap) n xs) (hm : m ≤ n) : W.ownsRow g e 9 (.slice (some ⟨g, 0, none⟩) m cap) m (xs.take (m * 9)) := by
  have hl := h.1
  rcases h.2 with ⟨hv, _⟩ | ⟨g', cap', cur, hv, hB, hg, hnc, hcm, hcs, htk⟩
  · cases hv
  · cases hv
    have h9 : m * 9 ≤ n * 9 := Nat.mul_le_mul_right 9 hm
    refine ⟨by rw [List.length_take, hl]; omega, .inr ⟨g, cap, cur, rfl, hB, hg, by omega, hcm, hcs, ?_⟩⟩
    rw [← htk, List.take_take, Nat.min_eq_left h9]
theorem flatE_take (C : List EvL) (m : Nat) : (flatV evA C).take (m * 9) = flatV evA (C.take m) := by
  induction m generalizing C with
  | zero => simp [flatV]
  | succ m ih =>
    cases C with
    | nil => simp [flatV]
    | cons y C =>
      rw [List.take_succ_cons, flatV_cons, flatV_cons, ← ih C, List.take_append, show (evA y).toList.length = 9 from rfl, show (m + 1) * 9 - 9 = m * 9 by omega, List.take_of_length_le (show (evA y).toList.length ≤ (m + 1) * 9 by show 9 ≤ _; omega)]

end Go.Proofs.Ytdgjdbpbnipjcaa
