/-
  EVENTS: rows of events, sorted and compacted. (Printed by gen_trn.py.)
-/
import Derived.Test.YtdgjdbpbnipjcaaTrM
import Derived.Shelf.SlSortCmp.NoneTotal
import Derived.Lib.SliceRun
import Derived.Maps.AppendAt
import Derived.Maps.Range
import Derived.BigQuiet
import Derived.BigRegion
import Derived.Laws.StructEq
import Derived.StillTailTactics
import Derived.RegionTactic
import Derived.Deep.DeepCutAuto
import Derived.Deep.QuietTactic
import Derived.Deep.RegionHeld3
import Derived.WalkSpells
import Derived.WalkLawsBesides
namespace Go.Proofs.Ytdgjdbpbnipjcaa
open Go.RowKit Go.Sort
set_option linter.unusedVariables false

theorem flatE_len (l : List EvL) : (flatV evA l).length = l.length * 9 := flatV_len evA 9 (fun _ => rfl) l
theorem flatE_get (l : List EvL) (i j : Nat) (h : i < l.length) (hj : j < 9) : (flatV evA l)[i * 9 + j]? = (evA (l.getD i EvL.zero))[j]? := flatV_get EvL.zero evA 9 (fun _ => rfl) l i j h hj
/-! ### the sort -/
theorem flatK_eq (l : List EvL) : flatK encEv 9 l.toArray = (flatV evA l).toArray := by
  refine ext_get! (by simp [flatE_len]) fun t ht => ?_
  have ht' : t < l.toArray.size * 9 := by simpa using ht
  rw [get_flatK _ _ _ t ht']
  have ht2 : t < l.length * 9 := by simpa using ht'
  have hi : t / 9 < l.length := by omega
  have e := flatE_get l (t / 9) (t % 9) hi (by omega)
  rw [show t / 9 * 9 + t % 9 = t by omega] at e
  have h9 : t % 9 < (evA (l.getD (t / 9) EvL.zero)).size := by show t % 9 < 9; omega
  have hg : l.toArray[t / 9]! = l.getD (t / 9) EvL.zero := by
    rw [getElem!_pos l.toArray (t / 9) (by simpa using hi)]
    simp [List.getD, hi]
  rw [hg]
  have e2 : (flatV evA l).toArray[t]! = ((flatV evA l)[t]?).getD default := by
    rw [getElem!_pos _ t (by simpa [flatE_len] using ht2)]
    simp [flatE_len, ht2]
  rw [e2, e]
  unfold encEv
  rw [getElem!_pos _ (t % 9) (by simpa using h9), Array.getElem?_eq_getElem h9]
  exact Array.getElem_toList _
theorem heap_sortedI {w : World} {g n : Nat} {os : Array Obj} {cur : Array Value} {e : TypeId} {fr : Nat × Nat} (d : Array Value) (hb : w.heap[g]? = some (.cells cur e fr)) :
    (grow (putRow id (Sort.ahead w n) g 0 d) os).heap[g]? = some (.cells (putCells id 0 d cur) e fr) := by
  have hg : g < w.heap.size := (Array.getElem?_eq_some_iff.1 hb).1
  rw [heap_grow_old _ _ (by simpa using hg)]
  simp [putRow, mapBlock, Sort.ahead, Array.getElem?_modify, hb, onCells]
theorem grownBy_sortedI {w : World} {g n : Nat} {os : Array Obj} (d : Array Value) : w.grownBy (grow (putRow id (Sort.ahead w n) g 0 d) os) (some g) := by
  refine ⟨rfl, rfl, rfl, by simp, fun k hk hne => ?_⟩
  rw [heap_grow_old _ _ (by simpa using hk)]
  have : g ≠ k := fun e => hne (by rw [e])
  simp [putRow, mapBlock, Sort.ahead, Array.getElem?_modify, this]
theorem take_putI (cur : Array Value) (ts : List Value) (h : ts.length ≤ cur.size) : (putCells id 0 ts.toArray cur).toList.take ts.length = ts := by
  apply List.ext_getElem?
  intro j
  by_cases hj : j < ts.length
  · rw [List.getElem?_take_of_lt hj, Array.getElem?_toList]
    simp [putCells, hj, show j < cur.size by omega]
  · rw [List.getElem?_take_eq_none (by omega), List.getElem?_eq_none (by omega)]
/-- What the sort makes of a list. -/
def srt (cf : EvL → EvL → Int) (l : List EvL) : List EvL := (pdq (ltOf cf) l.toArray 0 l.toArray.size (Lib.bitLen l.toArray.size) true true).toList
theorem srt_len {cf : EvL → EvL → Int} (hO : SWO (ltOf cf)) (l : List EvL) : (srt cf l).length = l.length := by
  have h := pdq_sorts (ltOf cf) hO l.toArray 0 l.toArray.size (Lib.bitLen l.toArray.size) true true (Nat.zero_le _) (Nat.le_refl _) (Or.inl rfl)
  have := h.1.1
  unfold srt
  simpa using this
theorem srt_mem {cf : EvL → EvL → Int} (hO : SWO (ltOf cf)) (l : List EvL) (x : EvL) (h : x ∈ srt cf l) : x ∈ l := by
  have h' := pdq_sorts (ltOf cf) hO l.toArray 0 l.toArray.size (Lib.bitLen l.toArray.size) true true (Nat.zero_le _) (Nat.le_refl _) (Or.inl rfl)
  unfold srt at h
  generalize pdq (ltOf cf) l.toArray 0 l.toArray.size (Lib.bitLen l.toArray.size) true true = q at *
  have hp := h'.1.2.2
  have hs := h'.1.1
  have e1 : (l.toArray.extract 0 l.toArray.size).toList = l := by simp
  have e2 : (q.extract 0 l.toArray.size).toList = q.toList := by rw [← hs]; simp
  rw [e1, e2] at hp
  exact hp.mem_iff.1 h
theorem evOne (x : EvL) : ∀ v ∈ encEv x, v.oneCell' = true := by
  intro v hv
  simp [encEv, evA] at hv
  rcases hv with rfl | rfl | rfl | rfl | rfl | rfl | rfl | rfl | rfl <;> rfl
theorem sort_any (cf : EvL → EvL → Int) (hO : SWO (ltOf cf)) (f : Nat) (eg : ∀ args w, (callFunc f args).run Try.prog w = .ok (.enter f args) w) (hcmp : ∀ blk off size w, CmpLays Try.prog f #[] encEv 9 cf blk off size w)
    (l : List EvL) {B n : Nat} {v : Value} (w : World) (hr : w.ownsRow B 27 9 v n (flatV evA l)) (hl : l.length = n) (hn : n ≤ 1000000) :
    Calls Try.prog 36 #[v, .func (.func f) #[] #[]] w (fun e w' => e = .returned (.tuple #[]) ∧ w'.ownsRow B 27 9 v n (flatV evA (srt cf l)) ∧ w.grownBy w' v.ownBlock) := by
  by_cases h0 : n = 0
  · subst h0
    have hnil : l = [] := List.eq_nil_of_length_eq_zero hl
    subst hnil
    have es : srt cf [] = [] := List.eq_nil_of_length_eq_zero (srt_len hO [])
    rw [es]
    obtain ⟨ao, cap, rfl, _⟩ := sl_of_own hr
    have h := AnyF.slices_SortFunc_none srtLay ao cap (.func (.func f) #[] #[]) w
    change Calls Try.prog 36 _ _ _ at h
    exact h.mono fun e w' ⟨he, hw⟩ => ⟨he, by rw [hw]; exact hr, by rw [hw]; exact World.grownBy.refl _ _⟩
  · rcases hr.2 with ⟨_, hz⟩ | ⟨g, cap, cur, rfl, hB, hg, hnc, hcm, hcs, htk⟩
    · exact absurd hz h0
    have hH : HoldsK encEv 9 w g 0 l.toArray := by
      unfold HoldsK
      rw [flatK_eq]
      intro j hj
      have hj' : j < (flatV evA l).length := by simpa using hj
      have hj2 : j < n * 9 := by rw [flatE_len, hl] at hj'; exact hj'
      refine ⟨?_, by simp [World.frozen?, hg]⟩
      rw [Nat.zero_add, hr.cellAt j hj2, getElem!_pos _ j hj]
      simp [hj']
    have h := AnyQ.slices_SortFunc_eq srtLay 9 Try.isAgg27 Try.sizeOf27 encEv (fun _ => rfl) evOne cf hO f #[] g 0 cap l.toArray w eg (hcmp g 0 l.toArray.size w) hH (Array.getElem?_eq_some_iff.1 hg).1 (by simp; omega)
    change Calls Try.prog 36 _ _ _ at h
    rw [show l.toArray.size = n by simpa using hl] at h
    refine h.mono fun e w' ⟨he, m, os, hw⟩ => ⟨he, ?_, ?_⟩
    · subst hw
      have hd : pdq (ltOf cf) l.toArray 0 n (Lib.bitLen n) true true = (srt cf l).toArray := by unfold srt; rw [show l.toArray.size = n by simpa using hl]
      rw [hd]
      unfold sortWorldK putRowK
      rw [flatK_eq]
      have hfl : (flatV evA (srt cf l)).length = n * 9 := by rw [flatE_len, srt_len hO, hl]
      refine ⟨hfl, .inr ⟨g, cap, _, rfl, hB, heap_sortedI _ hg, hnc, hcm, by simp [putCells, hcs], ?_⟩⟩
      rw [← hfl]
      exact take_putI cur _ (by rw [hfl, hcs]; exact Nat.mul_le_mul_right 9 hnc)
    · subst hw
      exact grownBy_sortedI _

end Go.Proofs.Ytdgjdbpbnipjcaa
