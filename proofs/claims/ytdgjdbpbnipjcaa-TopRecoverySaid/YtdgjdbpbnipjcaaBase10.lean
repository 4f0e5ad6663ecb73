/-
  SLICES OF SLICES OF BYTES FOR THE WALK. No condition.
-/
import Derived.Test.YtdgjdbpbnipjcaaProg
import Derived.Test.YtdgjdbpbnipjcaaBase7
import Derived.Tactics
namespace Go.Proofs.Ytdgjdbpbnipjcaa
open Go.RowKit
set_option linter.unusedVariables false

/-! ### Lists of byte strings -/
abbrev SlV := Option Addr × Nat × Nat
def slv (x : SlV) : Value := .slice x.1 x.2.1 x.2.2
/-- The slices L hold the byte strings xss. -/
structure Els (w : World) (L : List SlV) (xss : List (List UInt8)) : Prop where
  len : L.length = xss.length
  el : ∀ k, k < L.length → Sl w 1 (L.getD k (none, 0, 0)).1 (L.getD k (none, 0, 0)).2.1 (L.getD k (none, 0, 0)).2.2 (cs b8 (xss.getD k []))
theorem Els.nil (w : World) : Els w [] [] := ⟨rfl, fun k hk => absurd hk (by simp)⟩
theorem Els.ext {w w' : World} {L : List SlV} {xss : List (List UInt8)} (h : Els w L xss) (hb : Below w.heap.size w w') : Els w' L xss := ⟨h.len, fun k hk => (h.el k hk).ext hb⟩
theorem Els.append {w : World} {L : List SlV} {xss : List (List UInt8)} (h : Els w L xss) {a : Option Addr} {n c : Nat} {xs : List UInt8} (hs : Sl w 1 a n c (cs b8 xs)) : Els w (L ++ [(a, n, c)]) (xss ++ [xs]) := by
  refine ⟨by simp [h.len], fun k hk => ?_⟩
  by_cases hkl : k < L.length
  · have := h.el k hkl
    have h2 : k < xss.length := by rw [← h.len]; exact hkl
    simp only [List.getD, List.getElem?_append_left hkl, List.getElem?_append_left h2]
    simpa only [List.getD] using this
  · have hke : k = L.length := by simp at hk; omega
    subst hke
    have e2 : L.length = xss.length := h.len
    simp only [List.getD, List.getElem?_concat_length]
    rw [e2]
    simp only [List.getElem?_concat_length, Option.getD_some]
    exact hs
/-- The slices L are rows of their own, and hold the byte strings xss. -/
structure ElsO (w : World) (L : List SlV) (xss : List (List UInt8)) : Prop where
  len : L.length = xss.length
  el : ∀ k, k < L.length → w.ownsRow 0 5 1 (slv (L.getD k (none, 0, 0))) (L.getD k (none, 0, 0)).2.1 (cs b8 (xss.getD k []))
theorem ElsO.nil (w : World) : ElsO w [] [] := ⟨rfl, fun k hk => absurd hk (by simp)⟩
theorem ElsO.ext {w w' : World} {L : List SlV} {xss : List (List UInt8)} (h : ElsO w L xss) (hb : Below w.heap.size w w') : ElsO w' L xss := ⟨h.len, fun k hk => ownsRow_ext (h.el k hk) hb⟩
theorem getD_app_lt {α : Type} (L : List α) (x d : α) (k : Nat) (h : k < L.length) : (L ++ [x]).getD k d = L.getD k d := by
  simp only [List.getD, List.getElem?_append_left h]
theorem getD_app_eq {α : Type} (L : List α) (x d : α) (k : Nat) (h : k = L.length) : (L ++ [x]).getD k d = x := by
  subst h; simp [List.getD]
theorem ElsO.append {w : World} {L : List SlV} {xss : List (List UInt8)} (h : ElsO w L xss) {a : Option Addr} {n c : Nat} {xs : List UInt8} (hs : w.ownsRow 0 5 1 (.slice a n c) n (cs b8 xs)) : ElsO w (L ++ [(a, n, c)]) (xss ++ [xs]) := by
  refine ⟨by simp [h.len], fun k hk => ?_⟩
  by_cases hkl : k < L.length
  · rw [getD_app_lt _ _ _ _ hkl, getD_app_lt _ _ _ _ (by rw [← h.len]; exact hkl)]
    exact h.el k hkl
  · have hke : k = L.length := by simp at hk; omega
    rw [getD_app_eq _ _ _ _ hke, getD_app_eq _ _ _ _ (by rw [← h.len]; exact hke)]
    exact hs
/-- A row of another type is not touched by an append. -/
theorem ownsRow_far {w w' : World} {X : Obj} {B B2 : Nat} {e e2 : TypeId} {v v2 : Value} {n n2 : Nat} {xs xs2 : List Value} (h : w.ownsRow B e 1 v n xs) (h2 : w.ownsRow B2 e2 1 v2 n2 xs2) (he : e ≠ e2) (hg : (w.alloc X).grownBy w' v2.ownBlock) : w'.ownsRow B e 1 v n xs := by
  refine ⟨h.1, ?_⟩
  rcases h.2 with hn | ⟨g, cap, cur, rfl, hB, hgb, rest⟩
  · exact .inl hn
  · refine .inr ⟨g, cap, cur, rfl, hB, ?_, rest⟩
    have hgl : g < w.heap.size := (Array.getElem?_eq_some_iff.1 hgb).1
    have hne : some g ≠ v2.ownBlock := by
      rcases h2.2 with ⟨rfl, _⟩ | ⟨g2, cap2, cur2, rfl, _, hg2, _⟩
      · simp [Value.ownBlock]
      · intro e'
        obtain rfl : g = g2 := by simpa [Value.ownBlock] using e'
        rw [hgb] at hg2
        cases hg2
        exact he rfl
    rw [hg.block g (by simp; omega) hne, Below.heap_alloc w X g hgl]
    exact hgb
theorem ElsO.far {w w' : World} {X : Obj} {B2 : Nat} {e2 : TypeId} {v2 : Value} {n2 : Nat} {xs2 : List Value} {L : List SlV} {xss : List (List UInt8)} (h : ElsO w L xss) (h2 : w.ownsRow B2 e2 1 v2 n2 xs2) (he : 5 ≠ e2) (hg : (w.alloc X).grownBy w' v2.ownBlock) : ElsO w' L xss :=
  ⟨h.len, fun k hk => ownsRow_far (h.el k hk) h2 he hg⟩


theorem Els.take {w : World} {L : List SlV} {xss : List (List UInt8)} (h : Els w L xss) (j : Nat) : Els w (L.take j) (xss.take j) := by
  refine ⟨by simp [h.len], fun k hk => ?_⟩
  have hk1 : k < j ∧ k < L.length := by simp at hk; omega
  have := h.el k hk1.2
  simpa [List.getD, hk1.1] using this
end Go.Proofs.Ytdgjdbpbnipjcaa
