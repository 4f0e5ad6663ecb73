/-
  SLICES OF SLICES OF BYTES FOR THE WALK. No condition.
-/
import Derived.Test.YtfhcaikfbfoopaaProg
import Derived.Test.YtfhcaikfbfoopaaBase3
import Derived.Tactics
namespace Go.Proofs.Ytfhcaikfbfoopaa
open Go.RowKit
set_option linter.unusedVariables false

/-! ### Lists of byte strings -/
abbrev SlV := Option Addr × Nat × Nat
def slv (x : SlV) : Value := .slice x.1 x.2.1 x.2.2
/-- The slices L hold the byte strings xss. -/
structure Els (w : World) (L : List SlV) (xss : List (List UInt8)) : Prop where
  len : L.length = xss.length
  el : ∀ k, k < L.length → Sl w 1 (L.getD k (none, 0, 0)).1 (L.getD k (none, 0, 0)).2.1 (L.getD k (none, 0, 0)).2.2 (cs b8 (xss.getD k []))
theorem Els.nil (w : World) : Els w [] [] := ⟨rfl, fun k hk => absurd hk (by simp)⟩
theorem Els.ext {w w' : World} {L : List SlV} {xss : List (List UInt8)} (h : Els w L xss) (hb : Below w.heap.size w w') : Els w' L xss := ⟨h.len, fun k hk => (h.el k hk).ext hb⟩
theorem Els.append {w : World} {L : List SlV} {xss : List (List UInt8)} (h : Els w L xss) {a : Option Addr} {n c : Nat} {xs : List UInt8} (hs : Sl w 1 a n c (cs b8 xs)) : Els w (L ++ [(a, n, c)]) (xss ++ [xs]) := by
  refine ⟨by simp [h.len], fun k hk => ?_⟩
  by_cases hkl : k < L.length
  · have := h.el k hkl
    have h2 : k < xss.length := by rw [← h.len]; exact hkl
    simp only [List.getD, List.getElem?_append_left hkl, List.getElem?_append_left h2]
    simpa only [List.getD] using this
  · have hke : k = L.length := by simp at hk; omega
    subst hke
    have e2 : L.length = xss.length := h.len
    simp only [List.getD, List.getElem?_concat_length]
    rw [e2]
    simp only [List.getElem?_concat_length, Option.getD_some]
    exact hs
theorem infoSl : (Try.prog.info? 22).map (fun i => (i.zero, i.size, i.bytes)) = some (some (.slice none 0 0), 1, 24) := by kernel_rfl

/-- The slices L are rows of their own, and hold the byte strings xss. -/
structure ElsO (w : World) (L : List SlV) (xss : List (List UInt8)) : Prop where
  len : L.length = xss.length
  el : ∀ k, k < L.length → w.ownsRow 0 5 1 (slv (L.getD k (none, 0, 0))) (L.getD k (none, 0, 0)).2.1 (cs b8 (xss.getD k []))
theorem ElsO.nil (w : World) : ElsO w [] [] := ⟨rfl, fun k hk => absurd hk (by simp)⟩
theorem ElsO.ext {w w' : World} {L : List SlV} {xss : List (List UInt8)} (h : ElsO w L xss) (hb : Below w.heap.size w w') : ElsO w' L xss := ⟨h.len, fun k hk => ownsRow_ext (h.el k hk) hb⟩
theorem getD_app_lt {α : Type} (L : List α) (x d : α) (k : Nat) (h : k < L.length) : (L ++ [x]).getD k d = L.getD k d := by
  simp only [List.getD, List.getElem?_append_left h]
theorem getD_app_eq {α : Type} (L : List α) (x d : α) (k : Nat) (h : k = L.length) : (L ++ [x]).getD k d = x := by
  subst h; simp [List.getD]
theorem ElsO.append {w : World} {L : List SlV} {xss : List (List UInt8)} (h : ElsO w L xss) {a : Option Addr} {n c : Nat} {xs : List UInt8} (hs : w.ownsRow 0 5 1 (.slice a n c) n (cs b8 xs)) : ElsO w (L ++ [(a, n, c)]) (xss ++ [xs]) := by
  refine ⟨by simp [h.len], fun k hk => ?_⟩
  by_cases hkl : k < L.length
  · rw [getD_app_lt _ _ _ _ hkl, getD_app_lt _ _ _ _ (by rw [← h.len]; exact hkl)]
    exact h.el k hkl
  · have hke : k = L.length := by simp at hk; omega
    rw [getD_app_eq _ _ _ _ hke, getD_app_eq _ _ _ _ (by rw [← h.len]; exact hke)]
    exact hs
theorem ElsO.els {w : World} {L : List SlV} {xss : List (List UInt8)} (h : ElsO w L xss) : Els w L xss := by
  refine ⟨h.len, fun k hk => ?_⟩
  obtain ⟨a, c, e, hs⟩ := sl_of_own (h.el k hk)
  have e1 : (L.getD k (none, 0, 0)).1 = a := by unfold slv at e; injection e
  have e2 : (L.getD k (none, 0, 0)).2.2 = c := by unfold slv at e; injection e
  rw [e1, e2]
  exact hs
/-- A row of another type is not touched by an append. -/
theorem ownsRow_far {w w' : World} {X : Obj} {B B2 : Nat} {e e2 : TypeId} {v v2 : Value} {n n2 : Nat} {xs xs2 : List Value} (h : w.ownsRow B e 1 v n xs) (h2 : w.ownsRow B2 e2 1 v2 n2 xs2) (he : e ≠ e2) (hg : (w.alloc X).grownBy w' v2.ownBlock) : w'.ownsRow B e 1 v n xs := by
  refine ⟨h.1, ?_⟩
  rcases h.2 with hn | ⟨g, cap, cur, rfl, hB, hgb, rest⟩
  · exact .inl hn
  · refine .inr ⟨g, cap, cur, rfl, hB, ?_, rest⟩
    have hgl : g < w.heap.size := (Array.getElem?_eq_some_iff.1 hgb).1
    have hne : some g ≠ v2.ownBlock := by
      rcases h2.2 with ⟨rfl, _⟩ | ⟨g2, cap2, cur2, rfl, _, hg2, _⟩
      · simp [Value.ownBlock]
      · intro e'
        obtain rfl : g = g2 := by simpa [Value.ownBlock] using e'
        rw [hgb] at hg2
        cases hg2
        exact he rfl
    rw [hg.block g (by simp; omega) hne, Below.heap_alloc w X g hgl]
    exact hgb
theorem ElsO.far {w w' : World} {X : Obj} {B2 : Nat} {e2 : TypeId} {v2 : Value} {n2 : Nat} {xs2 : List Value} {L : List SlV} {xss : List (List UInt8)} (h : ElsO w L xss) (h2 : w.ownsRow B2 e2 1 v2 n2 xs2) (he : 5 ≠ e2) (hg : (w.alloc X).grownBy w' v2.ownBlock) : ElsO w' L xss :=
  ⟨h.len, fun k hk => ownsRow_far (h.el k hk) h2 he hg⟩


/-- 'append(out, xs...)', out the call's own: which block may have turned. -/
theorem wpList_append_manyG {P : Program} {α : Type} (f : α → Value) (hf : ∀ x, (f x).oneCell' = true) (w : World) {ops : Array Oper} {rest : List Oper} {o : Oper} {a : Act} {Q : Exit → Act → World → Prop} (hgd : o.guard = none) (s x : Operand) (t : TypeId)
    (ho : o.op = .call { callee := .builtin .append, args := #[s, x], argTypes := #[t, t] })
    (B : Nat) (e : TypeId) (z : Value) (bytes : Nat) (ht : P.underlying t = some (.slice e))
    (hinfo : (P.info? e).map (fun i => (i.zero, i.size, i.bytes)) = some (some z, 1, bytes)) (hzs : z.cells.size = 1)
    {v : Value} {n : Nat} {xs : List α} (hown : w.ownsRow B e 1 v n (cs f xs)) (hs : a.eval s = v) {ao : Option Addr} {m c : Nat} {ys : List α} (hsl : Sl w 1 ao m c (cs f ys))
    (hx : a.eval x = .slice ao m c)
    (h63 : n + m ≤ maxLen) (hbytes : (n + m) * bytes ≤ 140737488355328) (hB : B ≤ w.heap.size)
    (hK : ∀ v' w', w'.ownsRow B e 1 v' (n + m) (cs f (xs ++ ys)) → w.grownBy w' (if 0 < m then v.ownBlock else none) → Below B w w' → wpList P ops Q rest (a.put o.dst v') w') :
    wpList P ops Q (o :: rest) a w := by
  refine wpList_append_src w hgd s x t t ho B e z 1 bytes ht hinfo hzs (by decide) hown hs (src_sl w ht hsl (fun u hu => ?_)) hx h63 hbytes hB fun v' w' r2 r3 r4 => ?_
  · unfold cs at hu; obtain ⟨y, _, rfl⟩ := List.mem_map.1 hu; exact hf y
  · refine hK v' w' ?_ r3 r4
    rw [cs_append]; exact r2
/-- A row of another type is not touched by an append. -/
theorem ownsRow_far0 {w w' : World} {B B2 : Nat} {e e2 : TypeId} {v v2 : Value} {n n2 m : Nat} {xs xs2 : List Value} (h : w.ownsRow B e 1 v n xs) (h2 : w.ownsRow B2 e2 1 v2 n2 xs2) (he : e ≠ e2) (hg : w.grownBy w' (if 0 < m then v2.ownBlock else none)) : w'.ownsRow B e 1 v n xs := by
  refine ⟨h.1, ?_⟩
  rcases h.2 with hn | ⟨g, cap, cur, rfl, hB, hgb, rest⟩
  · exact .inl hn
  · refine .inr ⟨g, cap, cur, rfl, hB, ?_, rest⟩
    have hgl : g < w.heap.size := (Array.getElem?_eq_some_iff.1 hgb).1
    have hne : some g ≠ (if 0 < m then v2.ownBlock else none) := by
      split
      · rcases h2.2 with ⟨rfl, _⟩ | ⟨g2, cap2, cur2, rfl, _, hg2, _⟩
        · simp [Value.ownBlock]
        · intro e'
          obtain rfl : g = g2 := by simpa [Value.ownBlock] using e'
          rw [hgb] at hg2
          cases hg2
          exact he rfl
      · simp
    rw [hg.block g hgl hne]
    exact hgb
theorem Els.take {w : World} {L : List SlV} {xss : List (List UInt8)} (h : Els w L xss) (j : Nat) : Els w (L.take j) (xss.take j) := by
  refine ⟨by simp [h.len], fun k hk => ?_⟩
  have hk1 : k < j ∧ k < L.length := by simp at hk; omega
  have := h.el k hk1.2
  simpa [List.getD, hk1.1] using this
theorem Els.small {w : World} {L : List SlV} {xss : List (List UInt8)} (h : Els w L xss) (k : Nat) : (xss.getD k []).length ≤ maxLen := by
  by_cases hk : k < L.length
  · have h1 := h.el k hk
    have h2 := h1.count
    have h3 := h1.hle
    have h4 := h1.hmax
    omega
  · have : xss.getD k [] = [] := by have := h.len; simp [List.getD, List.getElem?_eq_none (show xss.length ≤ k by omega)]
    rw [this]; simp
end Go.Proofs.Ytfhcaikfbfoopaa
