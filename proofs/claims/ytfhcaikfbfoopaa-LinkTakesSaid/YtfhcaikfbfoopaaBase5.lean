/-
  SLICES FOR THE WALK, MORE: make, and stores into a row of the call's own. No condition.
-/
import Derived.Test.YtfhcaikfbfoopaaBase3
namespace Go.Proofs.Ytfhcaikfbfoopaa
open Go.RowKit
set_option linter.unusedVariables false

theorem made_cs {α : Type} (f : α → Value) (d : α) (z : Value) (hz : z.cells = #[f d]) (n : Nat) : (madeCells z.cells (n * 1)).toList = cs f (List.replicate n d) := by
  rw [hz, Nat.mul_one]
  unfold madeCells cs
  apply List.ext_getElem
  · simp
  · intro i h1 h2
    simp [Nat.mod_one]

/-- 'make([]T, n)': n zero elements of one cell. -/
theorem wpList_make_typed {P : Program} {α : Type} (f : α → Value) (d : α) (w : World) {ops : Array Oper} {rest : List Oper} {o : Oper} {a : Act} {Q : Exit → Act → World → Prop}
    (hg : o.guard = none) (l c : Operand) (t : TypeId) (hop : o.op = Op.makeSlice t l c)
    (e : TypeId) (z : Value) (bytes : Nat) (h1 : P.underlying t = some (.slice e)) (hinfo : (P.info? e).map (fun i => (i.zero, i.size, i.bytes)) = some (some z, 1, bytes)) (hz : z.cells = #[f d])
    (kl kc : IntKind) (L C : Int) (n : Nat) (hl : a.eval l = .int kl L) (hc : a.eval c = .int kc C) (hL : L = (n : Int)) (hC : C = (n : Int)) (b2 : bytes * n ≤ 281474976710656) (b3 : n ≤ maxLen)
    (hK : ∀ w', w'.ownsRow w.heap.size e 1 (.slice (some ⟨w.heap.size, 0, none⟩) n n) n (cs f (List.replicate n d)) → Below w.heap.size w w' → wpList P ops Q rest (a.put o.dst (.slice (some ⟨w.heap.size, 0, none⟩) n n)) w') :
    wpList P ops Q (o :: rest) a w := by
  obtain ⟨i, hi, hz0, hsz, rfl⟩ := info_parts hinfo
  refine wpList_make_full w hg l c t hop w.heap.size e i z 1 h1 hi hz0 hsz kl kc L C n hl hc hL hC b2 b3 (Nat.le_refl _) fun w' h2 h3 => ?_
  refine hK w' ?_ ((Below.refl w.heap.size w).grown h3 (Nat.le_refl _) (fun k hk => by cases hk))
  rw [made_cs f d z hz n] at h2
  exact h2

/-- A store into a row of the call's own. -/
theorem own_set {α : Type} {f : α → Value} {w : World} {B : Nat} {e : TypeId} {g n cap : Nat} {xs : List α} (h : w.ownsRow B e 1 (.slice (some ⟨g, 0, none⟩) n cap) n (cs f xs)) (j : Nat) (y : α) :
    (w.setCell ⟨g, j, none⟩ (f y)).ownsRow B e 1 (.slice (some ⟨g, 0, none⟩) n cap) n (cs f (xs.set j y)) := by
  have := (h.stored j (f y)).1
  rw [show (cs f xs).set j (f y) = cs f (xs.set j y) from by unfold cs; rw [List.map_set]] at this
  exact this
theorem own_cell {α : Type} {f : α → Value} {w : World} {B : Nat} {e : TypeId} {g n cap : Nat} {xs : List α} (h : w.ownsRow B e 1 (.slice (some ⟨g, 0, none⟩) n cap) n (cs f xs)) (j : Nat) (hj : j < n) (d : α) :
    w.cell? ⟨g, j, none⟩ = some (f (xs.getD j d)) ∧ w.frozen? ⟨g, j, none⟩ = false ∧ B ≤ g ∧ g < w.heap.size := by
  have hl := h.1
  rw [cs_length] at hl
  refine ⟨?_, h.frozenAt j, (h.lt g rfl).1, (h.lt g rfl).2⟩
  rw [h.cellAt j (by omega), cs_get]
  simp [List.getD, show j < xs.length by omega]
end Go.Proofs.Ytfhcaikfbfoopaa
