/-
  A REGION THAT DRAWS ITS ORDER, LOADS A STRUCT OF TWO CELLS AND CALLS: what go_region_held3's second argument needs. No condition.
-/
import Derived.Test.YtpmjgiabedjlgaaBase7
import Derived.Deep.RegionHeld3
import Derived.Tactics
import Derived.RegionTactic
import Derived.ArgAppend
import Derived.Laws.OwnMore
namespace Go.Proofs.Ytpmjgiabedjlgaa
open Go.RowKit
set_option linter.unusedVariables false

theorem cell_keep {w1 w2 : World} {a : Addr} {x : Value} (hb : Below w1.heap.size w1 w2) (h1 : w1.cell? a = some x) : w2.cell? a = some x :=
  (hb.cell (World.block_lt_of_cell? _ _ h1)).trans h1
theorem keep3 {w w1 w2 : World} {a b : Addr} {x y : Value} (hb : Below w1.heap.size w1 w2) (h : w1.cell? a = some x ∧ w1.cell? b = some y ∧ Below w.heap.size w w1) :
    w2.cell? a = some x ∧ w2.cell? b = some y ∧ Below w.heap.size w w2 :=
  ⟨cell_keep hb h.1, cell_keep hb h.2.1, below_step h.2.2 hb⟩
theorem below_drew {B : Nat} {a w : World} (h : Below B a w) : Below B a w.drew := ⟨h.os, h.tape, h.output, h.size, h.block⟩
theorem keep3D {w w1 : World} {a b : Addr} {x y : Value} (h : w1.cell? a = some x ∧ w1.cell? b = some y ∧ Below w.heap.size w w1) :
    w1.drew.cell? a = some x ∧ w1.drew.cell? b = some y ∧ Below w.heap.size w w1.drew := ⟨h.1, h.2.1, below_drew h.2.2⟩
theorem keep3A {w w1 : World} {a b : Addr} {x y : Value} (o : Obj) (h : w1.cell? a = some x ∧ w1.cell? b = some y ∧ Below w.heap.size w w1) :
    (w1.alloc o).cell? a = some x ∧ (w1.alloc o).cell? b = some y ∧ Below w.heap.size w (w1.alloc o) := keep3 (below_alloc _ _) h
theorem keep3_0 (w : World) (x y : Value) (E : TypeId) : (w.alloc (.cells #[x, y] E)).cell? ⟨w.heap.size, 0, none⟩ = some x ∧ (w.alloc (.cells #[x, y] E)).cell? ⟨w.heap.size, 1, none⟩ = some y ∧ Below w.heap.size w (w.alloc (.cells #[x, y] E)) := by
  refine ⟨?_, ?_, below_alloc _ _⟩ <;> (rw [cell_of_row _ _ _ _ _ _ (heap_alloc_new w _)]; rfl)
/-- One result, in a cell of its own. -/
theorem results_cell1 {fn : Func} {p : Tmp} {ty : TypeId} (h : fn.results = #[.cell p ty]) (tmps : Array Value) (P : Program) (w : World) :
    (results fn tmps).run P w = ((asAddr (tmps.getD p undef)).run P w).andThen fun a w₁ => (loadVar ty a).run P w₁ := by
  simp only [results, h]
  simp [Sem.run_bind, Result.andThen]

/-! ### which block lies where -/
theorem hp_new {W : World} {o : Obj} {k : Nat} (h : k = W.heap.size) : (W.alloc o).heap[k]? = some o := by subst h; exact heap_alloc_new W o
theorem hp_old {W : World} {o v : Obj} {k : Nat} (h : W.heap[k]? = some v) : (W.alloc o).heap[k]? = some v := by
  have hk : k < W.heap.size := by
    rcases Nat.lt_or_ge k W.heap.size with h' | h'
    · exact h'
    · rw [Array.getElem?_eq_none h'] at h; cases h
  exact ((below_alloc W o).block k hk).trans h
theorem hp_below {W W' : World} {v : Obj} {k : Nat} (hb : Below W.heap.size W W') (h : W.heap[k]? = some v) : W'.heap[k]? = some v := by
  have hk : k < W.heap.size := by
    rcases Nat.lt_or_ge k W.heap.size with h' | h'
    · exact h'
    · rw [Array.getElem?_eq_none h'] at h; cases h
  exact (hb.block k hk).trans h
/-- Block k holds these cells. -/
def BlkAt (W : World) (k : Nat) (C : Array Value) : Prop := ∃ E, W.heap[k]? = some (.cells C E)
theorem blkNew {W : World} {C : Array Value} {E : TypeId} {k : Nat} (h : k = W.heap.size) : BlkAt (W.alloc (.cells C E)) k C := ⟨E, hp_new h⟩
theorem blkOld {W : World} {o : Obj} {C : Array Value} {k : Nat} (h : BlkAt W k C) : BlkAt (W.alloc o) k C := h.elim fun E h => ⟨E, hp_old h⟩
theorem blkDrew {W : World} {C : Array Value} {k : Nat} (h : BlkAt W k C) : BlkAt W.drew k C := h
theorem blkBelow {W W' : World} {C : Array Value} {k : Nat} (hb : Below W.heap.size W W') (h : BlkAt W k C) : BlkAt W' k C := h.elim fun E h => ⟨E, hp_below hb h⟩
theorem two_facts {W : World} {k : Nat} {x y : Value} (h : BlkAt W k #[x, y]) : W.cell? ⟨k, 0, none⟩ = some x ∧ W.cell? ⟨k, 1, none⟩ = some y ∧ W.frozen? ⟨k, 0, none⟩ = false ∧ W.frozen? ⟨k, 1, none⟩ = false := by
  obtain ⟨E, h⟩ := h
  refine ⟨?_, ?_, frozen_of_row _ _ _ _ _ h, frozen_of_row _ _ _ _ _ h⟩ <;> (rw [cell_of_row _ _ _ _ _ _ h]; rfl)
theorem two_set {W : World} {k : Nat} {x y : Value} (h : BlkAt W k #[x, y]) (u v : Value) : BlkAt ((W.setCell ⟨k, 0, none⟩ u).setCell ⟨k, 1, none⟩ v) k #[u, v] := by
  obtain ⟨E, h⟩ := h
  exact ⟨E, heap_setCell_same _ k 1 _ E v (heap_setCell_same W k 0 _ E u h)⟩
theorem cell_far {w : World} {a b : Addr} {x u : Value} (hab : a.block ≠ b.block) (h : w.cell? a = some x) : (w.setCell b u).cell? a = some x :=
  (World.cell?_of_block (w := w) (Below.heap_setCell w b u a.block hab)).trans h
theorem keep3S {w w1 : World} {i j : Nat} {x y u v : Value} (h : w1.cell? ⟨w.heap.size, 0, none⟩ = some x ∧ w1.cell? ⟨w.heap.size, 1, none⟩ = some y ∧ Below w.heap.size w w1) :
    ((w1.setCell ⟨w.heap.size + 1, i, none⟩ u).setCell ⟨w.heap.size + 1, j, none⟩ v).cell? ⟨w.heap.size, 0, none⟩ = some x ∧ ((w1.setCell ⟨w.heap.size + 1, i, none⟩ u).setCell ⟨w.heap.size + 1, j, none⟩ v).cell? ⟨w.heap.size, 1, none⟩ = some y ∧
      Below w.heap.size w ((w1.setCell ⟨w.heap.size + 1, i, none⟩ u).setCell ⟨w.heap.size + 1, j, none⟩ v) :=
  ⟨cell_far (by simp) (cell_far (by simp) h.1), cell_far (by simp) (cell_far (by simp) h.2.1), (h.2.2.setCell (by simp) _).setCell (by simp) _⟩

end Go.Proofs.Ytpmjgiabedjlgaa

namespace Go.Proofs.Ytpmjgiabedjlgaa
open Go.RowKit
set_option linter.unusedVariables false

/-- The new value lies where the old one lay, or in a new block. -/
def Fresh (w : World) (v v' : Value) : Prop := ∀ k, v'.ownBlock = some k → v.ownBlock = some k ∨ w.heap.size ≤ k
theorem own_fresh {w w' : World} {e : TypeId} {size n : Nat} {v v' : Value} {xs : List Value} (h : w'.ownsRow w.heap.size e size v' n xs) : Fresh w v v' := by
  intro k hk
  rcases h.2 with ⟨rfl, _⟩ | ⟨g, cap, cur, rfl, hB, _⟩
  · cases hk
  · simp [Value.ownBlock] at hk
    subst hk
    exact .inr hB
theorem run_append_fresh {P : Program} (w : World) (B : Nat) (t ty e : TypeId) (z : Value) (size bytes : Nat) (ht : P.underlying t = some (.slice e))
    (hinfo : (P.info? e).map (fun i => (i.zero, i.size, i.bytes)) = some (some z, size, bytes)) (hzs : z.cells.size = size) (hsz : 0 < size)
    (v : Value) (n : Nat) (xs : List Value) (hown : w.ownsRow B e size v n xs)
    (a : Addr) (m c : Nat) (news : List Value) (hl : news.length = m * size) (hnews : ∀ j u, news[j]? = some u → w.cell? (a.add j) = some u) (h1 : ∀ u ∈ news, u.oneCell' = true)
    (h63 : n + m ≤ maxLen) (hbytes : (n + m) * bytes ≤ 140737488355328) (hB : B ≤ w.heap.size) :
    ∃ v' w', (Builtin.append_ #[t, t] ty #[v, .slice (some a) m c]).run P w = .ok v' w' ∧ w'.ownsRow B e size v' (n + m) (xs ++ news) ∧ w.grownBy w' v.ownBlock ∧ Fresh w v v' := by
  obtain ⟨i, hi, hz, rfl, rfl⟩ := info_parts hinfo
  rcases hown.2 with ⟨rfl, rfl⟩ | ⟨g, cap, cur, rfl, hbg, hg, hnc, hcm, hcs, htake⟩
  · have hx : xs = [] := List.eq_nil_of_length_eq_zero (by simpa using hown.1)
    subst hx
    obtain ⟨v', w', r1, r2, r3, _⟩ := run_append_own (P := P) w w.heap.size t ty e i z i.size i.bytes ht hi hz rfl rfl hzs hsz (.slice none 0 0) 0 [] (World.ownsRow_nil _ _ _ _) a m c news hl hnews h1 h63 hbytes (Nat.le_refl _)
    exact ⟨v', w', r1, ownsRow_mono r2 hB, r3, own_fresh r2⟩
  · by_cases hroom : n + m ≤ cap
    · obtain ⟨w', r1, r2, r3⟩ := run_append_fits (P := P) w B t ty e i i.size ht hi rfl g n cap xs hown a m c news hl hnews h1 hroom
      exact ⟨_, w', r1, r2, r3, fun k hk => .inl (by simpa [Value.ownBlock] using hk)⟩
    · obtain ⟨v', w', r1, r2, r3⟩ := run_append_arg_grows (P := P) w t ty e i z i.size i.bytes ht hi hz rfl rfl hzs hsz ⟨g, 0, none⟩ n cap xs hown.1 (fun j u hj => hown.cells (g := g) rfl j u hj) a m c news hl hnews (by omega) h63 hbytes
      exact ⟨v', w', r1, ownsRow_mono r2 hB, ⟨r3.os, r3.tape, r3.output, r3.size, fun k hk _ => r3.block k hk (by simp)⟩, own_fresh r2⟩
/-- .. as a step of a region that draws its order: one element that lies in a block. -/
theorem step_append_row {P : Program} (w : World) {ops : Array Oper} {o : Oper} {a : Act} {K : Act → World → Prop} {Q : Exit → Act → World → Prop} {E : Prop}
    (hgd : o.guard = none) (s x : Operand) (t : TypeId)
    (ho : o.op = .call { callee := .builtin .append, args := #[s, x], argTypes := #[t, t] })
    (B : Nat) (e : TypeId) (z : Value) (size bytes : Nat) (ht : P.underlying t = some (.slice e))
    (hinfo : (P.info? e).map (fun i => (i.zero, i.size, i.bytes)) = some (some z, size, bytes)) (hzs : z.cells.size = size) (hsz : 0 < size)
    {v : Value} {n : Nat} {xs : List Value} (hs : a.eval s = v) (hown : w.ownsRow B e size v n xs) {k : Nat} {C : Array Value} (hx : a.eval x = .slice (some ⟨k, 0, none⟩) 1 1) (hk : BlkAt w k C) (hC : C.size = size) (h1 : ∀ u ∈ C.toList, u.oneCell' = true)
    (h63 : n + 1 ≤ maxLen) (hbytes : (n + 1) * bytes ≤ 140737488355328) (hB : B ≤ w.heap.size)
    (hK : ∀ v' w', w'.ownsRow B e size v' (n + 1) (xs ++ C.toList) → w.grownBy w' v.ownBlock → Fresh w v v' → K (a.put o.dst v') w') :
    if Region.wanted o (yielded ops a.tmps) = true then Oper.wp P o a w K Q else E := by
  rw [if_pos (by simp [Region.wanted, hgd])]
  obtain ⟨E', hE⟩ := hk
  obtain ⟨v', w', hrun, r1, r2, r3⟩ := run_append_fresh (P := P) w B t o.type e z size bytes ht hinfo hzs hsz v n xs hown ⟨k, 0, none⟩ 1 1 C.toList (by rw [Array.length_toList, hC, Nat.one_mul])
    (fun j u hj => by rw [Addr.add_lit, Nat.zero_add, cell_of_row _ _ _ _ _ _ hE]; simpa using hj) h1 h63 hbytes hB
  unfold Oper.wp execOp
  simp only [ho, resolve, invoke, builtin, Sem.run_bind, Sem.run_pure, Result.andThen_ok, List.map_toArray, List.map_cons, List.map_nil, hs, hx, hrun]
  exact hK v' w' r1 r2 r3
end Go.Proofs.Ytpmjgiabedjlgaa
