/-
  A REGION THAT DRAWS ITS ORDER, LOADS A STRUCT OF TWO CELLS AND CALLS: what go_region_held3's second argument needs. No condition.
-/
import Derived.Test.YtdgjdbpbnipjcaaBase7
import Derived.Deep.RegionHeld3
import Derived.Tactics
import Derived.RegionTactic
import Derived.ArgAppend
import Derived.Laws.OwnMore
import Derived.Test.YtdgjdbpbnipjcaaProg
namespace Go.Proofs.Ytdgjdbpbnipjcaa
open Go.RowKit
set_option linter.unusedVariables false

theorem cell_keep {w1 w2 : World} {a : Addr} {x : Value} (hb : Below w1.heap.size w1 w2) (h1 : w1.cell? a = some x) : w2.cell? a = some x :=
  (hb.cell (World.block_lt_of_cell? _ _ h1)).trans h1
theorem below_drew {B : Nat} {a w : World} (h : Below B a w) : Below B a w.drew := ⟨h.os, h.tape, h.output, h.size, h.block⟩
/-- One result, in a cell of its own. -/
theorem results_cell1 {fn : Func} {p : Tmp} {ty : TypeId} (h : fn.results = #[.cell p ty]) (tmps : Array Value) (P : Program) (w : World) :
    (results fn tmps).run P w = ((asAddr (tmps.getD p undef)).run P w).andThen fun a w₁ => (loadVar ty a).run P w₁ := by
  simp only [results, h]
  simp [Sem.run_bind, Result.andThen]

/-! ### which block lies where -/
theorem hp_new {W : World} {o : Obj} {k : Nat} (h : k = W.heap.size) : (W.alloc o).heap[k]? = some o := by subst h; exact heap_alloc_new W o
theorem hp_old {W : World} {o v : Obj} {k : Nat} (h : W.heap[k]? = some v) : (W.alloc o).heap[k]? = some v := by
  have hk : k < W.heap.size := by
    rcases Nat.lt_or_ge k W.heap.size with h' | h'
    · exact h'
    · rw [Array.getElem?_eq_none h'] at h; cases h
  exact ((below_alloc W o).block k hk).trans h
theorem hp_drew {W : World} {v : Obj} {k : Nat} (h : W.heap[k]? = some v) : W.drew.heap[k]? = some v := h
theorem hp_below {W W' : World} {v : Obj} {k : Nat} (hb : Below W.heap.size W W') (h : W.heap[k]? = some v) : W'.heap[k]? = some v := by
  have hk : k < W.heap.size := by
    rcases Nat.lt_or_ge k W.heap.size with h' | h'
    · exact h'
    · rw [Array.getElem?_eq_none h'] at h; cases h
  exact (hb.block k hk).trans h
/-- Block k holds these cells. -/
def BlkAt (W : World) (k : Nat) (C : Array Value) : Prop := ∃ E, W.heap[k]? = some (.cells C E)
theorem blkNew {W : World} {C : Array Value} {E : TypeId} {k : Nat} (h : k = W.heap.size) : BlkAt (W.alloc (.cells C E)) k C := ⟨E, hp_new h⟩
theorem blkOld {W : World} {o : Obj} {C : Array Value} {k : Nat} (h : BlkAt W k C) : BlkAt (W.alloc o) k C := h.elim fun E h => ⟨E, hp_old h⟩
theorem blkDrew {W : World} {C : Array Value} {k : Nat} (h : BlkAt W k C) : BlkAt W.drew k C := h
theorem blkBelow {W W' : World} {C : Array Value} {k : Nat} (hb : Below W.heap.size W W') (h : BlkAt W k C) : BlkAt W' k C := h.elim fun E h => ⟨E, hp_below hb h⟩
end Go.Proofs.Ytdgjdbpbnipjcaa

namespace Go.Proofs.Ytdgjdbpbnipjcaa
open Go.RowKit
set_option linter.unusedVariables false

/-- The new value lies where the old one lay, or in a new block. -/
def Fresh (w : World) (v v' : Value) : Prop := ∀ k, v'.ownBlock = some k → v.ownBlock = some k ∨ w.heap.size ≤ k
theorem own_fresh {w w' : World} {e : TypeId} {size n : Nat} {v v' : Value} {xs : List Value} (h : w'.ownsRow w.heap.size e size v' n xs) : Fresh w v v' := by
  intro k hk
  rcases h.2 with ⟨rfl, _⟩ | ⟨g, cap, cur, rfl, hB, _⟩
  · cases hk
  · simp [Value.ownBlock] at hk
    subst hk
    exact .inr hB
theorem run_append_fresh {P : Program} (w : World) (B : Nat) (t ty e : TypeId) (z : Value) (size bytes : Nat) (ht : P.underlying t = some (.slice e))
    (hinfo : (P.info? e).map (fun i => (i.zero, i.size, i.bytes)) = some (some z, size, bytes)) (hzs : z.cells.size = size) (hsz : 0 < size)
    (v : Value) (n : Nat) (xs : List Value) (hown : w.ownsRow B e size v n xs)
    (a : Addr) (m c : Nat) (news : List Value) (hl : news.length = m * size) (hnews : ∀ j u, news[j]? = some u → w.cell? (a.add j) = some u) (h1 : ∀ u ∈ news, u.oneCell' = true)
    (h63 : n + m ≤ maxLen) (hbytes : (n + m) * bytes ≤ 140737488355328) (hB : B ≤ w.heap.size) :
    ∃ v' w', (Builtin.append_ #[t, t] ty #[v, .slice (some a) m c]).run P w = .ok v' w' ∧ w'.ownsRow B e size v' (n + m) (xs ++ news) ∧ w.grownBy w' v.ownBlock ∧ Fresh w v v' := by
  obtain ⟨i, hi, hz, rfl, rfl⟩ := info_parts hinfo
  rcases hown.2 with ⟨rfl, rfl⟩ | ⟨g, cap, cur, rfl, hbg, hg, hnc, hcm, hcs, htake⟩
  · have hx : xs = [] := List.eq_nil_of_length_eq_zero (by simpa using hown.1)
    subst hx
    obtain ⟨v', w', r1, r2, r3, _⟩ := run_append_own (P := P) w w.heap.size t ty e i z i.size i.bytes ht hi hz rfl rfl hzs hsz (.slice none 0 0) 0 [] (World.ownsRow_nil _ _ _ _) a m c news hl hnews h1 h63 hbytes (Nat.le_refl _)
    exact ⟨v', w', r1, ownsRow_mono r2 hB, r3, own_fresh r2⟩
  · by_cases hroom : n + m ≤ cap
    · obtain ⟨w', r1, r2, r3⟩ := run_append_fits (P := P) w B t ty e i i.size ht hi rfl g n cap xs hown a m c news hl hnews h1 hroom
      exact ⟨_, w', r1, r2, r3, fun k hk => .inl (by simpa [Value.ownBlock] using hk)⟩
    · obtain ⟨v', w', r1, r2, r3⟩ := run_append_arg_grows (P := P) w t ty e i z i.size i.bytes ht hi hz rfl rfl hzs hsz ⟨g, 0, none⟩ n cap xs hown.1 (fun j u hj => hown.cells (g := g) rfl j u hj) a m c news hl hnews (by omega) h63 hbytes
      exact ⟨v', w', r1, ownsRow_mono r2 hB, ⟨r3.os, r3.tape, r3.output, r3.size, fun k hk _ => r3.block k hk (by simp)⟩, own_fresh r2⟩
end Go.Proofs.Ytdgjdbpbnipjcaa

namespace Go.Proofs.Ytdgjdbpbnipjcaa
open Go.RowKit
set_option linter.unusedVariables false

section
variable {α : Type} (z : α) (A : α → Array Value) (N : Nat)
def flatV (l : List α) : List Value := l.flatMap fun x => (A x).toList
theorem flatV_cons (x : α) (l : List α) : flatV A (x :: l) = (A x).toList ++ flatV A l := by unfold flatV; simp
theorem flatV_append (l m : List α) : flatV A (l ++ m) = flatV A l ++ flatV A m := by unfold flatV; simp
theorem flatV_len (hA : ∀ o, (A o).size = N) : ∀ l : List α, (flatV A l).length = l.length * N
  | [] => by simp [flatV]
  | x :: l => by rw [flatV_cons, List.length_append, flatV_len hA l, Array.length_toList, hA, List.length_cons, Nat.succ_mul]; omega
theorem flatV_get (hA : ∀ o, (A o).size = N) : ∀ (l : List α) (i j : Nat), i < l.length → j < N → (flatV A l)[i * N + j]? = (A (l.getD i z))[j]?
  | [], i, j, h, _ => absurd h (by simp)
  | x :: l, 0, j, _, hj => by
    rw [flatV_cons, Nat.zero_mul, Nat.zero_add, List.getElem?_append_left (by rw [Array.length_toList, hA]; exact hj)]
    simp
  | x :: l, i + 1, j, h, hj => by
    rw [flatV_cons, List.getElem?_append_right (by rw [Array.length_toList, hA, Nat.succ_mul]; omega), show (i + 1) * N + j - (A x).toList.length = i * N + j from by rw [Array.length_toList, hA, Nat.succ_mul]; omega]
    rw [flatV_get hA l i j (by simpa using h) hj]
    simp
end
/-- A row of such structs, one element. -/
theorem flat_at {α : Type} (z : α) (A : α → Array Value) (N : Nat) (hN : 0 < N) (hA : ∀ o, (A o).size = N) {w : World} {ao : Option Addr} {len cap : Nat} {l : List α} (h : Sl w N ao len cap (flatV A l)) (hl : l.length = len) (k : Nat) (hk : k < len) :
    ∃ b o, ao = some ⟨b, o, none⟩ ∧ ∀ j v, (A (l.getD k z))[j]? = some v → w.cell? ⟨b, o + k * N + j, none⟩ = some v := by
  have hj : ∀ j v, (A (l.getD k z))[j]? = some v → j < N := fun j v e => by have := (Array.getElem?_eq_some_iff.1 e).1; rw [hA] at this; exact this
  have hpos : 0 < (flatV A l).length := by rw [flatV_len A N hA l]; exact Nat.mul_pos (by omega) hN
  obtain ⟨b, o, e, _, hc⟩ := h.addr hpos
  refine ⟨b, o, e, fun j v hv => ?_⟩
  have := hc (k * N + j) v (by rw [flatV_get z A N hA l k j (by omega) (hj j v hv)]; exact hv)
  rw [Nat.add_assoc]
  exact this
end Go.Proofs.Ytdgjdbpbnipjcaa
