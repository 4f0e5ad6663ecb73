/-
  TYPED SLICES FOR THE WALK: 'cs f xs'. No condition.
-/
import Derived.Test.YtjfakdbgcinpcaaBase1
import Derived.Deep.Quiet
import Derived.Test.YtjfakdbgcinpcaaBase0
namespace Go.Proofs.Ytjfakdbgcinpcaa
open Go.RowKit
set_option linter.unusedVariables false

/-! ### Typed cells: 'cs f xs': the cells of the elements xs, one each. Opaque to the walk. -/
def cs {α : Type} (f : α → Value) (xs : List α) : List Value := xs.map f
def i64v (n : Int) : Value := .int .i64 n
section
variable {α : Type} (f : α → Value) (xs ys : List α)
theorem cs_length : (cs f xs).length = xs.length := by simp [cs]
theorem cs_append : cs f (xs ++ ys) = cs f xs ++ cs f ys := by simp [cs]
theorem cs_one (x : α) : cs f [x] = [f x] := rfl
theorem cs_get (j : Nat) : (cs f xs)[j]? = xs[j]?.map f := by simp [cs]
theorem cs_drop (k : Nat) : (cs f xs).drop k = cs f (xs.drop k) := by simp [cs]
theorem cs_take (k : Nat) : (cs f xs).take k = cs f (xs.take k) := by simp [cs]
end

section
variable {α : Type} {f : α → Value} {w : World} {ao : Option Addr} {len cap : Nat} {xs : List α}
theorem Sl.count (h : Sl w 1 ao len cap (cs f xs)) : xs.length = len := by have := h.hlen; rw [cs_length] at this; omega
/-- Element i lies there. -/
theorem Sl.at_ (h : Sl w 1 ao len cap (cs f xs)) (i : Nat) (hi : i < len) (d : α) : ∃ b off, ao = some ⟨b, off, none⟩ ∧ w.cell? ⟨b, off + i, none⟩ = some (f (xs.getD i d)) := by
  have hc := h.count
  obtain ⟨b, off, e, h'⟩ := h.hcell i (f (xs.getD i d)) (by rw [cs_get]; simp [List.getD, hc, hi])
  exact ⟨b, off, e, h'⟩
/-- All elements lie there. -/
theorem Sl.all (h : Sl w 1 ao len cap (cs f xs)) (hpos : 0 < len) (d : α) : ∃ b off, ao = some ⟨b, off, none⟩ ∧ b < w.heap.size ∧ ∀ i, i < len → w.cell? ⟨b, off + i, none⟩ = some (f (xs.getD i d)) := by
  have hc := h.count
  obtain ⟨b, off, e, hb, h'⟩ := h.addr (by rw [cs_length]; omega)
  exact ⟨b, off, e, hb, fun i hi => h' i _ (by rw [cs_get]; simp [List.getD, hc, hi])⟩
theorem Sl.partT (h : Sl w 1 ao len cap (cs f xs)) (l r m : Nat) (h1 : l ≤ r) (h2 : r ≤ len) (h3 : r ≤ m) (h4 : m ≤ cap) :
    Sl w 1 (if m = l then ao else ao.map (·.add (l * 1))) (r - l) (m - l) (cs f ((xs.drop l).take (r - l))) := by
  have := h.part l r m h1 h2 h3 h4
  rw [Nat.mul_one, Nat.mul_one, cs_drop, cs_take] at this
  rw [Nat.mul_one]
  exact this
end

/-- 's[at:]', whatever s: the value, and what it holds. The run equation is laid ahead of the walk. -/
theorem slice_from {P : Program} {α : Type} {f : α → Value} {w : World} {ao : Option Addr} {len cap : Nat} {xs : List α} (t e : TypeId) (ht : P.underlying t = some (.slice e)) (hz : ∀ w : World, (sizeOf e).run P w = .ok 1 w)
    (hs : Sl w 1 ao len cap (cs f xs)) (at_ : Nat) (h : at_ ≤ len) :
    ∃ ao', (∀ w', (Instr.slice t (.slice ao len cap) (some (.int .i64 (at_ : Int))) none none).run P w' = .ok (.slice ao' (len - at_) (cap - at_)) w') ∧ Sl w 1 ao' (len - at_) (cap - at_) (cs f (xs.drop at_)) := by
  have hle := hs.hle
  refine ⟨if cap = at_ then ao else ao.map (·.add (at_ * 1)), fun w' => ?_, ?_⟩
  · have he : P.elem t = e := by simp [Program.elem, ht]
    rw [run_slice_l w' t ao len cap (by rw [he]; exact ht) .i64 (at_ : Int) (by omega) (by omega), he, hz]
    simp [Result.andThen, sliced]
  · have := hs.partT at_ len cap h (Nat.le_refl _) hle (Nat.le_refl _)
    rw [List.take_of_length_le (by rw [List.length_drop, hs.count]; omega)] at this
    exact this

section
variable {P : Program} {α : Type}
/-- 'append(out, x)' of one element of one cell: x was laid in a new block just before. -/
theorem wpList_append_one (f : α → Value) (hf : ∀ x, (f x).oneCell' = true) (w : World) {ops : Array Oper} {rest : List Oper} {o : Oper} {a : Act} {Q : Exit → Act → World → Prop} (hgd : o.guard = none) (s x : Operand) (t : TypeId)
    (ho : o.op = .call { callee := .builtin .append, args := #[s, x], argTypes := #[t, t] })
    (B : Nat) (e E : TypeId) (z : Value) (bytes : Nat) (ht : P.underlying t = some (.slice e))
    (hinfo : (P.info? e).map (fun i => (i.zero, i.size, i.bytes)) = some (some z, 1, bytes)) (hzs : z.cells.size = 1)
    {v : Value} {n : Nat} {xs : List α} (hacc : Acc w B e 1 v n (cs f xs)) (hs : a.eval s = v) (c : α)
    (hx : a.eval x = .slice (some ⟨w.heap.size, 0, none⟩) 1 1)
    (h63 : n + 1 ≤ maxLen) (hbytes : (n + 1) * bytes ≤ 140737488355328) (hB : B ≤ w.heap.size)
    (hK : ∀ v' w', w'.ownsRow B e 1 v' (n + 1) (cs f (xs ++ [c])) → (w.alloc (.cells #[f c] E)).grownBy w' v.ownBlock → Below B w w' → wpList P ops Q rest (a.put o.dst v') w') :
    wpList P ops Q (o :: rest) a (w.alloc (.cells #[f c] E)) := by
  have hext : Below w.heap.size w (w.alloc (.cells #[f c] E)) := Below.alloc (Below.refl _ _) (Nat.le_refl _) _
  refine wpList_append_acc _ hgd s x t t ho B e z 1 bytes ht hinfo hzs (by decide) (hacc.ext hext) hs (src_one w t e E (f c) (hf c) ht) hx h63 hbytes (by simp; omega) fun v' w' _ r2 r3 r4 => ?_
  refine hK v' w' ?_ (by simpa using r3) ((hext.mono hB).trans r4)
  rw [cs_append, cs_one]
  exact r2 (by decide)
end
end Go.Proofs.Ytjfakdbgcinpcaa

namespace Go.Proofs.Ytjfakdbgcinpcaa
open Go.RowKit
set_option linter.unusedVariables false
/-- 's[:hi]'. -/
theorem slice_to {P : Program} {α : Type} {f : α → Value} {w : World} {ao : Option Addr} {len cap : Nat} {xs : List α} (t e : TypeId) (ht : P.underlying t = some (.slice e)) (hz : ∀ w : World, (sizeOf e).run P w = .ok 1 w)
    (hs : Sl w 1 ao len cap (cs f xs)) (hi : Nat) (h2 : hi ≤ len) :
    ∃ ao', (∀ w', (Instr.slice t (.slice ao len cap) none (some (.int .i64 (hi : Int))) none).run P w' = .ok (.slice ao' hi cap) w') ∧ Sl w 1 ao' hi cap (cs f (xs.take hi)) := by
  have hle := hs.hle
  refine ⟨if cap = 0 then ao else ao.map (·.add (0 * 1)), fun w' => ?_, ?_⟩
  · have he : P.elem t = e := by simp [Program.elem, ht]
    rw [run_slice_h w' t ao len cap (by rw [he]; exact ht) .i64 (hi : Int) (by omega) (by omega), he, hz]
    simp [Result.andThen, sliced]
  · have := hs.partT 0 hi cap (Nat.zero_le _) h2 (by omega) (Nat.le_refl _)
    simpa using this
theorem sl_own {w : World} {B : Nat} {e : TypeId} {size : Nat} {v : Value} {n : Nat} {xs : List Value} (h : w.ownsRow B e size v n xs) : ∃ N ao cap, v = .slice ao N cap ∧ Sl w size ao N cap xs := by
  obtain ⟨x, c, h1, h2⟩ := sl_of_own h
  exact ⟨_, x, c, h1, h2⟩
/-- A new block of cells, as a slice. -/
theorem sl_lit {α : Type} {f : α → Value} (w : World) (E : TypeId) (xs : List α) (C : Array Value) (hC : C = (cs f xs).toArray) (n : Nat) (hn : n = xs.length) (hm : n ≤ 1000000000) :
    Sl (w.alloc (.cells C E)) 1 (some ⟨w.heap.size, 0, none⟩) n n (cs f xs) := by
  subst hC; subst hn
  refine ⟨by rw [cs_length]; omega, Nat.le_refl _, by unfold maxLen; omega, (fun h => by cases h), fun j u hj => ⟨w.heap.size, 0, rfl, ?_⟩⟩
  rw [Nat.zero_add, cell_of_row _ _ _ _ _ _ (heap_alloc_new w _)]
  simpa using hj
theorem below_drewN {B : Nat} {a w : World} (h : Below B a w) (n : Nat) : Below B a (w.drewN n) := ⟨h.os, h.tape, h.output, h.size, h.block⟩
theorem below_alloc (w : World) (o : Obj) : Below w.heap.size w (w.alloc o) := Below.alloc (Below.refl _ _) (Nat.le_refl _) _
theorem below_step {w w1 w2 : World} (h : Below w.heap.size w w1) (h' : Below w1.heap.size w1 w2) : Below w.heap.size w w2 := h.trans (h'.mono h.size)
/-- The answer, and nothing that was there has turned. -/
def RetB (v : Value) (w : World) (e : Ending) (w' : World) : Prop := e = .returned v ∧ Below w.heap.size w w'
theorem RetB.of {v : Value} {w w' : World} {e : Ending} (h : e = .returned v ∧ w = w') : RetB v w e w' := ⟨h.1, by rw [← h.2]; exact Below.refl _ _⟩
end Go.Proofs.Ytjfakdbgcinpcaa

namespace Go.Proofs.Ytjfakdbgcinpcaa
open Go.RowKit
set_option linter.unusedVariables false

theorem made_cs {α : Type} (f : α → Value) (d : α) (z : Value) (hz : z.cells = #[f d]) (n : Nat) : (madeCells z.cells (n * 1)).toList = cs f (List.replicate n d) := by
  rw [hz, Nat.mul_one]
  unfold madeCells cs
  apply List.ext_getElem
  · simp
  · intro i h1 h2
    simp [Nat.mod_one]

/-- 'make([]T, n)': n zero elements of one cell. -/
theorem wpList_make_typed {P : Program} {α : Type} (f : α → Value) (d : α) (w : World) {ops : Array Oper} {rest : List Oper} {o : Oper} {a : Act} {Q : Exit → Act → World → Prop}
    (hg : o.guard = none) (l c : Operand) (t : TypeId) (hop : o.op = Op.makeSlice t l c)
    (e : TypeId) (z : Value) (bytes : Nat) (h1 : P.underlying t = some (.slice e)) (hinfo : (P.info? e).map (fun i => (i.zero, i.size, i.bytes)) = some (some z, 1, bytes)) (hz : z.cells = #[f d])
    (kl kc : IntKind) (L C : Int) (n : Nat) (hl : a.eval l = .int kl L) (hc : a.eval c = .int kc C) (hL : L = (n : Int)) (hC : C = (n : Int)) (b2 : bytes * n ≤ 281474976710656) (b3 : n ≤ maxLen)
    (hK : ∀ w', w'.ownsRow w.heap.size e 1 (.slice (some ⟨w.heap.size, 0, none⟩) n n) n (cs f (List.replicate n d)) → Below w.heap.size w w' → wpList P ops Q rest (a.put o.dst (.slice (some ⟨w.heap.size, 0, none⟩) n n)) w') :
    wpList P ops Q (o :: rest) a w := by
  obtain ⟨i, hi, hz0, hsz, rfl⟩ := info_parts hinfo
  refine wpList_make_full w hg l c t hop w.heap.size e i z 1 h1 hi hz0 hsz kl kc L C n hl hc hL hC b2 b3 (Nat.le_refl _) fun w' h2 h3 => ?_
  refine hK w' ?_ ((Below.refl w.heap.size w).grown h3 (Nat.le_refl _) (fun k hk => by cases hk))
  rw [made_cs f d z hz n] at h2
  exact h2

/-- A store into a row of the call's own. -/
theorem own_set {α : Type} {f : α → Value} {w : World} {B : Nat} {e : TypeId} {g n cap : Nat} {xs : List α} (h : w.ownsRow B e 1 (.slice (some ⟨g, 0, none⟩) n cap) n (cs f xs)) (j : Nat) (y : α) :
    (w.setCell ⟨g, j, none⟩ (f y)).ownsRow B e 1 (.slice (some ⟨g, 0, none⟩) n cap) n (cs f (xs.set j y)) := by
  have := (h.stored j (f y)).1
  rw [show (cs f xs).set j (f y) = cs f (xs.set j y) from by unfold cs; rw [List.map_set]] at this
  exact this
theorem own_cell {α : Type} {f : α → Value} {w : World} {B : Nat} {e : TypeId} {g n cap : Nat} {xs : List α} (h : w.ownsRow B e 1 (.slice (some ⟨g, 0, none⟩) n cap) n (cs f xs)) (j : Nat) (hj : j < n) (d : α) :
    w.cell? ⟨g, j, none⟩ = some (f (xs.getD j d)) ∧ w.frozen? ⟨g, j, none⟩ = false ∧ B ≤ g ∧ g < w.heap.size := by
  have hl := h.1
  rw [cs_length] at hl
  refine ⟨?_, h.frozenAt j, (h.lt g rfl).1, (h.lt g rfl).2⟩
  rw [h.cellAt j (by omega), cs_get]
  simp [List.getD, show j < xs.length by omega]
end Go.Proofs.Ytjfakdbgcinpcaa

namespace Go.Proofs.Ytjfakdbgcinpcaa
open Go.RowKit
set_option linter.unusedVariables false
@[go_sem] theorem cells_match_b8 (c : UInt8) : Value.cells.match_1 (motive := fun _ => Array Value) (b8 c) (fun cs => cs) (fun v => #[v]) = #[b8 c] := rfl
@[go_sem] theorem cells_match_u64 (c : BitVec 64) : Value.cells.match_1 (motive := fun _ => Array Value) (u64 c) (fun cs => cs) (fun v => #[v]) = #[u64 c] := rfl
@[go_sem] theorem cells_match_u32 (c : BitVec 32) : Value.cells.match_1 (motive := fun _ => Array Value) (u32 c) (fun cs => cs) (fun v => #[v]) = #[u32 c] := rfl
end Go.Proofs.Ytjfakdbgcinpcaa

namespace Go.Proofs.Ytjfakdbgcinpcaa
open Go.RowKit
set_option linter.unusedVariables false

@[go_sem ↓] theorem u64_shl_w (t : TypeId) (a s : BitVec 64) : binOp .shl t (u64 a) (u64 s) = pure (u64 (a <<< s.toNat)) := by
  conv => lhs; arg 4; unfold u64
  rw [u64_shl t a _ .u64 (Int.natCast_nonneg _), Int.toNat_natCast]
@[go_sem ↓] theorem u64_shr_w (t : TypeId) (a s : BitVec 64) : binOp .shr t (u64 a) (u64 s) = pure (u64 (a >>> s.toNat)) := by
  conv => lhs; arg 4; unfold u64
  rw [u64_shr t a _ .u64 (Int.natCast_nonneg _), Int.toNat_natCast]
end Go.Proofs.Ytjfakdbgcinpcaa
