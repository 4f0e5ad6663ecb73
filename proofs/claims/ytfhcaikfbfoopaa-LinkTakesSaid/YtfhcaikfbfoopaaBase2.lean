/-
  TYPED SLICES FOR THE WALK: 'cs f xs'. No condition.
-/
import Derived.Test.YtfhcaikfbfoopaaBase1
namespace Go.Proofs.Ytfhcaikfbfoopaa
open Go.RowKit
set_option linter.unusedVariables false

/-! ### Typed cells: 'cs f xs': the cells of the elements xs, one each. Opaque to the walk. -/
def cs {α : Type} (f : α → Value) (xs : List α) : List Value := xs.map f
def i64v (n : Int) : Value := .int .i64 n
section
variable {α : Type} (f : α → Value) (xs ys : List α)
theorem cs_length : (cs f xs).length = xs.length := by simp [cs]
theorem cs_append : cs f (xs ++ ys) = cs f xs ++ cs f ys := by simp [cs]
theorem cs_one (x : α) : cs f [x] = [f x] := rfl
theorem cs_nil : cs f [] = [] := rfl
theorem cs_get (j : Nat) : (cs f xs)[j]? = xs[j]?.map f := by simp [cs]
theorem cs_drop (k : Nat) : (cs f xs).drop k = cs f (xs.drop k) := by simp [cs]
theorem cs_take (k : Nat) : (cs f xs).take k = cs f (xs.take k) := by simp [cs]
end

section
variable {α : Type} {f : α → Value} {w : World} {ao : Option Addr} {len cap : Nat} {xs : List α}
theorem Sl.count (h : Sl w 1 ao len cap (cs f xs)) : xs.length = len := by have := h.hlen; rw [cs_length] at this; omega
/-- Element i lies there. -/
theorem Sl.at_ (h : Sl w 1 ao len cap (cs f xs)) (i : Nat) (hi : i < len) (d : α) : ∃ b off, ao = some ⟨b, off, none⟩ ∧ w.cell? ⟨b, off + i, none⟩ = some (f (xs.getD i d)) := by
  have hc := h.count
  obtain ⟨b, off, e, h'⟩ := h.hcell i (f (xs.getD i d)) (by rw [cs_get]; simp [List.getD, hc, hi])
  exact ⟨b, off, e, h'⟩
/-- All elements lie there. -/
theorem Sl.all (h : Sl w 1 ao len cap (cs f xs)) (hpos : 0 < len) (d : α) : ∃ b off, ao = some ⟨b, off, none⟩ ∧ b < w.heap.size ∧ ∀ i, i < len → w.cell? ⟨b, off + i, none⟩ = some (f (xs.getD i d)) := by
  have hc := h.count
  obtain ⟨b, off, e, hb, h'⟩ := h.addr (by rw [cs_length]; omega)
  exact ⟨b, off, e, hb, fun i hi => h' i _ (by rw [cs_get]; simp [List.getD, hc, hi])⟩
theorem Sl.partT (h : Sl w 1 ao len cap (cs f xs)) (l r m : Nat) (h1 : l ≤ r) (h2 : r ≤ len) (h3 : r ≤ m) (h4 : m ≤ cap) :
    Sl w 1 (if m = l then ao else ao.map (·.add (l * 1))) (r - l) (m - l) (cs f ((xs.drop l).take (r - l))) := by
  have := h.part l r m h1 h2 h3 h4
  rw [Nat.mul_one, Nat.mul_one, cs_drop, cs_take] at this
  rw [Nat.mul_one]
  exact this
end

/-- 's[at:]', whatever s: the value, and what it holds. The run equation is laid ahead of the walk. -/
theorem slice_from {P : Program} {α : Type} {f : α → Value} {w : World} {ao : Option Addr} {len cap : Nat} {xs : List α} (t e : TypeId) (ht : P.underlying t = some (.slice e)) (hz : ∀ w : World, (sizeOf e).run P w = .ok 1 w)
    (hs : Sl w 1 ao len cap (cs f xs)) (at_ : Nat) (h : at_ ≤ len) :
    ∃ ao', (∀ w', (Instr.slice t (.slice ao len cap) (some (.int .i64 (at_ : Int))) none none).run P w' = .ok (.slice ao' (len - at_) (cap - at_)) w') ∧ Sl w 1 ao' (len - at_) (cap - at_) (cs f (xs.drop at_)) := by
  have hle := hs.hle
  refine ⟨if cap = at_ then ao else ao.map (·.add (at_ * 1)), fun w' => ?_, ?_⟩
  · have he : P.elem t = e := by simp [Program.elem, ht]
    rw [run_slice_l w' t ao len cap (by rw [he]; exact ht) .i64 (at_ : Int) (by omega) (by omega), he, hz]
    simp [Result.andThen, sliced]
  · have := hs.partT at_ len cap h (Nat.le_refl _) hle (Nat.le_refl _)
    rw [List.take_of_length_le (by rw [List.length_drop, hs.count]; omega)] at this
    exact this

section
variable {P : Program} {α : Type}
/-- 'append(out, x)' of one element of one cell: x was laid in a new block just before. -/
theorem wpList_append_one (f : α → Value) (hf : ∀ x, (f x).oneCell' = true) (w : World) {ops : Array Oper} {rest : List Oper} {o : Oper} {a : Act} {Q : Exit → Act → World → Prop} (hgd : o.guard = none) (s x : Operand) (t : TypeId)
    (ho : o.op = .call { callee := .builtin .append, args := #[s, x], argTypes := #[t, t] })
    (B : Nat) (e E : TypeId) (z : Value) (bytes : Nat) (ht : P.underlying t = some (.slice e))
    (hinfo : (P.info? e).map (fun i => (i.zero, i.size, i.bytes)) = some (some z, 1, bytes)) (hzs : z.cells.size = 1)
    {v : Value} {n : Nat} {xs : List α} (hacc : Acc w B e 1 v n (cs f xs)) (hs : a.eval s = v) (c : α)
    (hx : a.eval x = .slice (some ⟨w.heap.size, 0, none⟩) 1 1)
    (h63 : n + 1 ≤ maxLen) (hbytes : (n + 1) * bytes ≤ 140737488355328) (hB : B ≤ w.heap.size)
    (hK : ∀ v' w', w'.ownsRow B e 1 v' (n + 1) (cs f (xs ++ [c])) → (w.alloc (.cells #[f c] E)).grownBy w' v.ownBlock → Below B w w' → wpList P ops Q rest (a.put o.dst v') w') :
    wpList P ops Q (o :: rest) a (w.alloc (.cells #[f c] E)) := by
  have hext : Below w.heap.size w (w.alloc (.cells #[f c] E)) := Below.alloc (Below.refl _ _) (Nat.le_refl _) _
  refine wpList_append_acc _ hgd s x t t ho B e z 1 bytes ht hinfo hzs (by decide) (hacc.ext hext) hs (src_one w t e E (f c) (hf c) ht) hx h63 hbytes (by simp; omega) fun v' w' _ r2 r3 r4 => ?_
  refine hK v' w' ?_ (by simpa using r3) ((hext.mono hB).trans r4)
  rw [cs_append, cs_one]
  exact r2 (by decide)
/-- 'append(out, xs...)', out the call's own. -/
theorem wpList_append_many (f : α → Value) (hf : ∀ x, (f x).oneCell' = true) (w : World) {ops : Array Oper} {rest : List Oper} {o : Oper} {a : Act} {Q : Exit → Act → World → Prop} (hgd : o.guard = none) (s x : Operand) (t : TypeId)
    (ho : o.op = .call { callee := .builtin .append, args := #[s, x], argTypes := #[t, t] })
    (B : Nat) (e : TypeId) (z : Value) (bytes : Nat) (ht : P.underlying t = some (.slice e))
    (hinfo : (P.info? e).map (fun i => (i.zero, i.size, i.bytes)) = some (some z, 1, bytes)) (hzs : z.cells.size = 1)
    {v : Value} {n : Nat} {xs : List α} (hown : w.ownsRow B e 1 v n (cs f xs)) (hs : a.eval s = v) {ao : Option Addr} {m c : Nat} {ys : List α} (hsl : Sl w 1 ao m c (cs f ys))
    (hx : a.eval x = .slice ao m c)
    (h63 : n + m ≤ maxLen) (hbytes : (n + m) * bytes ≤ 140737488355328) (hB : B ≤ w.heap.size)
    (hK : ∀ v' w', w'.ownsRow B e 1 v' (n + m) (cs f (xs ++ ys)) → Below B w w' → wpList P ops Q rest (a.put o.dst v') w') :
    wpList P ops Q (o :: rest) a w := by
  refine wpList_append_src w hgd s x t t ho B e z 1 bytes ht hinfo hzs (by decide) hown hs (src_sl w ht hsl (fun u hu => ?_)) hx h63 hbytes hB fun v' w' r2 r3 r4 => ?_
  · unfold cs at hu; obtain ⟨y, _, rfl⟩ := List.mem_map.1 hu; exact hf y
  · refine hK v' w' ?_ r4
    rw [cs_append]; exact r2

/-- 'append(out, s...)', s a string. -/
theorem wpList_append_string (f : UInt8 → Value) (hf : f = fun c => Value.int .u8 (c.toNat : Int)) (w : World) {ops : Array Oper} {rest : List Oper} {o : Oper} {a : Act} {Q : Exit → Act → World → Prop} (hgd : o.guard = none) (s x : Operand) (t tx : TypeId)
    (ho : o.op = .call { callee := .builtin .append, args := #[s, x], argTypes := #[t, tx] })
    (B : Nat) (e : TypeId) (z : Value) (bytes : Nat) (ht : P.underlying t = some (.slice e)) (htx : P.underlying tx = some .string)
    (hinfo : (P.info? e).map (fun i => (i.zero, i.size, i.bytes)) = some (some z, 1, bytes)) (hzs : z.cells.size = 1)
    {v : Value} {n : Nat} {xs : List UInt8} (hown : w.ownsRow B e 1 v n (cs f xs)) (hs : a.eval s = v) {str : ByteArray}
    (hx : a.eval x = .string str)
    (h63 : n + str.size ≤ maxLen) (hbytes : (n + str.size) * bytes ≤ 140737488355328) (hB : B ≤ w.heap.size)
    (hK : ∀ v' w', w'.ownsRow B e 1 v' (n + str.size) (cs f (xs ++ str.data.toList)) → Below B w w' → wpList P ops Q rest (a.put o.dst v') w') :
    wpList P ops Q (o :: rest) a w := by
  refine wpList_append_src w hgd s x t tx ho B e z 1 bytes ht hinfo hzs (by decide) hown hs (Src.ofString w htx str) hx h63 hbytes hB fun v' w' r2 r3 r4 => ?_
  refine hK v' w' ?_ r4
  rw [cs_append]
  subst hf
  exact r2
/-- 'string(b)'. -/
theorem run_b2s (w : World) (src dst e : TypeId) {ao : Option Addr} {len cap : Nat} {xs : List UInt8} (hs : P.underlying src = some (.slice e)) (hd : P.underlying dst = some .string) (he : P.underlying e = some (.int .u8))
    (h : Sl w 1 ao len cap (cs b8 xs)) : (convert src dst (.slice ao len cap)).run P w = .ok (.string ⟨xs.toArray⟩) w := by
  have hc := h.count
  cases ao with
  | none =>
    have h0 := h.hbare rfl
    have hle := h.hle
    have hx : xs = [] := List.eq_nil_of_length_eq_zero (by omega)
    subst hx
    exact run_convert_bytes_nil (P := P) (w := w) src e hs he len cap dst hd
  | some a =>
    have := run_convert_bytes_back (P := P) w src dst e a cap xs hs he hd (fun j hj => h.holds a rfl j _ (by rw [cs_get, List.getElem?_eq_getElem hj]; rfl))
    rw [hc] at this
    exact this

theorem wpList_b2s (w : World) {ops : Array Oper} {rest : List Oper} {o : Oper} {a : Act} {Q : Exit → Act → World → Prop} (hgd : o.guard = none) (src dst e : TypeId) (x : Operand)
    (ho : o.op = .convert src dst x) (hs : P.underlying src = some (.slice e)) (hd : P.underlying dst = some .string) (he : P.underlying e = some (.int .u8))
    {ao : Option Addr} {len cap : Nat} {xs : List UInt8} (h : Sl w 1 ao len cap (cs b8 xs)) (hx : a.eval x = .slice ao len cap)
    (hK : wpList P ops Q rest (a.put o.dst (.string ⟨xs.toArray⟩)) w) : wpList P ops Q (o :: rest) a w := by
  refine wpList_plain hgd fun K hK' => ?_
  have hrun := run_b2s (P := P) w src dst e hs hd he h
  unfold Oper.wp
  simp [execOp, ho, hx, hrun, Result.andThen]
  exact hK' _ _ hK

/-- '[]byte(s)'. -/
theorem wpList_s2b (w : World) {ops : Array Oper} {rest : List Oper} {o : Oper} {a : Act} {Q : Exit → Act → World → Prop} (hgd : o.guard = none) (src dst e : TypeId) (x : Operand)
    (ho : o.op = .convert src dst x) (hs : P.underlying src = some .string) (hd : P.underlying dst = some (.slice e)) (he : P.underlying e = some (.int .u8))
    {s : ByteArray} (hx : a.eval x = .string s) (hm : s.size ≤ maxLen)
    (hK : ∀ ao cap w', Sl w' 1 ao s.size cap (cs b8 s.data.toList) → Below w.heap.size w w' → wpList P ops Q rest (a.put o.dst (.slice ao s.size cap)) w') : wpList P ops Q (o :: rest) a w := by
  refine wpList_plain hgd fun K hK' => ?_
  have hrun := run_bytes_of_string (P := P) w src dst e s hs hd he
  unfold Oper.wp
  simp [execOp, ho, hx, hrun, Result.andThen]
  refine hK' _ _ (hK _ _ _ ?_ ((Below.refl _ _).drew.alloc (Nat.le_refl _) _))
  have hl : s.data.toList.length = s.size := by rw [Array.length_toList]; rfl
  refine ⟨by rw [cs_length, hl]; omega, grownCap_ge w _ _ e, grownCap_le_maxLen w _ _ e hm, (fun h => by cases h), fun j u hj => ⟨w.heap.size, 0, rfl, ?_⟩⟩
  rw [cs_get] at hj
  have hh : (w.drew.alloc (.cells (bytesRow s (grownCap w s.size 0 e)) e ((bytesRow s (grownCap w s.size 0 e)).size, (bytesRow s (grownCap w s.size 0 e)).size + 1))).heap[w.heap.size]? = some (.cells (bytesRow s (grownCap w s.size 0 e)) e ((bytesRow s (grownCap w s.size 0 e)).size, (bytesRow s (grownCap w s.size 0 e)).size + 1)) := heap_alloc_new w.drew _
  rw [Nat.zero_add, cell_of_row _ _ _ _ _ _ hh]
  unfold bytesRow
  obtain ⟨c, hc, rfl⟩ := Option.map_eq_some_iff.1 hj
  have hjl := (List.getElem?_eq_some_iff.1 hc).1
  rw [Array.getElem?_append_left (by simp; simpa using hjl)]
  simp only [Array.getElem?_toList] at hc
  rw [Array.getElem?_map, hc]
  rfl
end
end Go.Proofs.Ytfhcaikfbfoopaa
