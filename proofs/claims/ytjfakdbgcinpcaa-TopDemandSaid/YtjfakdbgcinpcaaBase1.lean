/-
  SLICES FOR THE WALK: 'Sl w size ao len cap xs': the slice value '.slice ao len cap' holds the cells xs (size cells an element) in the world w. What holds in w holds in every world that extends it ('Below w.heap.size w w''). 'Acc': a slice that can be appended to without touching memory that was there. No condition.
-/
import Derived.Test.YtjfakdbgcinpcaaBase0
import Derived.WalkKit
import Derived.Handy
import Derived.Deep.AppendSrc
import Derived.Lib.Hide
namespace Go.Proofs.Ytjfakdbgcinpcaa
open Go.RowKit
set_option linter.unusedVariables false

structure Sl (w : World) (size : Nat) (ao : Option Addr) (len cap : Nat) (xs : List Value) : Prop where
  hlen : xs.length = len * size
  hle : len ≤ cap
  hmax : cap ≤ maxLen
  hbare : ao = none → cap = 0
  hcell : ∀ j u, xs[j]? = some u → ∃ b off, ao = some ⟨b, off, none⟩ ∧ w.cell? ⟨b, off + j, none⟩ = some u

section
variable {w w' : World} {size len cap : Nat} {ao : Option Addr} {xs : List Value}

theorem Sl.nil (w : World) (size : Nat) : Sl w size none 0 0 [] := ⟨by simp, Nat.le_refl _, by unfold maxLen; omega, fun _ => rfl, fun j u h => by simp at h⟩

theorem Sl.ext (h : Sl w size ao len cap xs) (hb : Below w.heap.size w w') : Sl w' size ao len cap xs :=
  ⟨h.hlen, h.hle, h.hmax, h.hbare, fun j u hj => by
    obtain ⟨b, off, e, hc⟩ := h.hcell j u hj
    exact ⟨b, off, e, (hb.cell (p := ⟨b, off + j, none⟩) (World.block_lt_of_cell? w _ hc)).trans hc⟩⟩

/-- The address of a slice that holds something, and all its cells. -/
theorem Sl.addr (h : Sl w size ao len cap xs) (hpos : 0 < xs.length) : ∃ b off, ao = some ⟨b, off, none⟩ ∧ b < w.heap.size ∧ ∀ j u, xs[j]? = some u → w.cell? ⟨b, off + j, none⟩ = some u := by
  obtain ⟨b, off, e, hc⟩ := h.hcell 0 xs[0] (List.getElem?_eq_getElem hpos)
  refine ⟨b, off, e, World.block_lt_of_cell? w _ hc, fun j u hj => ?_⟩
  obtain ⟨b', off', e', hc'⟩ := h.hcell j u hj
  rw [e] at e'
  cases e'
  exact hc'

theorem Sl.holds (h : Sl w size ao len cap xs) : ∀ a, ao = some a → ∀ j u, xs[j]? = some u → w.cell? (a.add j) = some u := by
  intro a ha j u hj
  obtain ⟨b, off, e, hc⟩ := h.hcell j u hj
  rw [e] at ha
  cases ha
  rw [Addr.add_lit]
  exact hc

/-- A part of a slice: 's[l:h:m]'. -/
theorem Sl.part (h : Sl w size ao len cap xs) (l r m : Nat) (h1 : l ≤ r) (h2 : r ≤ len) (h3 : r ≤ m) (h4 : m ≤ cap) :
    Sl w size (if m = l then ao else ao.map (·.add (l * size))) (r - l) (m - l) ((xs.drop (l * size)).take ((r - l) * size)) := by
  have hl := h.hlen
  have hmx := h.hmax
  have hrl : r * size ≤ len * size := Nat.mul_le_mul_right _ h2
  have e : (r - l) * size = r * size - l * size := Nat.sub_mul ..
  refine ⟨by simp only [List.length_take, List.length_drop]; omega, by omega, by omega, fun hn => ?_, fun j u hj => ?_⟩
  · split at hn
    · omega
    · have := h.hbare (by simpa using hn); omega
  · rw [List.getElem?_take] at hj
    split at hj
    · rw [List.getElem?_drop] at hj
      obtain ⟨b, off, eo, hc⟩ := h.hcell _ u hj
      have hml : ¬ m = l := by
        intro hm
        have : r = l := by omega
        subst this
        simp at *
      rw [if_neg hml, eo]
      refine ⟨b, off + l * size, by simp [Addr.add_lit], by rw [Nat.add_assoc]; exact hc⟩
    · cases hj

theorem sl_of_own {B : Nat} {e : TypeId} {v : Value} {n : Nat} (h : w.ownsRow B e size v n xs) : ∃ ao cap, v = .slice ao n cap ∧ Sl w size ao n cap xs := by
  rcases h.2 with ⟨rfl, rfl⟩ | ⟨g, cap, cur, rfl, hb, hg, hn, hm, hcs, ht⟩
  · have hx : xs = [] := List.eq_nil_of_length_eq_zero (by simpa using h.1)
    subst hx
    exact ⟨none, 0, rfl, Sl.nil w size⟩
  · refine ⟨_, cap, rfl, h.1, hn, hm, (fun e => by cases e), fun j u hj => ⟨g, 0, rfl, ?_⟩⟩
    have := h.cells (g := g) rfl j u hj
    rw [Addr.add_lit] at this
    exact this
end

theorem ownsRow_ext {w w' : World} {B : Nat} {e : TypeId} {size : Nat} {v : Value} {n : Nat} {xs : List Value} (h : w.ownsRow B e size v n xs) (hb : Below w.heap.size w w') : w'.ownsRow B e size v n xs := by
  refine ⟨h.1, ?_⟩
  rcases h.2 with hn | ⟨g, cap, cur, rfl, hB, hg, rest⟩
  · exact .inl hn
  · exact .inr ⟨g, cap, cur, rfl, hB, by rw [hb.block g (Array.getElem?_eq_some_iff.1 hg).1]; exact hg, rest⟩

theorem ownsRow_mono {w : World} {B B' : Nat} {e : TypeId} {size : Nat} {v : Value} {n : Nat} {xs : List Value} (h : w.ownsRow B e size v n xs) (hb : B' ≤ B) : w.ownsRow B' e size v n xs :=
  ⟨h.1, h.2.imp id fun ⟨g, cap, cur, h1, h2, h3⟩ => ⟨g, cap, cur, h1, Nat.le_trans hb h2, h3⟩⟩

/-- A SLICE THAT CAN BE APPENDED TO: the call's own row, or one without room. -/
def Acc (w : World) (B : Nat) (e : TypeId) (size : Nat) (v : Value) (n : Nat) (xs : List Value) : Prop :=
  w.ownsRow B e size v n xs ∨ ∃ ao, v = .slice ao n n ∧ Sl w size ao n n xs

theorem Acc.own {w : World} {B : Nat} {e : TypeId} {size : Nat} {v : Value} {n : Nat} {xs : List Value} (h : w.ownsRow B e size v n xs) : Acc w B e size v n xs := .inl h
theorem Acc.full {w : World} {B : Nat} {e : TypeId} {size : Nat} {ao : Option Addr} {n : Nat} {xs : List Value} (h : Sl w size ao n n xs) : Acc w B e size (.slice ao n n) n xs := .inr ⟨ao, rfl, h⟩
theorem Acc.nil (w : World) (B : Nat) (e : TypeId) (size : Nat) : Acc w B e size (.slice none 0 0) 0 [] := .inl (World.ownsRow_nil w B e size)
theorem Acc.ext {w w' : World} {B : Nat} {e : TypeId} {size : Nat} {v : Value} {n : Nat} {xs : List Value} (h : Acc w B e size v n xs) (hb : Below w.heap.size w w') : Acc w' B e size v n xs :=
  h.imp (fun h => ownsRow_ext h hb) fun ⟨ao, hv, hs⟩ => ⟨ao, hv, hs.ext hb⟩
theorem Acc.mono {w : World} {B B' : Nat} {e : TypeId} {size : Nat} {v : Value} {n : Nat} {xs : List Value} (h : Acc w B e size v n xs) (hb : B' ≤ B) : Acc w B' e size v n xs :=
  h.imp (fun h => ownsRow_mono h hb) id
theorem Acc.len {w : World} {B : Nat} {e : TypeId} {size : Nat} {v : Value} {n : Nat} {xs : List Value} (h : Acc w B e size v n xs) : xs.length = n * size := by
  rcases h with h | ⟨_, _, h⟩
  · exact h.1
  · exact h.hlen
theorem Acc.sl {w : World} {B : Nat} {e : TypeId} {size : Nat} {v : Value} {n : Nat} {xs : List Value} (h : Acc w B e size v n xs) : ∃ ao cap, v = .slice ao n cap ∧ Sl w size ao n cap xs := by
  rcases h with h | ⟨ao, hv, hs⟩
  · exact sl_of_own h
  · exact ⟨ao, n, hv, hs⟩

section
variable {P : Program}

/-- THE APPEND: whatever is appended ('Src'), to a slice that can be appended to. -/
theorem run_append_acc (w : World) (B : Nat) (t tx ty e : TypeId) (z : Value) (size bytes : Nat) (ht : P.underlying t = some (.slice e))
    (hinfo : (P.info? e).map (fun i => (i.zero, i.size, i.bytes)) = some (some z, size, bytes)) (hzs : z.cells.size = size) (hsz : 0 < size)
    (v : Value) (n : Nat) (xs : List Value) (hacc : Acc w B e size v n xs)
    (x : Value) (m : Nat) (news : List Value) (hs : Src P size tx x m news w)
    (h63 : n + m ≤ maxLen) (hbytes : (n + m) * bytes ≤ 140737488355328) (hB : B ≤ w.heap.size) :
    ∃ v' w', (Builtin.append_ #[t, tx] ty #[v, x]).run P w = .ok v' w' ∧ Acc w' B e size v' (n + m) (xs ++ news) ∧ (0 < m → w'.ownsRow B e size v' (n + m) (xs ++ news)) ∧ (m = 0 → v' = v ∧ w' = w) ∧
      w.grownBy w' (if 0 < m then v.ownBlock else none) ∧ Below B w w' := by
  obtain ⟨i, hi, hz, rfl, rfl⟩ := info_parts hinfo
  have hsmall : n + m ≤ 9223372036854775807 := by simp only [maxLen] at h63; omega
  have hnl := hs.newsLen
  have hlen : (xs ++ news).length = (n + m) * i.size := by rw [List.length_append, hacc.len, hnl, Nat.add_mul]
  obtain ⟨ao, cap, hv, hsl⟩ := hacc.sl
  by_cases hm0 : m = 0
  · -- nothing is appended: the slice itself
    subst hm0
    have hn0 : news = [] := List.eq_nil_of_length_eq_zero (by simpa using hnl)
    subst hn0
    have hrun : (Builtin.append_ #[t, tx] ty #[v, x]).run P w = .ok v w := by
      subst hv
      have hle := hsl.hle
      have hc := hs.cells
      rcases hs.kind with ⟨e', hk⟩ | hk <;> cases ao <;> simp [Builtin.append_, run_underlying ht, run_underlying hk, sizeOf, typeInfo, hi, hs.len, hle, hc, storeCells]
    exact ⟨v, w, hrun, by simpa using hacc, fun h => absurd h (Nat.lt_irrefl _), fun _ => ⟨rfl, rfl⟩, ⟨rfl, rfl, rfl, Nat.le_refl _, fun _ _ _ => rfl⟩, Below.refl _ _⟩
  · have hm : 0 < m := Nat.pos_of_ne_zero hm0
    simp only [hm, if_true, forall_const, hm0, false_imp_iff, true_and]
    have fin : ∀ v' w', (Builtin.append_ #[t, tx] ty #[v, x]).run P w = .ok v' w' → w'.ownsRow B e i.size v' (n + m) (xs ++ news) → w.grownBy w' v.ownBlock → (∀ k, v.ownBlock = some k → B ≤ k ∨ w'.heap[k]? = w.heap[k]?) →
        ∃ v' w', (Builtin.append_ #[t, tx] ty #[v, x]).run P w = .ok v' w' ∧ Acc w' B e i.size v' (n + m) (xs ++ news) ∧ w'.ownsRow B e i.size v' (n + m) (xs ++ news) ∧ w.grownBy w' v.ownBlock ∧ Below B w w' := by
      intro v' w' h1 h2 h3 h4
      refine ⟨v', w', h1, .inl h2, h2, h3, h3.os, h3.tape, h3.output, h3.size, fun k hk => ?_⟩
      by_cases hkr : some k = v.ownBlock
      · rcases h4 k hkr.symm with h5 | h5
        · omega
        · exact h5
      · exact h3.block k (by omega) hkr
    have grow : cap < n + m → ∃ v' w', (Builtin.append_ #[t, tx] ty #[v, x]).run P w = .ok v' w' ∧ Acc w' B e i.size v' (n + m) (xs ++ news) ∧ w'.ownsRow B e i.size v' (n + m) (xs ++ news) ∧ w.grownBy w' v.ownBlock ∧ Below B w w' := by
      intro hgt
      subst hv
      have hold : (Builtin.firstCells i.size n (.slice ao n cap)).run P w.drew = .ok xs.toArray w.drew := by
        cases ao with
        | none =>
          have h0 := hsl.hbare rfl
          have hle := hsl.hle
          obtain rfl : n = 0 := by omega
          have hx : xs = [] := List.eq_nil_of_length_eq_zero (by simpa using hsl.hlen)
          subst hx
          subst h0
          exact run_firstCells_none w.drew i.size 0 0 0
        | some a => exact run_firstCells_some w.drew i.size n a n cap xs hsl.hlen (fun j u hj => by have h' := hsl.holds a rfl j u hj; exact h')
      have hr := run_append_grow_src (P := P) w t tx ty e i z ht hi hz ao n cap xs hold x m news hs hgt (by omega) (growslice_fits (by omega) hbytes)
      refine fin _ _ hr ⟨hlen, .inr ⟨w.heap.size, _, _, rfl, hB, heap_alloc_new w.drew _, grownCap_ge w _ _ e, grownCap_le_maxLen w _ _ e h63, ?_, ?_⟩⟩ ⟨rfl, rfl, rfl, by simp, fun k hk _ => Below.heap_alloc w.drew _ k hk⟩ ?_
      · have hge := grownCap_ge w (n + m) cap e
        have hs3 : (n + m) * i.size + (grownCap w (n + m) cap e - (n + m)) * i.size = grownCap w (n + m) cap e * i.size := by rw [← Nat.add_mul, Nat.add_sub_cancel' hge]
        simp only [Array.size_append, List.size_toArray, size_zeroCells, hzs, hlen]
        exact hs3
      · simp only [Array.toList_append]
        rw [← hlen]
        exact List.take_left
      · intro k hk
        by_cases hkl : k < w.heap.size
        · exact .inr (Below.heap_alloc w.drew _ _ hkl)
        · exact .inl (by omega)
    by_cases hroom : n + m ≤ cap
    · rcases hacc with hown | ⟨ao', hv', hs'⟩
      · rcases hown.2 with ⟨hvn, _⟩ | ⟨g, cap', cur, hvg, hbg, hg, hnc, hcm, hcs, htake⟩
        · rw [hv] at hvn; cases hvn; omega
        · rw [hv] at hvg
          cases hvg
          subst hv
          have hfit : n * i.size + news.length ≤ cur.size := by rw [hnl, hcs, ← Nat.add_mul]; exact Nat.mul_le_mul_right _ hroom
          have hst := run_storeCells_at P g (n * i.size) e news 0 cur w hg (by simpa using hfit) hs.one
          simp only [Nat.add_zero] at hst
          have hr : (Builtin.append_ #[t, tx] ty #[.slice (some ⟨g, 0, none⟩) n cap, x]).run P w = .ok (.slice (some ⟨g, 0, none⟩) (n + m) cap) (w.setRow g (cur.toList.take (n * i.size) ++ news ++ cur.toList.drop (n * i.size + news.length)).toArray) := by
            rcases hs.kind with ⟨e', hk⟩ | hk <;> simp [Builtin.append_, run_underlying ht, run_underlying hk, sizeOf, typeInfo, hi, hs.len, hroom, hs.cells, Addr.add_lit, hst]
          refine fin _ _ hr ⟨hlen, .inr ⟨g, cap, _, rfl, hbg, setRow_heap w g cur _ e _ hg, hroom, hcm, ?_, ?_⟩⟩ ⟨rfl, rfl, rfl, by simp, fun k _ hk => setRow_other w g k _ (fun e => hk (by simp [Value.ownBlock, e]))⟩ ?_
          · simp only [List.size_toArray, List.length_append, List.length_take, List.length_drop, Array.length_toList]
            omega
          · rw [htake, ← hlen]
            exact List.take_left
          · intro k hk
            simp [Value.ownBlock] at hk
            subst hk
            exact .inl hbg
      · rw [hv] at hv'
        cases hv'
        omega
    · exact grow (by omega)

/-- What is appended is one value that lies in a new block ('append(out, x)'). -/
theorem src_one (w : World) (t e E : TypeId) (u : Value) (hu : u.oneCell' = true) (hk : P.underlying t = some (.slice e)) :
    Src P 1 t (.slice (some ⟨w.heap.size, 0, none⟩) 1 1) 1 [u] (w.alloc (.cells #[u] E)) := by
  refine Src.ofSlice _ hk ⟨w.heap.size, 0, none⟩ 1 1 [u] rfl (fun j x hj => ?_) (fun x hx => ?_)
  · match j, hj with
    | 0, hj => simp at hj; subst hj; simp [Addr.add, World.cell?_alloc_at]
  · simp at hx; subst hx; exact hu

/-- .. FOR THE WALK: 'go_wp2_with (at_builtin; refine wpList_append_acc _ rfl S X T TX rfl B E z size bytes A.underlyingT A.infoE rfl (by decide) HACC rfl HSRC h63 hbytes hB ?_)'. -/
theorem wpList_append_acc (w : World) {ops : Array Oper} {rest : List Oper} {o : Oper} {a : Act} {Q : Exit → Act → World → Prop} (hgd : o.guard = none) (s x : Operand) (t tx : TypeId)
    (ho : o.op = .call { callee := .builtin .append, args := #[s, x], argTypes := #[t, tx] })
    (B : Nat) (e : TypeId) (z : Value) (size bytes : Nat) (ht : P.underlying t = some (.slice e))
    (hinfo : (P.info? e).map (fun i => (i.zero, i.size, i.bytes)) = some (some z, size, bytes)) (hzs : z.cells.size = size) (hsz : 0 < size)
    {v : Value} {n : Nat} {xs : List Value} (hacc : Acc w B e size v n xs) (hs : a.eval s = v)
    {xv : Value} {m : Nat} {news : List Value} (hsrc : Src P size tx xv m news w) (hx : a.eval x = xv)
    (h63 : n + m ≤ maxLen) (hbytes : (n + m) * bytes ≤ 140737488355328) (hB : B ≤ w.heap.size)
    (hK : ∀ v' w', Acc w' B e size v' (n + m) (xs ++ news) → (0 < m → w'.ownsRow B e size v' (n + m) (xs ++ news)) → w.grownBy w' (if 0 < m then v.ownBlock else none) → Below B w w' →
      wpList P ops Q rest (a.put o.dst v') w') : wpList P ops Q (o :: rest) a w := by
  refine wpList_plain hgd fun K hK' => ?_
  obtain ⟨v', w', hrun, r1, r2, _, r3, r4⟩ := run_append_acc (P := P) w B t tx o.type e z size bytes ht hinfo hzs hsz v n xs hacc xv m news hsrc h63 hbytes hB
  unfold Oper.wp
  simp [execOp, ho, resolve, invoke, builtin, hs, hx, hrun, Result.andThen]
  exact hK' _ _ (hK v' w' r1 r2 r3 r4)

end

end Go.Proofs.Ytjfakdbgcinpcaa
