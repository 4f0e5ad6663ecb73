/-
  WHAT A LAW's STEP WANTS BESIDES: slices of structs that have a slice of bytes as a field. No condition.
-/
import Derived.Test.YtfhcaikfbfoopaaRowsL
import Derived.Test.YtfhcaikfbfoopaaBase4
import Derived.Test.YtfhcaikfbfoopaaLkH
namespace Go.Proofs.Ytfhcaikfbfoopaa
open Go.RowKit Go.ChangeShapes Go.WideShapes Go.Deep
set_option linter.unusedVariables false

section
variable {H : Type} {enc : TypeId × Value → H} {P : Program} {w : World} {base : Nat} {held : Bool}
/-- A slice of structs: each element by a law of its own. -/
theorem rowsB_open {α : Type} (z : α) (A : α → Array Value) (N : Nat) (hN : 0 < N) (hA : ∀ o, (A o).size = N) (Pw : α → Prop) {t e : TypeId} {fuel : Nat} {cs : List Value} {x : DataW H × List MemPlace} (ht : P.underlying t = some (.slice e)) (hC : P.cellsOf e = N)
    (hopen : ∀ (fuel : Nat) (cs : List Value) (x : DataW H × List MemPlace), DataW.trod enc P w base (fun _ => true) held fuel e cs = some x → ∃ o, cs = (A o).toList ∧ Pw o)
    (h : DataW.trod enc P w base (fun _ => true) held fuel t cs = some x) :
    ∃ a len cap, cs = [.slice a len cap] ∧ ∃ l : List α, l.length = len ∧ Sl w N a len cap (flatV A l) ∧ ∀ o ∈ l, Pw o := by
  rcases open_slice ht h with ⟨h0, _⟩ | ⟨a, len, cap, m, n', D, Pl, hcs, hb, hl, hm, hmm, hx, hi⟩
  · exact ⟨none, 0, 0, h0, [], rfl, Sl.nil w N, fun o ho => by simp at ho⟩
  · obtain ⟨l, hlen, hq⟩ := all_list z (Q := fun i o => (∀ j, j < N → w.cell? (a.add (i * N + j)) = (A o)[j]?) ∧ Pw o) len (fun i him => by
      obtain ⟨cs', hc, ht'⟩ := hi i (by rw [hmm]; split <;> omega)
      rw [hC] at hc
      obtain ⟨_, hcl, hat⟩ := World.cells?_some hc
      obtain ⟨o, rfl, hw⟩ := hopen _ _ _ ht'
      refine ⟨o, fun j hj => ?_, hw⟩
      have := hat j hj
      rw [Go.Deep.add_add] at this
      rw [← Array.getElem?_toList]
      exact this)
    have hol := flatV_len A N hA l
    rw [hlen] at hol
    refine ⟨some a, len, cap, hcs, l, hlen, ⟨hol, hl, hm, (fun h => by cases h), fun j u hj => ?_⟩, fun o ho => ?_⟩
    · have hj' := (List.getElem?_eq_some_iff.1 hj).1
      rw [hol] at hj'
      have hiq : j / N < len := Nat.div_lt_of_lt_mul (by rw [Nat.mul_comm]; exact hj')
      have hr : j % N < N := Nat.mod_lt _ hN
      have hjj : j = j / N * N + j % N := by rw [Nat.mul_comm]; exact (Nat.div_add_mod j N).symm
      have hc := (hq (j / N) hiq).1 (j % N) hr
      rw [← hjj] at hc
      rw [hjj, flatV_get z A N hA l _ _ (by omega) hr] at hj
      rw [hj] at hc
      obtain ⟨b, off, spot⟩ := a
      have hspot : spot = none := by
        have h0 := (hq 0 (Nat.lt_of_le_of_lt (Nat.zero_le _) hiq)).1 0 hN
        rw [Array.getElem?_eq_getElem (by rw [hA]; exact hN)] at h0
        have := World.cell?_spot h0
        simpa [Addr.add] using this
      subst hspot
      refine ⟨b, off, rfl, ?_⟩
      rw [Addr.add_lit] at hc
      exact hc
    · obtain ⟨i, hi, e⟩ := List.getElem_of_mem ho
      have := (hq i (by omega)).2
      rw [List.getD_eq_getElem?_getD, List.getElem?_eq_getElem hi, Option.getD_some, e] at this
      exact this
theorem fld_one {cs : List Value} {k : Nat} {v : Value} (h : (cs.drop k).take 1 = [v]) : cs[k]? = some v := by
  have := congrArg (fun l => l[0]?) h
  simpa using this
theorem fld_int {i fuel k : Nat} {cs : List Value} {x : DataW H × List MemPlace} (hi : P.underlying i = some (.int .i64)) (ci : P.cellsOf i = 1) (h : DataW.trod enc P w base (fun _ => true) held fuel i ((cs.drop k).take (P.cellsOf i)) = some x) : ∃ n, cs[k]? = some (.int .i64 n) := by
  rw [ci] at h
  obtain ⟨m, e, _, hw⟩ := DataW.trod_int hi h
  exact ⟨m, fld_one e⟩
theorem fld_bytes {b q fuel k : Nat} {cs : List Value} {x : DataW H × List MemPlace} (hb : P.underlying b = some (.slice q)) (hq : P.underlying q = some (.int .u8)) (cb : P.cellsOf b = 1) (cq : P.cellsOf q = 1) (h : DataW.trod enc P w base (fun _ => true) held fuel b ((cs.drop k).take (P.cellsOf b)) = some x) : ∃ z : Bv, cs[k]? = some (bsv z) ∧ Sl w 1 z.a z.bs.length z.c (Ytfhcaikfbfoopaa.cs b8 z.bs) := by
  rw [cb] at h
  obtain ⟨a, len, cap, e, hr⟩ : ∃ a len cap, (cs.drop k).take 1 = [.slice a len cap] ∧ ∃ bs : List UInt8, Sl w 1 a len cap (Ytfhcaikfbfoopaa.cs b8 bs) := by
    rcases open_ints hb hq cq h with ⟨hcs, _⟩ | ⟨x, l, c, zs, hcs, _, hl, hm, hz, _, hcell, hwz⟩
    · exact ⟨none, 0, 0, hcs, [], Sl.nil w 1⟩
    · exact ⟨some x, l, c, hcs, sl_bytes (zs := zs) (.inr ⟨x, rfl, hl, hm, by simpa using hz, hcell, hwz⟩)⟩
  obtain ⟨bs, hs⟩ := hr
  have hc := hs.count
  refine ⟨⟨a, cap, bs⟩, ?_, by rw [hc]; exact hs⟩
  rw [fld_one e]
  unfold bsv
  rw [hc]
theorem three_list {cs : List Value} {x y z : Value} (hl : cs.length = 3) (h0 : cs[0]? = some x) (h1 : cs[1]? = some y) (h2 : cs[2]? = some z) : cs = [x, y, z] := by
  match cs, hl with
  | [a, b, c], _ => simp at h0 h1 h2; subst h0 h1 h2; rfl
theorem two_list {cs : List Value} {x y : Value} (hl : cs.length = 2) (h0 : cs[0]? = some x) (h1 : cs[1]? = some y) : cs = [x, y] := by
  match cs, hl with
  | [a, b], _ => simp at h0 h1; subst h0 h1; rfl
/-- A call of the sender. -/
theorem opS_open {e i b q : TypeId} {fs : Array Field} (he : P.underlying e = some (.struct fs)) (hf : fs.map (fun f => (f.type, f.offset)) = #[(i, 0), (i, 1), (b, 2)]) (hi : P.underlying i = some (.int .i64)) (hb : P.underlying b = some (.slice q)) (hq : P.underlying q = some (.int .u8)) (ci : P.cellsOf i = 1) (cb : P.cellsOf b = 1) (cq : P.cellsOf q = 1) (ce : P.cellsOf e = 3)
    (fuel : Nat) (cs : List Value) (x : DataW H × List MemPlace) (h : DataW.trod enc P w base (fun _ => true) held fuel e cs = some x) : ∃ o : OpS, cs = (opS o).toList ∧ Sl w 1 o.b.a o.b.bs.length o.b.c (Ytfhcaikfbfoopaa.cs b8 o.b.bs) := by
  obtain ⟨xs, m, _, _, hlen, hxl, hg⟩ := DataW.trod_struct he h
  have key : ∀ j t k, (#[(i, 0), (i, 1), (b, 2)] : Array (TypeId × Nat))[j]? = some (t, k) → ∃ y, DataW.trod enc P w base (fun _ => true) held m t ((cs.drop k).take (P.cellsOf t)) = some y := fun j t k hj => by
    rw [← hf, Array.getElem?_map] at hj
    obtain ⟨f, hfj, e⟩ := Option.map_eq_some_iff.1 hj
    cases e
    have h1 := hg j f hfj
    rw [List.getElem?_eq_getElem (by rw [hxl]; exact (Array.getElem?_eq_some_iff.1 hfj).1)] at h1
    exact ⟨_, h1⟩
  obtain ⟨y0, g0⟩ := key 0 i 0 rfl
  obtain ⟨y1, g1⟩ := key 1 i 1 rfl
  obtain ⟨y2, g2⟩ := key 2 b 2 rfl
  obtain ⟨n0, e0⟩ := fld_int hi ci g0
  obtain ⟨n1, e1⟩ := fld_int hi ci g1
  obtain ⟨z, e2, hs⟩ := fld_bytes hb hq cb cq g2
  exact ⟨⟨n0, n1, z⟩, three_list (hlen.trans ce) e0 e1 e2, hs⟩
/-- A frame. -/
theorem frL_open {e i b q : TypeId} {fs : Array Field} (he : P.underlying e = some (.struct fs)) (hf : fs.map (fun f => (f.type, f.offset)) = #[(i, 0), (b, 1)]) (hi : P.underlying i = some (.int .i64)) (hb : P.underlying b = some (.slice q)) (hq : P.underlying q = some (.int .u8)) (ci : P.cellsOf i = 1) (cb : P.cellsOf b = 1) (cq : P.cellsOf q = 1) (ce : P.cellsOf e = 2)
    (fuel : Nat) (cs : List Value) (x : DataW H × List MemPlace) (h : DataW.trod enc P w base (fun _ => true) held fuel e cs = some x) : ∃ o : FrL, cs = (frA o).toList ∧ Sl w 1 o.b.a o.b.bs.length o.b.c (Ytfhcaikfbfoopaa.cs b8 o.b.bs) := by
  obtain ⟨xs, m, _, _, hlen, hxl, hg⟩ := DataW.trod_struct he h
  have key : ∀ j t k, (#[(i, 0), (b, 1)] : Array (TypeId × Nat))[j]? = some (t, k) → ∃ y, DataW.trod enc P w base (fun _ => true) held m t ((cs.drop k).take (P.cellsOf t)) = some y := fun j t k hj => by
    rw [← hf, Array.getElem?_map] at hj
    obtain ⟨f, hfj, e⟩ := Option.map_eq_some_iff.1 hj
    cases e
    have h1 := hg j f hfj
    rw [List.getElem?_eq_getElem (by rw [hxl]; exact (Array.getElem?_eq_some_iff.1 hfj).1)] at h1
    exact ⟨_, h1⟩
  obtain ⟨y0, g0⟩ := key 0 i 0 rfl
  obtain ⟨y1, g1⟩ := key 1 b 1 rfl
  obtain ⟨n0, e0⟩ := fld_int hi ci g0
  obtain ⟨z, e1, hs⟩ := fld_bytes hb hq cb cq g1
  exact ⟨⟨n0, z⟩, two_list (hlen.trans ce) e0 e1, hs⟩
end
end Go.Proofs.Ytfhcaikfbfoopaa
