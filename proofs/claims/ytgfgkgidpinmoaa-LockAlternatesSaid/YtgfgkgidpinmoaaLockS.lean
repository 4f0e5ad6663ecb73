/-
  LOCKS: how the arguments of the laws read. No condition.
-/
import Derived.Test.YtgfgkgidpinmoaaShell4
import Derived.Test.YtgfgkgidpinmoaaBase4
import Derived.Test.YtgfgkgidpinmoaaLockQ
namespace Go.Proofs.Ytgfgkgidpinmoaa
open Go.RowKit Go.ChangeShapes Go.WideShapes Go.Deep
set_option linter.unusedVariables false

abbrev i64L : Leaf := .int .i64
abbrev tokL : List Leaf := [i64L, i64L, i64L, i64L, i64L, i64L, .int .u64]
abbrev opL : List Leaf := [.int .u8, i64L, i64L, i64L, i64L, i64L, i64L, .int .u64, i64L, i64L, i64L, i64L]
theorem leaf_int {k : IntKind} {ks : List Leaf} {cs : List Value} (h : Leaves ks cs) (i : Nat) (hk : ks[i]? = some (.int k)) : ∃ n, cs[i]? = some (.int k n) ∧ (Lit.int k n).wf = true := by
  obtain ⟨v, hv, n, rfl, hw⟩ := h.2 i _ hk
  exact ⟨n, hv, hw⟩
theorem tok_open {cs : List Value} (h : Leaves tokL cs) : ∃ (b r d f t n : Int) (g : BitVec 64), cs = [.int .i64 b, .int .i64 r, .int .i64 d, .int .i64 f, .int .i64 t, .int .i64 n, u64 g] ∧ ∀ x ∈ [b, r, d, f, t, n], (Lit.int .i64 x).wf = true := by
  have hl := h.1
  match cs, hl with
  | [c0, c1, c2, c3, c4, c5, c6], _ =>
    obtain ⟨n0, e0, w0⟩ := leaf_int h 0 rfl
    obtain ⟨n1, e1, w1⟩ := leaf_int h 1 rfl
    obtain ⟨n2, e2, w2⟩ := leaf_int h 2 rfl
    obtain ⟨n3, e3, w3⟩ := leaf_int h 3 rfl
    obtain ⟨n4, e4, w4⟩ := leaf_int h 4 rfl
    obtain ⟨n5, e5, w5⟩ := leaf_int h 5 rfl
    obtain ⟨n6, e6, w6⟩ := leaf_int h 6 rfl
    obtain ⟨x, hx⟩ := wf_u64 w6
    simp at e0 e1 e2 e3 e4 e5 e6
    subst e0 e1 e2 e3 e4 e5 e6
    refine ⟨n0, n1, n2, n3, n4, n5, x, by rw [hx], fun y hy => ?_⟩
    simp at hy
    rcases hy with rfl | rfl | rfl | rfl | rfl | rfl <;> assumption
theorem op_open {cs : List Value} (h : Leaves opL cs) : ∃ o : OpL, cs = (opA o).toList ∧ ∀ x ∈ [o.b, o.r, o.d, o.f, o.t, o.n, o.lo, o.hi, o.place, o.loc], (Lit.int .i64 x).wf = true := by
  have hl := h.1
  match cs, hl with
  | [c0, c1, c2, c3, c4, c5, c6, c7, c8, c9, c10, c11], _ =>
    obtain ⟨n0, e0, w0⟩ := leaf_int h 0 rfl
    obtain ⟨n1, e1, w1⟩ := leaf_int h 1 rfl
    obtain ⟨n2, e2, w2⟩ := leaf_int h 2 rfl
    obtain ⟨n3, e3, w3⟩ := leaf_int h 3 rfl
    obtain ⟨n4, e4, w4⟩ := leaf_int h 4 rfl
    obtain ⟨n5, e5, w5⟩ := leaf_int h 5 rfl
    obtain ⟨n6, e6, w6⟩ := leaf_int h 6 rfl
    obtain ⟨n7, e7, w7⟩ := leaf_int h 7 rfl
    obtain ⟨n8, e8, w8⟩ := leaf_int h 8 rfl
    obtain ⟨n9, e9, w9⟩ := leaf_int h 9 rfl
    obtain ⟨n10, e10, w10⟩ := leaf_int h 10 rfl
    obtain ⟨n11, e11, w11⟩ := leaf_int h 11 rfl
    obtain ⟨x, hx⟩ := wf_u64 w7
    obtain ⟨c, hc⟩ := wf_u8 w0
    simp at e0 e1 e2 e3 e4 e5 e6 e7 e8 e9 e10 e11
    subst e0 e1 e2 e3 e4 e5 e6 e7 e8 e9 e10 e11
    refine ⟨⟨c, n1, n2, n3, n4, n5, n6, x, n8, n9, n10, n11⟩, by simp [opA, hx, hc], fun y hy => ?_⟩
    simp at hy
    rcases hy with rfl | rfl | rfl | rfl | rfl | rfl | rfl | rfl | rfl | rfl <;> assumption
section
variable {H : Type} {enc : TypeId × Value → H} {P : Program} {w : World} {base : Nat} {spare : Nat → Bool} {held : Bool} {r : Reach} {b0 : Nat} {t : TypeId} {fs : Array Field} {v : Value} {d : DataW H} {p : List MemPlace} {n : Nat}
theorem tok_val (hs : P.underlying t = some (.struct fs)) (hk : leaves P n t = some tokL) (hv : Value.okWide P w r b0 t v) (h : DataW.Trod enc P w base spare held t v d p) :
    ∃ (b r d f t n : Int) (g : BitVec 64), v = .agg #[.int .i64 b, .int .i64 r, .int .i64 d, .int .i64 f, .int .i64 t, .int .i64 n, u64 g] ∧ ∀ x ∈ [b, r, d, f, t, n], (Lit.int .i64 x).wf = true := by
  obtain ⟨cs, rfl, hl⟩ := leaves_val hs hk hv h
  obtain ⟨b, r, d, f, t, n, g, e, hw⟩ := tok_open hl
  exact ⟨b, r, d, f, t, n, g, by obtain ⟨l⟩ := cs; have e' : l = _ := e; subst e'; rfl, hw⟩
theorem op_val (hs : P.underlying t = some (.struct fs)) (hk : leaves P n t = some opL) (hv : Value.okWide P w r b0 t v) (h : DataW.Trod enc P w base spare held t v d p) :
    ∃ o : OpL, v = .agg (opA o) ∧ ∀ x ∈ [o.b, o.r, o.d, o.f, o.t, o.n, o.lo, o.hi, o.place, o.loc], (Lit.int .i64 x).wf = true := by
  obtain ⟨cs, rfl, hl⟩ := leaves_val hs hk hv h
  obtain ⟨o, e, hw⟩ := op_open hl
  exact ⟨o, by obtain ⟨l⟩ := cs; have e' : l = _ := e; subst e'; rfl, hw⟩
theorem list_of_all {α : Type} (z : α) {Q : Nat → α → Prop} : ∀ n : Nat, (∀ i, i < n → ∃ x, Q i x) → ∃ l : List α, l.length = n ∧ ∀ i, i < n → Q i (l.getD i z)
  | 0, _ => ⟨[], rfl, fun i hi => absurd hi (Nat.not_lt_zero i)⟩
  | n + 1, h => by
    obtain ⟨l, hl, hq⟩ := list_of_all z n (fun i hi => h i (by omega))
    obtain ⟨x, hx⟩ := h n (by omega)
    refine ⟨l ++ [x], by simp [hl], fun i hi => ?_⟩
    by_cases hin : i < n
    · have := hq i hin
      rw [show (l ++ [x]).getD i z = l.getD i z from by simp [List.getD, List.getElem?_append_left (show i < l.length by omega)]]
      exact this
    · obtain rfl : i = n := by omega
      rw [show (l ++ [x]).getD i z = x from by subst hl; simp [List.getD]]
      exact hx
/-- A number of the calls is an int64. -/
def OpWf (o : OpL) : Prop := ∀ x ∈ [o.b, o.r, o.d, o.f, o.t, o.n, o.lo, o.hi, o.place, o.loc], (Lit.int .i64 x).wf = true
theorem opA_size (o : OpL) : (opA o).size = 12 := rfl
theorem ops_sl {a : Addr} {len cap : Nat} (hl : len ≤ cap) (hm : cap ≤ maxLen) (h : ∀ i, i < len → ∃ cs', Leaves opL cs' ∧ ∀ j, j < opL.length → w.cell? (a.add (i * opL.length + j)) = cs'[j]?) :
    ∃ l : List OpL, l.length = len ∧ Sl w 12 (some a) len cap (ocs l) ∧ ∀ i, i < len → OpWf (l.getD i OpL.zero) := by
  obtain ⟨l, hlen, hq⟩ := list_of_all (α := OpL) OpL.zero (Q := fun i o => (∀ j, j < 12 → w.cell? (a.add (i * 12 + j)) = (opA o)[j]?) ∧ OpWf o) len (fun i hi => by
    obtain ⟨cs', h1, h2⟩ := h i hi
    obtain ⟨o, rfl, hw⟩ := op_open h1
    exact ⟨o, fun j hj => by rw [← Array.getElem?_toList]; exact h2 j hj, hw⟩)
  have hol : (ocs l).length = len * 12 := by
    have : ∀ l : List OpL, (ocs l).length = l.length * 12 := by
      intro l
      induction l with
      | nil => rfl
      | cons x l ih => rw [ocs_cons, List.length_append, ih]; simp [opA]; omega
    rw [this, hlen]
  refine ⟨l, hlen, ⟨hol, hl, hm, (fun h => by cases h), fun j u hj => ?_⟩, fun i hi => (hq i hi).2⟩
  have hj' := (List.getElem?_eq_some_iff.1 hj).1
  rw [hol] at hj'
  have hi : j / 12 < len := by omega
  have hr : j % 12 < 12 := Nat.mod_lt _ (by decide)
  have hjj : j = j / 12 * 12 + j % 12 := by omega
  have hc := (hq (j / 12) hi).1 (j % 12) hr
  rw [← hjj] at hc
  rw [hjj, ocs_get l _ _ (by omega) hr] at hj
  rw [hj] at hc
  obtain ⟨b, off, spot⟩ := a
  have hspot : spot = none := by
    have h0 := (hq 0 (by omega)).1 0 (by decide)
    rw [show (opA (l.getD 0 OpL.zero))[0]? = some (b8 (l.getD 0 OpL.zero).kind) from rfl] at h0
    have := World.cell?_spot h0
    simpa [Addr.add] using this
  subst hspot
  refine ⟨b, off, rfl, ?_⟩
  rw [Addr.add_lit] at hc
  exact hc
theorem script_val {f0 f1 f2 : Field} {e : TypeId} (hs : P.underlying t = some (.struct #[f0, f1, f2])) (ho : f0.offset = 0 ∧ P.cellsOf f0.type = 1 ∧ f1.offset = 1 ∧ P.cellsOf f1.type = 2 ∧ f2.offset = 3 ∧ P.cellsOf f2.type = 1) (hC : P.cellsOf t = 4)
    (k0 : P.underlying f0.type = some (.int .i64)) (k1 : leaves P 3 f1.type = some [.int .u64, .int .u64]) (k2 : P.underlying f2.type = some (.slice e)) (ke : leaves P n e = some opL) (hCe : P.cellsOf e = opL.length)
    (hv : Value.okWide P w r b0 t v) (h : DataW.Trod enc P w base spare held t v d p) :
    ∃ (bike : Int) (x y : BitVec 64) (a : Option Addr) (len cap : Nat) (l : List OpL), v = .agg #[.int .i64 bike, u64 x, u64 y, .slice a len cap] ∧ (Lit.int .i64 bike).wf = true ∧ l.length = len ∧ Sl w 12 a len cap (ocs l) ∧ ∀ i, i < len → OpWf (l.getD i OpL.zero) := by
  obtain ⟨cs, rfl, hsz⟩ := okWide_struct hs hv
  obtain ⟨fuel, hf⟩ := h
  obtain ⟨xs, m, _, _, hlen, hxl, hg⟩ := DataW.trod_struct hs hf
  have hx3 : xs.length = 3 := hxl
  obtain ⟨cl⟩ := cs
  have hcl : cl.length = 4 := hsz.trans hC
  obtain ⟨o0, q0, o1, q1, o2, q2⟩ := ho
  match cl, hcl with
  | [c0, c1, c2, c3], _ =>
    have g0 := hg 0 f0 rfl
    have g1 := hg 1 f1 rfl
    have g2 := hg 2 f2 rfl
    rw [o0, q0, List.getElem?_eq_getElem (by omega)] at g0
    rw [o1, q1, List.getElem?_eq_getElem (by omega)] at g1
    rw [o2, q2, List.getElem?_eq_getElem (by omega)] at g2
    obtain ⟨b, e0, _, w0⟩ := DataW.trod_int k0 (show DataW.trod enc P w base spare held m f0.type [c0] = some _ from g0)
    have hl1 := leaves_trod 3 _ _ k1 (show DataW.trod enc P w base spare held m f1.type [c1, c2] = some _ from g1)
    obtain ⟨n1, e1, w1⟩ := leaf_int hl1 0 rfl
    obtain ⟨n2, e2, w2⟩ := leaf_int hl1 1 rfl
    obtain ⟨x, hx⟩ := wf_u64 w1
    obtain ⟨y, hy⟩ := wf_u64 w2
    simp at e0 e1 e2
    subst e0 e1 e2
    rcases leaves_slice k2 ke hCe (show DataW.trod enc P w base spare held m f2.type [c3] = some _ from g2) with e3 | ⟨a, len, cap, e3, hle, hm, hall⟩
    · simp at e3
      subst e3
      exact ⟨b, x, y, none, 0, 0, [], by rw [hx, hy], w0, rfl, Sl.nil w 12, fun i hi => absurd hi (Nat.not_lt_zero i)⟩
    · simp at e3
      subst e3
      obtain ⟨l, hll, hsl, hwf⟩ := ops_sl hle hm hall
      exact ⟨b, x, y, some a, len, cap, l, by rw [hx, hy], w0, hll, hsl, hwf⟩
end
end Go.Proofs.Ytgfgkgidpinmoaa
