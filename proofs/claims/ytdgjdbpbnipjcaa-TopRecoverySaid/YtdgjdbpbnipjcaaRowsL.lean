/-
  WHAT A LAW's STEP WANTS BESIDES: arguments of nested structs of numbers and bools, and slices of such structs. No condition.
-/
import Derived.Test.YtdgjdbpbnipjcaaBase4
import Derived.Deep.Slices
import Derived.Deep.Fields
import Derived.ChangeSame
import Derived.Lib.SmallJoins
import Derived.Test.YtdgjdbpbnipjcaaFlat
namespace Go.Proofs.Ytdgjdbpbnipjcaa
open Go.RowKit Go.ChangeShapes Go.WideShapes Go.Deep
set_option linter.unusedVariables false

/-- A cell's kind. -/
inductive Leaf where
  | int (k : IntKind)
  | bool
def Leaf.has (l : Leaf) (v : Value) : Prop := match l with
  | .int k => ∃ n, v = .int k n ∧ (Lit.int k n).wf = true
  | .bool => ∃ b, v = .bool b
def leafFs (rec : TypeId → Option (List Leaf)) (P : Program) : Nat → List Field → Option (List Leaf)
  | _, [] => some []
  | off, f :: fs => match rec f.type with
    | none => none
    | some ks => if f.offset = off ∧ P.cellsOf f.type = ks.length then (match leafFs rec P (off + ks.length) fs with | none => none | some r => some (ks ++ r)) else none
/-- A type's cells, read through nested structs. -/
def leaves (P : Program) : Nat → TypeId → Option (List Leaf)
  | 0, _ => none
  | n + 1, t => match P.underlying t with
    | some (.int k) => some [.int k]
    | some .bool => some [.bool]
    | some (.struct fs) => (match leafFs (leaves P n) P 0 fs.toList with | none => none | some ks => if P.cellsOf t = ks.length then some ks else none)
    | _ => none
def Leaves (ks : List Leaf) (cs : List Value) : Prop := cs.length = ks.length ∧ ∀ (i : Nat) (l : Leaf), ks[i]? = some l → ∃ v, cs[i]? = some v ∧ l.has v
theorem Leaves.append {a b : List Leaf} {x y : List Value} (h : Leaves a x) (k : Leaves b y) : Leaves (a ++ b) (x ++ y) := by
  refine ⟨by rw [List.length_append, List.length_append, h.1, k.1], fun i l hl => ?_⟩
  by_cases hi : i < a.length
  · rw [List.getElem?_append_left hi] at hl
    rw [List.getElem?_append_left (by rw [h.1]; exact hi)]
    exact h.2 i l hl
  · rw [List.getElem?_append_right (by omega)] at hl
    rw [List.getElem?_append_right (by rw [h.1]; omega), h.1]
    exact k.2 _ l hl
theorem leafFs_ok {rec : TypeId → Option (List Leaf)} {P : Program} {cs : List Value} : ∀ (fs : List Field) (off : Nat) (r : List Leaf), leafFs rec P off fs = some r →
    (∀ f ∈ fs, ∀ ks, rec f.type = some ks → Leaves ks ((cs.drop f.offset).take (P.cellsOf f.type))) → Leaves r ((cs.drop off).take r.length)
  | [], off, r, h, _ => by
    simp [leafFs] at h
    subst h
    exact ⟨by simp, fun i l hl => by simp at hl⟩
  | f :: fs, off, r, h, hf => by
    unfold leafFs at h
    cases hk : rec f.type with
    | none => rw [hk] at h; cases h
    | some ks =>
      rw [hk] at h
      dsimp only at h
      by_cases hc : f.offset = off ∧ P.cellsOf f.type = ks.length
      · rw [if_pos hc] at h
        cases hr : leafFs rec P (off + ks.length) fs with
        | none => rw [hr] at h; cases h
        | some r' =>
          rw [hr] at h
          simp only [Option.some.injEq] at h
          subst h
          have h1 := hf f (List.mem_cons_self ..) ks hk
          rw [hc.1, hc.2] at h1
          have h2 := leafFs_ok fs (off + ks.length) r' hr (fun g hg => hf g (List.mem_cons_of_mem _ hg))
          have e : (cs.drop off).take (ks ++ r').length = (cs.drop off).take ks.length ++ (cs.drop (off + ks.length)).take r'.length := by
            rw [List.length_append, List.take_add, List.drop_drop]
          rw [e]
          exact h1.append h2
      · rw [if_neg hc] at h; cases h
section
variable {H : Type} {enc : TypeId × Value → H} {P : Program} {w : World} {base : Nat} {spare : Nat → Bool} {held : Bool}
theorem leaves_trod : ∀ (n : Nat) (t : TypeId) (ks : List Leaf), leaves P n t = some ks → ∀ {fuel : Nat} {cs : List Value} {x : DataW H × List MemPlace}, DataW.trod enc P w base spare held fuel t cs = some x → Leaves ks cs
  | 0, _, _, h, _, _, _, _ => by cases h
  | n + 1, t, ks, h, fuel, cs, x, ht => by
    unfold leaves at h
    split at h
    · rename_i k hu
      cases h
      obtain ⟨m, rfl, _, hw⟩ := DataW.trod_int hu ht
      exact ⟨rfl, fun i l hl => by
        cases i with
        | zero => simp at hl; subst hl; exact ⟨_, rfl, m, rfl, hw⟩
        | succ i => simp at hl⟩
    · rename_i hu
      cases h
      obtain ⟨b, rfl, _⟩ := DataW.trod_bool hu ht
      exact ⟨rfl, fun i l hl => by
        cases i with
        | zero => simp at hl; subst hl; exact ⟨_, rfl, b, rfl⟩
        | succ i => simp at hl⟩
    · rename_i fs hu
      split at h
      · cases h
      · rename_i ks' hl'
        split at h
        · rename_i hc
          cases h
          obtain ⟨xs, m, _, _, hlen, hxl, hf⟩ := DataW.trod_struct hu ht
          have := leafFs_ok (cs := cs) fs.toList 0 ks hl' (fun f hfm ks1 hk1 => by
            obtain ⟨i, hi⟩ := List.getElem?_of_mem hfm
            have hi' : fs[i]? = some f := by simpa using hi
            have hil : i < xs.length := by rw [hxl]; exact (Array.getElem?_eq_some_iff.1 hi').1
            have h1 := hf i f hi'
            rw [List.getElem?_eq_getElem hil] at h1
            exact leaves_trod n f.type ks1 hk1 h1)
          rw [List.drop_zero, List.take_of_length_le (by rw [hlen, hc]; exact Nat.le_refl _)] at this
          exact this
        · cases h
    · cases h
/-- An argument of such a struct. -/
theorem leaves_val {r : Reach} {b0 : Nat} {t : TypeId} {fs : Array Field} {v : Value} {d : DataW H} {p : List MemPlace} {n : Nat} {ks : List Leaf} (hs : P.underlying t = some (.struct fs)) (hk : leaves P n t = some ks)
    (hv : Value.okWide P w r b0 t v) (h : DataW.Trod enc P w base spare held t v d p) : ∃ cs : Array Value, v = .agg cs ∧ Leaves ks cs.toList := by
  obtain ⟨cs, rfl, hsz⟩ := okWide_struct hs hv
  obtain ⟨fuel, hf⟩ := h
  exact ⟨cs, rfl, leaves_trod n t ks hk hf⟩
/-- A slice of such structs: each element's cells. -/
theorem leaves_slice {t e : TypeId} {fuel : Nat} {cs : List Value} {x : DataW H × List MemPlace} {n : Nat} {ks : List Leaf} (ht : P.underlying t = some (.slice e)) (hk : leaves P n e = some ks) (hC : P.cellsOf e = ks.length) (h : DataW.trod enc P w base spare held fuel t cs = some x) :
    cs = [.slice none 0 0] ∨ ∃ (a : Addr) (len cap : Nat), cs = [.slice (some a) len cap] ∧ len ≤ cap ∧ cap ≤ maxLen ∧
      ∀ i, i < len → ∃ cs', Leaves ks cs' ∧ ∀ j, j < ks.length → w.cell? (a.add (i * ks.length + j)) = cs'[j]? := by
  rcases open_slice ht h with ⟨h0, _⟩ | ⟨a, len, cap, m, n', D, Pl, hcs, hb, hl, hm, hmm, hx, hi⟩
  · exact .inl h0
  · refine .inr ⟨a, len, cap, hcs, hl, hm, fun i him => ?_⟩
    obtain ⟨cs', hc, ht'⟩ := hi i (by rw [hmm]; split <;> omega)
    rw [hC] at hc
    obtain ⟨_, hcl, hat⟩ := World.cells?_some hc
    refine ⟨cs', leaves_trod n e ks hk ht', fun j hj => ?_⟩
    rw [← Go.Deep.add_add]
    exact hat j hj
end
end Go.Proofs.Ytdgjdbpbnipjcaa

namespace Go.Proofs.Ytdgjdbpbnipjcaa
open Go.RowKit Go.ChangeShapes Go.WideShapes Go.Deep
set_option linter.unusedVariables false

theorem all_list {α : Type} (z : α) {Q : Nat → α → Prop} : ∀ n : Nat, (∀ i, i < n → ∃ x, Q i x) → ∃ l : List α, l.length = n ∧ ∀ i, i < n → Q i (l.getD i z)
  | 0, _ => ⟨[], rfl, fun i hi => absurd hi (Nat.not_lt_zero i)⟩
  | n + 1, h => by
    obtain ⟨l, hl, hq⟩ := all_list z n (fun i hi => h i (by omega))
    obtain ⟨x, hx⟩ := h n (by omega)
    refine ⟨l ++ [x], by simp [hl], fun i hi => ?_⟩
    by_cases hin : i < n
    · have := hq i hin
      rw [show (l ++ [x]).getD i z = l.getD i z from by simp [List.getD, List.getElem?_append_left (show i < l.length by omega)]]
      exact this
    · obtain rfl : i = n := by omega
      rw [show (l ++ [x]).getD i z = x from by subst hl; simp [List.getD]]
      exact hx
theorem rows_sl {α : Type} (z : α) (A : α → Array Value) (N : Nat) (hN : 0 < N) (hA : ∀ o, (A o).size = N) (Pw : α → Prop) {L : List Leaf} (hL : L.length = N) (hopen : ∀ cs, Leaves L cs → ∃ o, cs = (A o).toList ∧ Pw o) {w : World} {a : Addr} {len cap : Nat} (hl : len ≤ cap) (hm : cap ≤ maxLen)
    (h : ∀ i, i < len → ∃ cs', Leaves L cs' ∧ ∀ j, j < L.length → w.cell? (a.add (i * L.length + j)) = cs'[j]?) :
    ∃ l : List α, l.length = len ∧ Sl w N (some a) len cap (flatV A l) ∧ ∀ i, i < len → Pw (l.getD i z) := by
  obtain ⟨l, hlen, hq⟩ := all_list z (Q := fun i o => (∀ j, j < N → w.cell? (a.add (i * N + j)) = (A o)[j]?) ∧ Pw o) len (fun i hi => by
    obtain ⟨cs', h1, h2⟩ := h i hi
    obtain ⟨o, rfl, hw⟩ := hopen _ h1
    rw [hL] at h2
    exact ⟨o, fun j hj => by rw [← Array.getElem?_toList]; exact h2 j hj, hw⟩)
  have hol := flatV_len A N hA l
  rw [hlen] at hol
  refine ⟨l, hlen, ⟨hol, hl, hm, (fun h => by cases h), fun j u hj => ?_⟩, fun i hi => (hq i hi).2⟩
  have hj' := (List.getElem?_eq_some_iff.1 hj).1
  rw [hol] at hj'
  have hi : j / N < len := Nat.div_lt_of_lt_mul (by rw [Nat.mul_comm]; exact hj')
  have hr : j % N < N := Nat.mod_lt _ hN
  have hjj : j = j / N * N + j % N := by rw [Nat.mul_comm]; exact (Nat.div_add_mod j N).symm
  have hc := (hq (j / N) hi).1 (j % N) hr
  rw [← hjj] at hc
  rw [hjj, flatV_get z A N hA l _ _ (by omega) hr] at hj
  rw [hj] at hc
  obtain ⟨b, off, spot⟩ := a
  have hspot : spot = none := by
    have h0 := (hq 0 (Nat.lt_of_le_of_lt (Nat.zero_le _) hi)).1 0 hN
    rw [Array.getElem?_eq_getElem (by rw [hA]; exact hN)] at h0
    have := World.cell?_spot h0
    simpa [Addr.add] using this
  subst hspot
  refine ⟨b, off, rfl, ?_⟩
  rw [Addr.add_lit] at hc
  exact hc
end Go.Proofs.Ytdgjdbpbnipjcaa
