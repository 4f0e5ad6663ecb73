/-
  WHAT A LAW's STEP WANTS BESIDES: slices of nested structs, told by a list of what they are. No condition.
-/
import Derived.Test.YtgfgkgidpinmoaaShell4
import Derived.Test.YtgfgkgidpinmoaaTokS
namespace Go.Proofs.Ytgfgkgidpinmoaa
open Go.RowKit Go.ChangeShapes Go.WideShapes Go.Deep
set_option linter.unusedVariables false

section
variable {α : Type} (z : α) (A : α → Array Value) (N : Nat)
def flatV (l : List α) : List Value := l.flatMap fun x => (A x).toList
theorem flatV_cons (x : α) (l : List α) : flatV A (x :: l) = (A x).toList ++ flatV A l := by unfold flatV; simp
theorem flatV_append (l m : List α) : flatV A (l ++ m) = flatV A l ++ flatV A m := by unfold flatV; simp
theorem flatV_len (hA : ∀ o, (A o).size = N) : ∀ l : List α, (flatV A l).length = l.length * N
  | [] => by simp [flatV]
  | x :: l => by rw [flatV_cons, List.length_append, flatV_len hA l, Array.length_toList, hA, List.length_cons, Nat.succ_mul]; omega
theorem flatV_get (hA : ∀ o, (A o).size = N) : ∀ (l : List α) (i j : Nat), i < l.length → j < N → (flatV A l)[i * N + j]? = (A (l.getD i z))[j]?
  | [], i, j, h, _ => absurd h (by simp)
  | x :: l, 0, j, _, hj => by
    rw [flatV_cons, Nat.zero_mul, Nat.zero_add, List.getElem?_append_left (by rw [Array.length_toList, hA]; exact hj)]
    simp
  | x :: l, i + 1, j, h, hj => by
    rw [flatV_cons, List.getElem?_append_right (by rw [Array.length_toList, hA, Nat.succ_mul]; omega), show (i + 1) * N + j - (A x).toList.length = i * N + j from by rw [Array.length_toList, hA, Nat.succ_mul]; omega]
    rw [flatV_get hA l i j (by simpa using h) hj]
    simp
end
theorem all_list {α : Type} (z : α) {Q : Nat → α → Prop} : ∀ n : Nat, (∀ i, i < n → ∃ x, Q i x) → ∃ l : List α, l.length = n ∧ ∀ i, i < n → Q i (l.getD i z)
  | 0, _ => ⟨[], rfl, fun i hi => absurd hi (Nat.not_lt_zero i)⟩
  | n + 1, h => by
    obtain ⟨l, hl, hq⟩ := all_list z n (fun i hi => h i (by omega))
    obtain ⟨x, hx⟩ := h n (by omega)
    refine ⟨l ++ [x], by simp [hl], fun i hi => ?_⟩
    by_cases hin : i < n
    · have := hq i hin
      rw [show (l ++ [x]).getD i z = l.getD i z from by simp [List.getD, List.getElem?_append_left (show i < l.length by omega)]]
      exact this
    · obtain rfl : i = n := by omega
      rw [show (l ++ [x]).getD i z = x from by subst hl; simp [List.getD]]
      exact hx
theorem rows_sl {α : Type} (z : α) (A : α → Array Value) (N : Nat) (hN : 0 < N) (hA : ∀ o, (A o).size = N) (Pw : α → Prop) {L : List Leaf} (hL : L.length = N) (hopen : ∀ cs, Leaves L cs → ∃ o, cs = (A o).toList ∧ Pw o) {w : World} {a : Addr} {len cap : Nat} (hl : len ≤ cap) (hm : cap ≤ maxLen)
    (h : ∀ i, i < len → ∃ cs', Leaves L cs' ∧ ∀ j, j < L.length → w.cell? (a.add (i * L.length + j)) = cs'[j]?) :
    ∃ l : List α, l.length = len ∧ Sl w N (some a) len cap (flatV A l) ∧ ∀ i, i < len → Pw (l.getD i z) := by
  obtain ⟨l, hlen, hq⟩ := all_list z (Q := fun i o => (∀ j, j < N → w.cell? (a.add (i * N + j)) = (A o)[j]?) ∧ Pw o) len (fun i hi => by
    obtain ⟨cs', h1, h2⟩ := h i hi
    obtain ⟨o, rfl, hw⟩ := hopen _ h1
    rw [hL] at h2
    exact ⟨o, fun j hj => by rw [← Array.getElem?_toList]; exact h2 j hj, hw⟩)
  have hol := flatV_len A N hA l
  rw [hlen] at hol
  refine ⟨l, hlen, ⟨hol, hl, hm, (fun h => by cases h), fun j u hj => ?_⟩, fun i hi => (hq i hi).2⟩
  have hj' := (List.getElem?_eq_some_iff.1 hj).1
  rw [hol] at hj'
  have hi : j / N < len := Nat.div_lt_of_lt_mul (by rw [Nat.mul_comm]; exact hj')
  have hr : j % N < N := Nat.mod_lt _ hN
  have hjj : j = j / N * N + j % N := by rw [Nat.mul_comm]; exact (Nat.div_add_mod j N).symm
  have hc := (hq (j / N) hi).1 (j % N) hr
  rw [← hjj] at hc
  rw [hjj, flatV_get z A N hA l _ _ (by omega) hr] at hj
  rw [hj] at hc
  obtain ⟨b, off, spot⟩ := a
  have hspot : spot = none := by
    have h0 := (hq 0 (Nat.lt_of_le_of_lt (Nat.zero_le _) hi)).1 0 hN
    rw [Array.getElem?_eq_getElem (by rw [hA]; exact hN)] at h0
    have := World.cell?_spot h0
    simpa [Addr.add] using this
  subst hspot
  refine ⟨b, off, rfl, ?_⟩
  rw [Addr.add_lit] at hc
  exact hc
/-- A row of such structs, one element. -/
theorem flat_at {α : Type} (z : α) (A : α → Array Value) (N : Nat) (hN : 0 < N) (hA : ∀ o, (A o).size = N) {w : World} {ao : Option Addr} {len cap : Nat} {l : List α} (h : Sl w N ao len cap (flatV A l)) (hl : l.length = len) (k : Nat) (hk : k < len) :
    ∃ b o, ao = some ⟨b, o, none⟩ ∧ ∀ j v, (A (l.getD k z))[j]? = some v → w.cell? ⟨b, o + k * N + j, none⟩ = some v := by
  have hj : ∀ j v, (A (l.getD k z))[j]? = some v → j < N := fun j v e => by have := (Array.getElem?_eq_some_iff.1 e).1; rw [hA] at this; exact this
  have hpos : 0 < (flatV A l).length := by rw [flatV_len A N hA l]; exact Nat.mul_pos (by omega) hN
  obtain ⟨b, o, e, _, hc⟩ := h.addr hpos
  refine ⟨b, o, e, fun j v hv => ?_⟩
  have := hc (k * N + j) v (by rw [flatV_get z A N hA l k j (by omega) (hj j v hv)]; exact hv)
  rw [Nat.add_assoc]
  exact this
/-- A token as it lies. -/
structure TokL where
  b : Int
  r : Int
  d : Int
  f : Int
  t : Int
  n : Int
  g : BitVec 64
def tokA (o : TokL) : Array Value := #[.int .i64 o.b, .int .i64 o.r, .int .i64 o.d, .int .i64 o.f, .int .i64 o.t, .int .i64 o.n, u64 o.g]
def TokL.zero : TokL := ⟨0, 0, 0, 0, 0, 0, 0⟩
/-- An attempt. -/
structure TryL where
  k : Int
  iss : Bool
  lo : Int
  hi : Int
def tryA (o : TryL) : Array Value := #[.int .i64 o.k, .bool o.iss, .int .i64 o.lo, .int .i64 o.hi]
def TryL.zero : TryL := ⟨0, false, 0, 0⟩
abbrev tryLv : List Leaf := [i64L, .bool, i64L, i64L]
theorem tokA_open (cs : List Value) (h : Leaves tokL cs) : ∃ o : TokL, cs = (tokA o).toList ∧ ∀ x ∈ [o.b, o.r, o.d, o.f, o.t, o.n], (Lit.int .i64 x).wf = true := by
  obtain ⟨b, r, d, f, t, n, g, rfl, hw⟩ := tok_open h
  exact ⟨⟨b, r, d, f, t, n, g⟩, rfl, hw⟩
theorem tryA_open (cs : List Value) (h : Leaves tryLv cs) : ∃ o : TryL, cs = (tryA o).toList ∧ (Lit.int .i64 o.k).wf = true := by
  have hl := h.1
  match cs, hl with
  | [c0, c1, c2, c3], _ =>
    obtain ⟨n0, e0, w0⟩ := leaf_int h 0 rfl
    obtain ⟨v1, e1, bb, rfl⟩ := h.2 1 .bool rfl
    obtain ⟨n2, e2, w2⟩ := leaf_int h 2 rfl
    obtain ⟨n3, e3, w3⟩ := leaf_int h 3 rfl
    simp at e0 e1 e2 e3
    subst e0 e1 e2 e3
    exact ⟨⟨n0, bb, n2, n3⟩, rfl, w0⟩
end Go.Proofs.Ytgfgkgidpinmoaa
