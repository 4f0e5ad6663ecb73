/-
  LINK: a receiver's answer by a list of kept frames, as the reference has it (plain; no program). No condition.
-/
import Derived.Test.YtfhcaikfbfoopaaLk9
namespace Go.Proofs.Ytfhcaikfbfoopaa
open Go.RowKit
set_option linter.unusedVariables false

def lookK : List FrL → Int → Option (List UInt8)
  | [], _ => none
  | x :: K, s => if x.s = s then some x.b.bs else lookK K s
theorem lookK_app (K : List FrL) (x : FrL) (s : Int) : lookK (K ++ [x]) s = match lookK K s with | some b => some b | none => if x.s = s then some x.b.bs else none := by
  induction K with
  | nil => rfl
  | cons y K ih =>
    simp only [List.cons_append, lookK]
    by_cases h : y.s = s
    · rw [if_pos h, if_pos h]
    · rw [if_neg h, if_neg h]; exact ih
theorem lookK_mem {K : List FrL} {s : Int} {b : List UInt8} (h : lookK K s = some b) : ∃ x ∈ K, x.s = s ∧ x.b.bs = b := by
  induction K with
  | nil => cases h
  | cons y K ih =>
    simp only [lookK] at h
    by_cases e : y.s = s
    · rw [if_pos e] at h; exact ⟨y, by simp, e, Option.some.inj h⟩
    · rw [if_neg e] at h
      obtain ⟨x, h1, h2⟩ := ih h
      exact ⟨x, List.mem_cons_of_mem _ h1, h2⟩
theorem lookK_filter (K : List FrL) (m s : Int) : lookK (K.filter (fun x => decide (m ≤ x.s))) s = if s < m then none else lookK K s := by
  induction K with
  | nil => simp [lookK]
  | cons y K ih =>
    by_cases h : m ≤ y.s
    · rw [List.filter_cons_of_pos (by simpa using h)]
      simp only [lookK]
      by_cases e : y.s = s
      · rw [if_pos e, if_pos e, if_neg (by omega)]
      · rw [if_neg e, if_neg e]; exact ih
    · rw [List.filter_cons_of_neg (by simpa using h), ih]
      simp only [lookK]
      by_cases hs : s < m
      · rw [if_pos hs, if_pos hs]
      · rw [if_neg hs, if_neg hs, if_neg (by omega)]
theorem filter_less {K : List FrL} {s : Int} {b : List UInt8} (h : lookK K s = some b) : (K.filter (fun x => decide (s + 1 ≤ x.s))).length + 1 ≤ (K.filter (fun x => decide (s ≤ x.s))).length := by
  have mono : ∀ K : List FrL, (K.filter (fun x => decide (s + 1 ≤ x.s))).length ≤ (K.filter (fun x => decide (s ≤ x.s))).length := by
    intro K
    induction K with
    | nil => simp
    | cons y K ih =>
      by_cases h1 : s + 1 ≤ y.s
      · rw [List.filter_cons_of_pos (by simpa using h1), List.filter_cons_of_pos (by simp; omega)]; simpa using ih
      · rw [List.filter_cons_of_neg (by simpa using h1)]
        by_cases h2 : s ≤ y.s
        · rw [List.filter_cons_of_pos (by simpa using h2)]; simp; omega
        · rw [List.filter_cons_of_neg (by simpa using h2)]; exact ih
  induction K with
  | nil => cases h
  | cons y K ih =>
    simp only [lookK] at h
    by_cases e : y.s = s
    · rw [List.filter_cons_of_neg (by simp; omega), List.filter_cons_of_pos (by simp; omega)]
      have := mono K
      simp; omega
    · rw [if_neg e] at h
      have := ih h
      by_cases h2 : s ≤ y.s
      · rw [List.filter_cons_of_pos (by simp; omega), List.filter_cons_of_pos (by simpa using h2)]; simp; omega
      · rw [List.filter_cons_of_neg (by simp; omega), List.filter_cons_of_neg (by simpa using h2)]; exact this
/-- A round of the reference's delivery. -/
def stepD (K : List FrL) (o : List (List UInt8)) : List (List UInt8) := match lookK K (o.length : Int) with | some b => o ++ [b] | none => o
def itD (K : List FrL) : Nat → List (List UInt8) → List (List UInt8)
  | 0, o => o
  | n + 1, o => stepD K (itD K n o)
theorem itD_front (K : List FrL) (n : Nat) (o : List (List UInt8)) : itD K (n + 1) o = itD K n (stepD K o) := by
  induction n with
  | zero => rfl
  | succ n ih =>
    show stepD K (itD K (n + 1) o) = stepD K (itD K n (stepD K o))
    rw [ih]
theorem itD_none {K : List FrL} {o : List (List UInt8)} (h : lookK K (o.length : Int) = none) (n : Nat) : itD K n o = o := by
  induction n with
  | zero => rfl
  | succ n ih => show stepD K (itD K n o) = o; rw [ih]; unfold stepD; rw [h]
theorem itD_or (K : List FrL) (o : List (List UInt8)) (n : Nat) : lookK K ((itD K n o).length : Int) = none ∨ (itD K n o).length = o.length + n := by
  induction n with
  | zero => exact .inr rfl
  | succ n ih =>
    rcases ih with h | h
    · refine .inl ?_
      show lookK K ((stepD K (itD K n o)).length : Int) = none
      have : stepD K (itD K n o) = itD K n o := by unfold stepD; rw [h]
      rw [this]; exact h
    · show lookK K ((stepD K (itD K n o)).length : Int) = none ∨ (stepD K (itD K n o)).length = _
      cases e : lookK K ((itD K n o).length : Int) with
      | none =>
        have : stepD K (itD K n o) = itD K n o := by unfold stepD; rw [e]
        rw [this]; exact .inl e
      | some b =>
        have : stepD K (itD K n o) = itD K n o ++ [b] := by unfold stepD; rw [e]
        rw [this]; exact .inr (by simp; omega)
theorem itD_le (K : List FrL) (o : List (List UInt8)) (n : Nat) : o.length ≤ (itD K n o).length ∧ (itD K n o).length ≤ o.length + n := by
  induction n with
  | zero => exact ⟨Nat.le_refl _, Nat.le_refl _⟩
  | succ n ih =>
    show o.length ≤ (stepD K (itD K n o)).length ∧ (stepD K (itD K n o)).length ≤ _
    unfold stepD
    split
    · simp; omega
    · omega
theorem itD_sum (K : List FrL) (o : List (List UInt8)) (n : Nat) : (itD K n o).length + (K.filter (fun x => decide (((itD K n o).length : Int) ≤ x.s))).length ≤ o.length + (K.filter (fun x => decide ((o.length : Int) ≤ x.s))).length := by
  induction n with
  | zero => exact Nat.le_refl _
  | succ n ih =>
    show (stepD K (itD K n o)).length + (K.filter (fun x => decide (((stepD K (itD K n o)).length : Int) ≤ x.s))).length ≤ _
    cases e : lookK K ((itD K n o).length : Int) with
    | none =>
      have : stepD K (itD K n o) = itD K n o := by unfold stepD; rw [e]
      rw [this]; exact ih
    | some b =>
      have h1 : stepD K (itD K n o) = itD K n o ++ [b] := by unfold stepD; rw [e]
      have h2 := filter_less e
      have h3 : (((itD K n o ++ [b]).length : Nat) : Int) = ((itD K n o).length : Int) + 1 := by simp
      rw [h1, h3]
      simp only [List.length_append, List.length_singleton]
      omega
theorem itD_small {K : List FrL} {o : List (List UInt8)} (ho : ∀ b ∈ o, b.length ≤ 256) (hk : ∀ x ∈ K, x.b.bs.length ≤ 256) (n : Nat) : ∀ b ∈ itD K n o, b.length ≤ 256 := by
  induction n with
  | zero => exact ho
  | succ n ih =>
    show ∀ b ∈ stepD K (itD K n o), b.length ≤ 256
    cases e : lookK K ((itD K n o).length : Int) with
    | none =>
      have : stepD K (itD K n o) = itD K n o := by unfold stepD; rw [e]
      rw [this]; exact ih
    | some c =>
      have : stepD K (itD K n o) = itD K n o ++ [c] := by unfold stepD; rw [e]
      rw [this]
      intro b hb
      rcases List.mem_append.1 hb with hb | hb
      · exact ih b hb
      · obtain ⟨x, hx, _, e2⟩ := lookK_mem e
        simp at hb; subst hb; rw [← e2]; exact hk x hx
theorem drain_itD (K : List FrL) : ∀ (m : Nat) (o : List (List UInt8)) (q : Qf), (∀ j : Nat, o.length ≤ j → q j = lookK K (j : Int)) → (∀ j : Nat, j < o.length → q j = none) → drain m o q = (itD K m o, fun j => if j < (itD K m o).length then none else q j)
  | 0, o, q, h1, h2 => by
    show (o, q) = (o, _)
    congr 1
    funext j
    show q j = if j < o.length then none else q j
    by_cases h : j < o.length
    · rw [if_pos h, h2 j h]
    · rw [if_neg h]
  | m + 1, o, q, h1, h2 => by
    have e1 := h1 o.length (Nat.le_refl _)
    cases e : q o.length with
    | none =>
      have h0 : lookK K (o.length : Int) = none := by rw [← e1]; exact e
      rw [drain_none e, itD_none h0]
      congr 1
      funext j
      by_cases h : j < o.length
      · rw [if_pos h, h2 j h]
      · rw [if_neg h]
    | some x =>
      have h0 : lookK K (o.length : Int) = some x := by rw [← e1]; exact e
      have hs : stepD K o = o ++ [x] := by unfold stepD; rw [h0]
      rw [drain_some e, drain_itD K m (o ++ [x]) _ (fun j hj => by
        simp at hj
        rw [if_neg (by omega)]
        exact h1 j (by omega)) (fun j hj => by
        simp at hj
        by_cases e2 : j = o.length
        · rw [if_pos e2]
        · rw [if_neg e2]; exact h2 j (by omega)), itD_front, hs]
      congr 1
      funext j
      have hle := (itD_le K (o ++ [x]) m).1
      simp at hle
      by_cases h : j < (itD K m (o ++ [x])).length
      · rw [if_pos h, if_pos h]
      · rw [if_neg h, if_neg h, if_neg (by omega)]
/-- What the reference's receiver has, and what the other one has. -/
structure KI (o : List (List UInt8)) (q : Qf) (K : List FrL) (cnt : Nat) : Prop where
  q : ∀ j : Nat, q j = lookK K (j : Int)
  k : ∀ x ∈ K, (o.length : Int) ≤ x.s ∧ x.s < (o.length : Int) + 16
  lo : ∀ b ∈ o, b.length ≤ 256
  lk : ∀ x ∈ K, x.b.bs.length ≤ 256
  c : o.length + K.length ≤ cnt
theorem ki_zero : KI [] (fun _ => none) [] 0 := ⟨fun j => rfl, fun x hx => by simp at hx, fun b hb => by simp at hb, fun x hx => by simp at hx, Nat.le_refl _⟩
theorem ki_next {o : List (List UInt8)} {q : Qf} {K : List FrL} {cnt : Nat} (h : KI o q K cnt) : KI o q K (cnt + 1) := ⟨h.q, h.k, h.lo, h.lk, Nat.le_succ_of_le h.c⟩
theorem ki_key {o : List (List UInt8)} {q : Qf} {K : List FrL} {cnt : Nat} (h : KI o q K cnt) : ∀ j x, q j = some x → j < o.length + 16 := fun j x e => by
  rw [h.q j] at e
  obtain ⟨y, hy, e1, _⟩ := lookK_mem e
  have := (h.k y hy).2
  omega
/-- A new frame. -/
theorem ki_new {o : List (List UInt8)} {q : Qf} {K : List FrL} {cnt : Nat} (h : KI o q K cnt) (x : FrL) (s : Nat) (hx : x.s = (s : Int)) (h1 : o.length ≤ s) (h2 : s < o.length + 16) (hl : x.b.bs.length ≤ 256) (hq : q s = none) :
    drain 17 o (fun j => if j = s then some x.b.bs else q j) = (itD (K ++ [x]) 16 o, fun j => if j < (itD (K ++ [x]) 16 o).length then none else (if j = s then some x.b.bs else q j)) ∧
    KI (itD (K ++ [x]) 16 o) (fun j => if j < (itD (K ++ [x]) 16 o).length then none else (if j = s then some x.b.bs else q j)) ((K ++ [x]).filter (fun y => decide (((itD (K ++ [x]) 16 o).length : Int) ≤ y.s))) (cnt + 1) := by
  have hk : ∀ y ∈ K ++ [x], (o.length : Int) ≤ y.s ∧ y.s < (o.length : Int) + 16 := fun y hy => by
    rcases List.mem_append.1 hy with hy | hy
    · exact h.k y hy
    · simp at hy; subst hy; omega
  have hlk : ∀ y ∈ K ++ [x], y.b.bs.length ≤ 256 := fun y hy => by
    rcases List.mem_append.1 hy with hy | hy
    · exact h.lk y hy
    · simp at hy; subst hy; exact hl
  have hq0 : ∀ j : Nat, (if j = s then some x.b.bs else q j) = lookK (K ++ [x]) (j : Int) := fun j => by
    rw [lookK_app, ← h.q j]
    by_cases e : j = s
    · subst e; rw [if_pos rfl, hq]; dsimp only; rw [if_pos hx]
    · rw [if_neg e]
      cases q j with
      | some b => rfl
      | none => dsimp only; rw [if_neg (by omega)]
  have hlow : ∀ j : Nat, j < o.length → (if j = s then some x.b.bs else q j) = none := fun j hj => by
    rw [hq0]
    cases e : lookK (K ++ [x]) (j : Int) with
    | none => rfl
    | some b =>
      obtain ⟨y, hy, e1, _⟩ := lookK_mem e
      have := (hk y hy).1
      omega
  have hd := drain_itD (K ++ [x]) 17 o (fun j => if j = s then some x.b.bs else q j) (fun j _ => hq0 j) hlow
  have hn : lookK (K ++ [x]) ((itD (K ++ [x]) 16 o).length : Int) = none := by
    rcases itD_or (K ++ [x]) o 16 with e | e
    · exact e
    · cases e2 : lookK (K ++ [x]) ((itD (K ++ [x]) 16 o).length : Int) with
      | none => rfl
      | some b =>
        obtain ⟨y, hy, e1, _⟩ := lookK_mem e2
        have := (hk y hy).2
        omega
  have h17 : itD (K ++ [x]) 17 o = itD (K ++ [x]) 16 o := by
    show stepD (K ++ [x]) (itD (K ++ [x]) 16 o) = _
    unfold stepD
    rw [hn]
  rw [h17] at hd
  refine ⟨hd, fun j => ?_, fun y hy => ?_, itD_small h.lo hlk 16, fun y hy => hlk y (List.mem_filter.1 hy).1, ?_⟩
  · rw [lookK_filter]
    by_cases e : j < (itD (K ++ [x]) 16 o).length
    · rw [if_pos e, if_pos (by omega)]
    · rw [if_neg e, if_neg (show ¬ (j : Int) < ((itD (K ++ [x]) 16 o).length : Int) from by omega)]; exact hq0 j
  · obtain ⟨h3, h4⟩ := List.mem_filter.1 hy
    have := hk y h3
    have := (itD_le (K ++ [x]) o 16).1
    simp at h4
    omega
  · have h3 := itD_sum (K ++ [x]) o 16
    have h4 : ((K ++ [x]).filter (fun y => decide ((o.length : Int) ≤ y.s))).length ≤ (K ++ [x]).length := List.length_filter_le _ _
    have := h.c
    simp only [List.length_append, List.length_singleton] at h4
    omega
end Go.Proofs.Ytfhcaikfbfoopaa
