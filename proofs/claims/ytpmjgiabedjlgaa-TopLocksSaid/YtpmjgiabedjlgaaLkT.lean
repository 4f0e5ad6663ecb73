/-
  LINK: a receiver that takes frames of one list of messages delivers a beginning of it (plain; no program). No condition.
-/
import Derived.Test.YtpmjgiabedjlgaaLk9
namespace Go.Proofs.Ytpmjgiabedjlgaa
open Go.RowKit
set_option linter.unusedVariables false

structure RPre (all o : List (List UInt8)) (q : Qf) : Prop where
  oo : o = all.take o.length
  le : o.length ≤ all.length
  k : ∀ k x, q k = some x → o.length ≤ k ∧ k < all.length ∧ all.getD k [] = x
structure RInv (all o : List (List UInt8)) (q : Qf) : Prop where
  p : RPre all o q
  n : q o.length = none
  w : ∀ k x, q k = some x → k < o.length + 16
def Got (o : List (List UInt8)) (q : Qf) (k : Nat) : Prop := k < o.length ∨ q k ≠ none
theorem rinv_zero (all : List (List UInt8)) : RInv all [] (fun _ => none) := ⟨⟨by simp, by simp, fun k x h => by cases h⟩, rfl, fun k x h => by cases h⟩
theorem take_more (all o : List (List UInt8)) (h : o = all.take o.length) (hl : o.length < all.length) : o ++ [all.getD o.length []] = all.take (o.length + 1) := by
  rw [List.take_add_one, List.getElem?_eq_getElem hl, List.getD_eq_getElem?_getD, List.getElem?_eq_getElem hl]
  exact congrArg (fun l => l ++ [all[o.length]]) h
theorem drain_inv (all : List (List UInt8)) : ∀ (m : Nat) (o : List (List UInt8)) (q : Qf), RPre all o q → (∀ k x, q k = some x → k < o.length + m) → ∃ o' q', drain m o q = (o', q') ∧ RPre all o' q' ∧ q' o'.length = none ∧ (∀ j x, q' j = some x → q j = some x) ∧ o.length ≤ o'.length ∧ ∀ j, Got o q j → Got o' q' j
  | 0, o, q, h, hk => by
    refine ⟨o, q, rfl, h, ?_, fun j x e => e, Nat.le_refl _, fun j hj => hj⟩
    cases e : q o.length with
    | none => rfl
    | some x => have := hk _ _ e; omega
  | m + 1, o, q, h, hk => by
    cases e : q o.length with
    | none => exact ⟨o, q, drain_none e, h, e, fun j x e => e, Nat.le_refl _, fun j hj => hj⟩
    | some x =>
      obtain ⟨h1, h2, h3⟩ := h.k _ _ e
      have hp : RPre all (o ++ [x]) (fun j => if j = o.length then none else q j) := by
        refine ⟨?_, by rw [List.length_append]; simp; omega, fun k y ey => ?_⟩
        · rw [List.length_append, ← h3]
          exact take_more all o h.oo h2
        · by_cases ek : k = o.length
          · rw [if_pos ek] at ey; cases ey
          · rw [if_neg ek] at ey
            obtain ⟨a, b, c⟩ := h.k k y ey
            exact ⟨by rw [List.length_append]; simp; omega, b, c⟩
      obtain ⟨o', q', e1, e2, e3, e4, e5, e6⟩ := drain_inv all m (o ++ [x]) _ hp (fun k y ey => by
        by_cases ek : k = o.length
        · rw [if_pos ek] at ey; cases ey
        · rw [if_neg ek] at ey
          have := hk k y ey
          rw [List.length_append]; simp; omega)
      rw [List.length_append] at e5
      refine ⟨o', q', by rw [drain_some e]; exact e1, e2, e3, fun j y ey => ?_, by simp at e5; omega, fun j hj => e6 j ?_⟩
      · have := e4 j y ey
        by_cases ek : j = o.length
        · rw [if_pos ek] at this; cases this
        · rw [if_neg ek] at this; exact this
      · rcases hj with hj | hj
        · exact .inl (by rw [List.length_append]; simp; omega)
        · by_cases ek : j = o.length
          · exact .inl (by rw [List.length_append]; simp; omega)
          · exact .inr (by dsimp only; rw [if_neg ek]; exact hj)
theorem take_inv {all o : List (List UInt8)} {q : Qf} (h : RInv all o q) (k : Nat) (hk : k < all.length) (hk2 : (k : Int) < 1048576) (hlen : (all.getD k []).length ≤ 256) (h16 : k < o.length + 16) :
    ∃ o' q', takeA o q (k : Int) (all.getD k []) = (o', q', 0) ∧ RInv all o' q' ∧ o.length ≤ o'.length ∧ (∀ j, Got o q j → Got o' q' j) ∧ Got o' q' k := by
  unfold takeA
  rw [if_neg (by omega), if_neg (by omega), Int.toNat_natCast]
  by_cases hko : k < o.length
  · rw [if_pos hko]
    have e : o.getD k [] = all.getD k [] := by
      conv => lhs; rw [h.p.oo]
      rw [List.getD_eq_getElem?_getD, List.getD_eq_getElem?_getD, List.getElem?_take_of_lt hko]
    rw [if_pos e]
    exact ⟨o, q, rfl, h, Nat.le_refl _, fun j hj => hj, .inl hko⟩
  · rw [if_neg hko]
    cases e : q k with
    | some x =>
      obtain ⟨_, _, e3⟩ := h.p.k k x e
      refine ⟨o, q, ?_, h, Nat.le_refl _, fun j hj => hj, .inr (by rw [e]; simp)⟩
      dsimp only
      rw [if_pos e3.symm]
    | none =>
      have hp : RPre all o (fun j => if j = k then some (all.getD k []) else q j) := ⟨h.p.oo, h.p.le, fun j x ej => by
        by_cases ek : j = k
        · rw [if_pos ek] at ej
          subst ek
          exact ⟨by omega, hk, Option.some.inj ej⟩
        · rw [if_neg ek] at ej
          exact h.p.k j x ej⟩
      have hb : ∀ j x, (fun j => if j = k then some (all.getD k []) else q j) j = some x → j < o.length + 16 := fun j x ej => by
        by_cases ek : j = k
        · omega
        · dsimp only at ej
          rw [if_neg ek] at ej
          exact h.w j x ej
      obtain ⟨o', q', e1, e2, e3, e4, e5, e6⟩ := drain_inv all 17 o _ hp (fun j x ej => by have := hb j x ej; omega)
      refine ⟨o', q', by rw [e1], ⟨e2, e3, fun j x ej => by have := hb j x (e4 j x ej); omega⟩, e5, fun j hj => e6 j ?_, e6 k (.inr (by dsimp only; rw [if_pos rfl]; simp))⟩
      rcases hj with hj | hj
      · exact .inl hj
      · refine .inr ?_
        dsimp only
        by_cases ek : j = k
        · rw [if_pos ek]; simp
        · rw [if_neg ek]; exact hj
theorem got_all {all o : List (List UInt8)} {q : Qf} (h : RInv all o q) (hg : ∀ k, k < all.length → Got o q k) : o = all := by
  rcases Nat.lt_or_ge o.length all.length with hl | hl
  · rcases hg _ hl with e | e
    · exact absurd e (Nat.lt_irrefl _)
    · exact absurd h.n e
  · have := h.p.oo
    rw [List.take_of_length_le hl] at this
    exact this
end Go.Proofs.Ytpmjgiabedjlgaa
