/-
  LEVELS AND SCENARIOS, THE PLAIN LAW (no program). No condition.
-/
import Derived.Test.YtjfakdbgcinpcaaBase1
namespace Go.Proofs.Ytjfakdbgcinpcaa
open Go.RowKit
set_option linter.unusedVariables false

/-- One step: how many failed, and the level behind it. -/
def stepN (docks : Int) (p : Int × Int) (s : Int) : Int × Int := if p.2 + s < 0 ∨ docks < p.2 + s then (p.1 + 1, p.2) else (p.1, p.2 + s)
def stepsN (docks level : Int) (l : List Int) : Int × Int := l.foldl (stepN docks) (0, level)
def lostN (docks level : Int) (l : List Int) : Int := (stepsN docks level l).1
theorem stepsN_snoc (docks level : Int) (l : List Int) (s : Int) : stepsN docks level (l ++ [s]) = stepN docks (stepsN docks level l) s := by unfold stepsN; rw [List.foldl_append]; rfl
theorem stepsN_in (docks level : Int) (h0 : 0 ≤ level) (h1 : level ≤ docks) : ∀ n (l : List Int), l.length = n → 0 ≤ (stepsN docks level l).2 ∧ (stepsN docks level l).2 ≤ docks ∧ 0 ≤ (stepsN docks level l).1 ∧ (stepsN docks level l).1 ≤ n
  | 0, l, hl => by
    rw [List.eq_nil_of_length_eq_zero hl]
    exact ⟨h0, h1, Int.le_refl _, Int.le_refl _⟩
  | n + 1, l, hl => by
    obtain ⟨m, s, rfl⟩ : ∃ m s, l = m ++ [s] := ⟨l.dropLast, l.getLast (by intro e; rw [e] at hl; cases hl), (List.dropLast_concat_getLast _).symm⟩
    obtain ⟨a, b, c, d⟩ := stepsN_in docks level h0 h1 n m (by simp at hl; omega)
    rw [stepsN_snoc]
    unfold stepN
    split <;> dsimp only <;> omega
theorem lostN_in (docks level : Int) (h0 : 0 ≤ level) (h1 : level ≤ docks) (l : List Int) : 0 ≤ lostN docks level l ∧ lostN docks level l ≤ l.length := by
  have := stepsN_in docks level h0 h1 l.length l rfl
  exact ⟨this.2.2.1, this.2.2.2⟩
def isS (s : Int) : Prop := s = 1 ∨ s = -1
def okS (l : List Int) : Prop := (∀ s ∈ l, isS s) ∧ l.length ≤ 64
/-! ### costs -/
def costN (docks : Int) (cases : List (List Int)) (level : Int) : Int := (cases.map (lostN docks level)).foldl (· + ·) 0
theorem costN_snoc (docks : Int) (cases : List (List Int)) (x : List Int) (level : Int) : costN docks (cases ++ [x]) level = costN docks cases level + lostN docks level x := by unfold costN; rw [List.map_append, List.foldl_append]; rfl
theorem costN_in (docks level : Int) (h0 : 0 ≤ level) (h1 : level ≤ docks) : ∀ n (cases : List (List Int)), cases.length = n → (∀ x ∈ cases, x.length ≤ 64) → 0 ≤ costN docks cases level ∧ costN docks cases level ≤ 64 * (n : Int)
  | 0, l, hl, _ => by
    rw [List.eq_nil_of_length_eq_zero hl]
    exact ⟨Int.le_refl _, Int.le_refl _⟩
  | n + 1, l, hl, hx => by
    obtain ⟨m, s, rfl⟩ : ∃ m s, l = m ++ [s] := ⟨l.dropLast, l.getLast (by intro e; rw [e] at hl; cases hl), (List.dropLast_concat_getLast _).symm⟩
    have := costN_in docks level h0 h1 n m (by simp at hl; omega) (fun x hm => hx x (by simp [hm]))
    have h2 := lostN_in docks level h0 h1 s
    have h3 := hx s (by simp)
    rw [costN_snoc]
    omega
def costsL (docks : Nat) (cases : List (List Int)) : List Int := (List.range (docks + 1)).map (fun (v : Nat) => costN (docks : Int) cases (v : Int))
theorem costsL_len (docks : Nat) (cases : List (List Int)) : (costsL docks cases).length = docks + 1 := by unfold costsL; simp
theorem costsL_get (docks : Nat) (cases : List (List Int)) (v : Nat) (h : v < docks + 1) : (costsL docks cases).getD v 0 = costN (docks : Int) cases (v : Int) := by
  unfold costsL
  rw [List.getD_eq_getElem?_getD, List.getElem?_map, List.getElem?_range h]
  rfl
/-- The costs while a case is added, level by level. -/
def costsP (docks : Nat) (cases : List (List Int)) (x : List Int) (k : Nat) : List Int := (List.range (docks + 1)).map (fun (v : Nat) => if v < k then costN (docks : Int) (cases ++ [x]) (v : Int) else costN (docks : Int) cases (v : Int))
theorem costsP_zero (docks : Nat) (cases : List (List Int)) (x : List Int) : costsP docks cases x 0 = costsL docks cases := by
  unfold costsP costsL
  exact List.map_congr_left (fun v _ => if_neg (by omega))
theorem costsP_all (docks : Nat) (cases : List (List Int)) (x : List Int) : costsP docks cases x (docks + 1) = costsL docks (cases ++ [x]) := by
  unfold costsP costsL
  exact List.map_congr_left (fun v hv => if_pos (List.mem_range.1 hv))
theorem costsP_len (docks : Nat) (cases : List (List Int)) (x : List Int) (k : Nat) : (costsP docks cases x k).length = docks + 1 := by unfold costsP; simp
theorem costsP_get (docks : Nat) (cases : List (List Int)) (x : List Int) (k v : Nat) (h : v < docks + 1) : (costsP docks cases x k).getD v 0 = if v < k then costN (docks : Int) (cases ++ [x]) (v : Int) else costN (docks : Int) cases (v : Int) := by
  unfold costsP
  rw [List.getD_eq_getElem?_getD, List.getElem?_map, List.getElem?_range h]
  rfl
theorem costsP_set (docks : Nat) (cases : List (List Int)) (x : List Int) (k : Nat) (h : k < docks + 1) : (costsP docks cases x k).set k (costN (docks : Int) cases (k : Int) + lostN (docks : Int) (k : Int) x) = costsP docks cases x (k + 1) := by
  apply List.ext_getElem?
  intro i
  by_cases hi : i < docks + 1
  · have h1 : i < ((costsP docks cases x k).set k (costN (docks : Int) cases (k : Int) + lostN (docks : Int) (k : Int) x)).length := by rw [List.length_set, costsP_len]; exact hi
    have h2 : i < (costsP docks cases x (k + 1)).length := by rw [costsP_len]; exact hi
    have e2 := costsP_get docks cases x (k + 1) i hi
    have e1 := costsP_get docks cases x k i hi
    rw [List.getD_eq_getElem?_getD, List.getElem?_eq_getElem h2] at e2
    rw [List.getD_eq_getElem?_getD, List.getElem?_eq_getElem (by rw [costsP_len]; exact hi)] at e1
    rw [List.getElem?_eq_getElem h1, List.getElem?_eq_getElem h2, List.getElem_set]
    simp only [Option.getD_some] at e1 e2
    rw [e2]
    by_cases hk : k = i
    · rw [if_pos hk, if_pos (by omega), costN_snoc, ← hk]
    · rw [if_neg hk, e1]
      by_cases hik : i < k
      · rw [if_pos hik, if_pos (by omega)]
      · rw [if_neg hik, if_neg (by omega)]
  · rw [List.getElem?_eq_none (by rw [List.length_set, costsP_len]; omega), List.getElem?_eq_none (by rw [costsP_len]; omega)]
/-! ### the best level -/
def bestN (c : List Int) : Nat → Nat
  | 0 => 0
  | k + 1 => if c.getD k 0 < c.getD (bestN c k) 0 then k else bestN c k
theorem bestN_props (c : List Int) : ∀ k, (0 < k → bestN c k < k) ∧ (k = 0 → bestN c k = 0) ∧ (∀ i, i < k → c.getD (bestN c k) 0 ≤ c.getD i 0) ∧ (∀ i, i < bestN c k → c.getD (bestN c k) 0 < c.getD i 0)
  | 0 => ⟨fun h => absurd h (by omega), fun _ => rfl, fun i hi => absurd hi (by omega), fun i hi => absurd hi (by unfold bestN; omega)⟩
  | k + 1 => by
    obtain ⟨h1, h2, h3, h4⟩ := bestN_props c k
    have hu : bestN c (k + 1) = if c.getD k 0 < c.getD (bestN c k) 0 then k else bestN c k := rfl
    by_cases e : c.getD k 0 < c.getD (bestN c k) 0
    · rw [if_pos e] at hu
      rw [hu]
      refine ⟨fun _ => by omega, fun h => absurd h (by omega), fun i hi => ?_, fun i hi => ?_⟩
      · by_cases hik : i = k
        · rw [hik]; exact Int.le_refl _
        · have := h3 i (by omega); omega
      · have := h3 i hi; omega
    · rw [if_neg e] at hu
      rw [hu]
      refine ⟨fun _ => ?_, fun h => absurd h (by omega), fun i hi => ?_, h4⟩
      · by_cases hk : 0 < k
        · have := h1 hk; omega
        · have := h2 (by omega); omega
      · by_cases hik : i = k
        · rw [hik]; omega
        · exact h3 i (by omega)
theorem bestN_lt (c : List Int) (k : Nat) (hk : 0 < k) : bestN c k < k := (bestN_props c k).1 hk
end Go.Proofs.Ytjfakdbgcinpcaa
