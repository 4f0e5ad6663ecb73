/-
  DRAW, THE PLAIN LAW, MORE: orders, exact picks. No program in sight.
-/
import Derived.Test.YtfhmhkpplcbiiaaDrawL0
namespace Go.Proofs.Ytfhmhkpplcbiiaa
open Go.RowKit
set_option linter.unusedVariables false

/-! ### each number occurs once -/
structure Good (L : List Int) (m : Nat) : Prop where
  len : L.length = m
  rng : ∀ j, j < m → 0 ≤ L.getD j 0 ∧ L.getD j 0 < m
  inj : ∀ i j, i < m → j < m → L.getD i 0 = L.getD j 0 → i = j
theorem swp_get (L : List Int) (i j p : Nat) (hi : i < L.length) (hj : j < L.length) : (swp L i j).getD p 0 = if p = j then L.getD i 0 else if p = i then L.getD j 0 else L.getD p 0 := by
  unfold swp
  simp only [List.getD]
  by_cases h1 : p = j
  · subst h1
    rw [if_pos rfl, List.getElem?_set_self (by simp; exact hj)]
    rfl
  · rw [if_neg h1, List.getElem?_set_ne (fun e => h1 e.symm)]
    by_cases h2 : p = i
    · subst h2
      rw [if_pos rfl, List.getElem?_set_self hi]
      rfl
    · rw [if_neg h2, List.getElem?_set_ne (fun e => h2 e.symm)]
theorem Good.swp {L : List Int} {m : Nat} (h : Good L m) {i j : Nat} (hi : i < m) (hj : j < m) : Good (swp L i j) m := by
  have hi' : i < L.length := by rw [h.len]; exact hi
  have hj' : j < L.length := by rw [h.len]; exact hj
  refine ⟨by rw [swp_length]; exact h.len, fun p hp => ?_, fun p q hp hq e => ?_⟩
  · rw [swp_get L i j p hi' hj']
    split
    · exact h.rng i hi
    · split
      · exact h.rng j hj
      · exact h.rng p hp
  · rw [swp_get L i j p hi' hj', swp_get L i j q hi' hj'] at e
    have key : ∀ a b, a < m → b < m → L.getD a 0 = L.getD b 0 → a = b := h.inj
    split at e
    · split at e
      · omega
      · split at e
        · have := key _ _ hi hj e; omega
        · have := key _ _ hi hq e; omega
    · split at e
      · split at e
        · have := key _ _ hj hi e; omega
        · split at e
          · omega
          · have := key _ _ hj hq e; omega
      · split at e
        · have := key _ _ hp hi e; omega
        · split at e
          · have := key _ _ hp hj e; omega
          · exact key _ _ hp hq e
theorem good_iota (m : Nat) : Good (iota m) m := by
  refine ⟨iota_len m, fun j hj => ?_, fun i j hi hj e => ?_⟩
  · rw [iota_get m j hj]; omega
  · rw [iota_get m i hi, iota_get m j hj] at e; omega
theorem shuf_good : ∀ (i : Nat) (ws : List (BitVec 64)) (l L : List Int) (m : Nat), i < m ∨ i = 0 → Good l m → shuf i ws l = (L, 0) → Good L m
  | 0, ws, l, L, m, _, hg, h => by rw [shuf] at h; cases h; exact hg
  | i + 1, ws, l, L, m, hi, hg, h => by
    obtain ⟨⟨x, u, e⟩, hb⟩ : ∃ r, below ws ((i : Int) + 2) = r := ⟨_, rfl⟩
    obtain ⟨b1, b2⟩ := below_props hb
    by_cases he : e = 0
    · subst he
      rw [shuf_ok hb] at h
      have := b1 rfl
      exact shuf_good i _ _ L m (by omega) (hg.swp (by omega) (by omega)) h
    · rw [shuf_err hb he] at h
      cases h
      exact absurd rfl he
theorem shuffle_good {ws : List (BitVec 64)} {n : Int} {L : List Int} (h : shuffle ws n = (L, 0)) : ∃ m : Nat, n = m ∧ m ≤ 256 ∧ Good L m := by
  unfold shuffle at h
  split at h
  · cases h
  · refine ⟨n.toNat, by omega, by omega, shuf_good _ _ _ L n.toNat ?_ (good_iota _) h⟩
    omega
theorem shuf_err4 : ∀ (i : Nat) (ws : List (BitVec 64)) (l L : List Int) (e : Int), i ≤ 300 → shuf i ws l = (L, e) → e ≠ 0 → e = 4
  | 0, ws, l, L, e, _, h, he => by rw [shuf] at h; cases h; exact absurd rfl he
  | i + 1, ws, l, L, e, hi, h, he => by
    obtain ⟨⟨x, u, e'⟩, hb⟩ : ∃ r, below ws ((i : Int) + 2) = r := ⟨_, rfl⟩
    obtain ⟨b1, b2⟩ := below_props hb
    by_cases he' : e' = 0
    · subst he'
      rw [shuf_ok hb] at h
      exact shuf_err4 i _ _ L e (by omega) h he
    · rw [shuf_err hb he'] at h
      cases h
      have := b2 he'
      omega
theorem shuffle_err {ws : List (BitVec 64)} {n e : Int} {L : List Int} (h : shuffle ws n = (L, e)) (he : e ≠ 0) : L = [] ∧ (e = 1 ↔ (n < 0 ∨ 256 < n)) := by
  refine ⟨(shuffle_len h).2.2 he, ?_⟩
  unfold shuffle at h
  split at h
  · rename_i hn
    cases h
    exact ⟨fun _ => hn, fun _ => rfl⟩
  · rename_i hn
    have := shuf_err4 _ _ _ _ _ (by omega) h he
    exact ⟨fun h1 => by omega, fun h1 => absurd h1 hn⟩

/-! ### further words change nothing -/
theorem bl_more (zs : List (BitVec 64)) (p n : Nat) : ∀ (ws : List (BitVec 64)) (i : Nat) (x u : Int), bl p n ws i = (x, u, 0) → bl p n (ws ++ zs) i = (x, u, 0)
  | [], i, x, u, h => by rw [bl] at h; cases h
  | a :: ws, i, x, u, h => by
    rw [List.cons_append, bl]
    rw [bl] at h
    split
    · rename_i hc; rw [if_pos hc] at h; exact h
    · rename_i hc; rw [if_neg hc] at h; exact bl_more zs p n ws (i + 1) x u h
theorem below_more (zs ws : List (BitVec 64)) {n x u : Int} (h : below ws n = (x, u, 0)) : below (ws ++ zs) n = (x, u, 0) := by
  unfold below at h ⊢
  split
  · rename_i hc; rw [if_pos hc] at h; cases h
  · rename_i hc; rw [if_neg hc] at h; exact bl_more zs _ _ ws 0 x u h
theorem shuf_more (zs : List (BitVec 64)) : ∀ (i : Nat) (ws : List (BitVec 64)) (l L : List Int), shuf i ws l = (L, 0) → shuf i (ws ++ zs) l = (L, 0)
  | 0, ws, l, L, h => by rw [shuf] at h ⊢; exact h
  | i + 1, ws, l, L, h => by
    obtain ⟨⟨x, u, e⟩, hb⟩ : ∃ r, below ws ((i : Int) + 2) = r := ⟨_, rfl⟩
    obtain ⟨b1, b2⟩ := below_props hb
    by_cases he : e = 0
    · subst he
      rw [shuf_ok hb] at h
      rw [shuf_ok (below_more zs ws hb), List.drop_append_of_le_length (by have := b1 rfl; omega)]
      exact shuf_more zs i _ _ L h
    · rw [shuf_err hb he] at h
      cases h
      exact absurd rfl he
theorem shuffle_more (zs : List (BitVec 64)) {ws : List (BitVec 64)} {n : Int} {L : List Int} (h : shuffle ws n = (L, 0)) : shuffle (ws ++ zs) n = (L, 0) := by
  unfold shuffle at h ⊢
  split
  · rename_i hc; rw [if_pos hc] at h; cases h
  · rename_i hc; rw [if_neg hc] at h; exact shuf_more zs _ ws _ L h

/-! ### each index is picked for as many numbers as its weight says -/
theorem pk_spec : ∀ (l : List Int) (x : Int), (∀ y ∈ l, 0 ≤ y) → 0 ≤ x → x < sumL l → pk l x < l.length ∧ sumL (l.take (pk l x)) ≤ x ∧ x < sumL (l.take (pk l x)) + l.getD (pk l x) 0
  | [], x, _, h0, h1 => by simp only [sumL] at h1; omega
  | w :: l, x, hp, h0, h1 => by
    by_cases h : x < w
    · rw [pk_hit h]
      exact ⟨by simp, by simp [sumL]; exact h0, by simp [sumL]; exact h⟩
    · rw [pk_miss h]
      simp only [sumL] at h1
      obtain ⟨a, b, c⟩ := pk_spec l (x - w) (fun y hy => hp y (by simp [hy])) (by omega) (by omega)
      refine ⟨by simp; exact a, ?_, ?_⟩
      · rw [List.take_succ_cons, sumL]; omega
      · rw [List.take_succ_cons, sumL, List.getD_cons_succ]; omega
theorem sumL_mono (l : List Int) (hp : ∀ y ∈ l, 0 ≤ y) : ∀ (d a : Nat), a + d ≤ l.length → sumL (l.take a) ≤ sumL (l.take (a + d)) := by
  intro d
  induction d with
  | zero => intro a _; exact Int.le_refl _
  | succ d ih =>
    intro a h
    have h1 := ih a (by omega)
    have h2 := sumL_take l (a + d) (by omega)
    have h3 : 0 ≤ l.getD (a + d) 0 := hp _ (by
      have : l.getD (a + d) 0 = l[a + d]'(by omega) := by simp [List.getD, show a + d < l.length by omega]
      rw [this]; exact List.getElem_mem _)
    rw [show a + (d + 1) = a + d + 1 from by omega]
    omega
/-- What index j has got when the numbers below x are placed. -/
def gotN (l : List Int) (x : Int) (j : Nat) : Int := max 0 (min (x - sumL (l.take j)) (l.getD j 0))
theorem gotN_zero (l : List Int) (hp : ∀ y ∈ l, 0 ≤ y) (j : Nat) (hj : j ≤ l.length) : gotN l 0 j = 0 := by
  have h := sumL_mono l hp j 0 (by omega)
  simp only [List.take_zero, sumL, Nat.zero_add] at h
  unfold gotN
  omega
theorem gotN_all (l : List Int) (hp : ∀ y ∈ l, 0 ≤ y) (j : Nat) (hj : j < l.length) : gotN l (sumL l) j = l.getD j 0 := by
  have h1 := sumL_take l j hj
  have h2 := sumL_mono l hp (l.length - (j + 1)) (j + 1) (by omega)
  rw [show j + 1 + (l.length - (j + 1)) = l.length from by omega, List.take_length] at h2
  have h3 : 0 ≤ l.getD j 0 := hp _ (by
    have : l.getD j 0 = l[j] := by simp [List.getD, hj]
    rw [this]; exact List.getElem_mem _)
  unfold gotN
  omega
theorem gotN_step (l : List Int) (hp : ∀ y ∈ l, 0 ≤ y) (x : Int) (h0 : 0 ≤ x) (h1 : x < sumL l) (j : Nat) (hj : j < l.length) : gotN l (x + 1) j = if j = pk l x then gotN l x j + 1 else gotN l x j := by
  obtain ⟨a, b, c⟩ := pk_spec l x hp h0 h1
  have hs := sumL_take l j hj
  split
  · rename_i e
    subst e
    unfold gotN
    omega
  · rename_i e
    rcases Nat.lt_or_ge j (pk l x) with hlt | hge
    · have h2 := sumL_mono l hp (pk l x - (j + 1)) (j + 1) (by omega)
      rw [show j + 1 + (pk l x - (j + 1)) = pk l x from by omega] at h2
      unfold gotN
      omega
    · have hs2 := sumL_take l (pk l x) a
      have h2 := sumL_mono l hp (j - (pk l x + 1)) (pk l x + 1) (by omega)
      rw [show pk l x + 1 + (j - (pk l x + 1)) = j from by omega] at h2
      unfold gotN
      omega
theorem pk_mono (l : List Int) (hp : ∀ y ∈ l, 0 ≤ y) (x : Int) (h0 : 0 ≤ x) (h1 : x + 1 < sumL l) : pk l x ≤ pk l (x + 1) := by
  obtain ⟨a, b, c⟩ := pk_spec l x hp h0 (by omega)
  obtain ⟨a', b', c'⟩ := pk_spec l (x + 1) hp (by omega) h1
  rcases Nat.lt_or_ge (pk l (x + 1)) (pk l x) with h | h
  · have hs2 := sumL_take l (pk l (x + 1)) a'
    have h2 := sumL_mono l hp (pk l x - (pk l (x + 1) + 1)) (pk l (x + 1) + 1) (by omega)
    rw [show pk l (x + 1) + 1 + (pk l x - (pk l (x + 1) + 1)) = pk l x from by omega] at h2
    omega
  · exact h
end Go.Proofs.Ytfhmhkpplcbiiaa
