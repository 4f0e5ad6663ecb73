/-
  DRAW, THE PLAIN LAW, MORE: what Below depends on. No program in sight.
-/
import Derived.Test.YtfhmhkpplcbiiaaDraw5
namespace Go.Proofs.Ytfhmhkpplcbiiaa
open Go.RowKit
set_option linter.unusedVariables false

theorem bl_spec (p n : Nat) : ∀ (ws : List (BitVec 64)) (i : Nat) (x u : Int), bl p n ws i = (x, u, 0) →
    ∃ j, j < ws.length ∧ u = ((i + j + 1 : Nat) : Int) ∧ x = (((ws.getD j 0).toNat % p : Nat) : Int) ∧ (ws.getD j 0).toNat % p < n ∧ ∀ t, t < j → ¬ (ws.getD t 0).toNat % p < n
  | [], i, x, u, h => by rw [bl] at h; cases h
  | a :: ws, i, x, u, h => by
    by_cases hc : a.toNat % p < n
    · rw [bl_hit hc] at h
      cases h
      exact ⟨0, by simp, rfl, rfl, hc, fun t ht => absurd ht (by omega)⟩
    · rw [bl_miss hc] at h
      obtain ⟨j, h1, h2, h3, h4, h5⟩ := bl_spec p n ws (i + 1) x u h
      refine ⟨j + 1, by simpa using h1, by rw [h2]; omega, by rw [List.getD_cons_succ]; exact h3, by rw [List.getD_cons_succ]; exact h4, fun t ht => ?_⟩
      cases t with
      | zero => exact hc
      | succ t => rw [List.getD_cons_succ]; exact h5 t (by omega)
theorem bl_at (p n : Nat) : ∀ (j : Nat) (os : List (BitVec 64)) (i : Nat), j < os.length → (∀ t, t < j → ¬ (os.getD t 0).toNat % p < n) → (os.getD j 0).toNat % p < n →
    bl p n os i = ((((os.getD j 0).toNat % p : Nat) : Int), ((i + j + 1 : Nat) : Int), 0)
  | _, [], i, h, _, _ => absurd h (by simp)
  | 0, a :: os, i, _, _, h => by rw [bl_hit (by simpa using h)]; rfl
  | j + 1, a :: os, i, h, h1, h2 => by
    rw [bl_miss (by simpa using h1 0 (by omega)), bl_at p n j os (i + 1) (by simpa using h) (fun t ht => by have := h1 (t + 1) (by omega); rwa [List.getD_cons_succ] at this) (by rwa [List.getD_cons_succ] at h2), List.getD_cons_succ]
    rw [show i + 1 + j + 1 = i + (j + 1) + 1 from by omega]
/-- The low bits of a, the high ones of m. -/
def mix (P : Nat) (m a : BitVec 64) : BitVec 64 := a % BitVec.ofNat 64 P + m / BitVec.ofNat 64 P * BitVec.ofNat 64 P
theorem mix_mod (k : Nat) (hk : k ≤ 50) (m a : BitVec 64) : (mix (2 ^ k) m a).toNat % 2 ^ k = a.toNat % 2 ^ k := by
  have hd : 2 ^ k ∣ 2 ^ 64 := Nat.pow_dvd_pow 2 (by omega)
  have hp : 2 ^ k < 2 ^ 64 := Nat.pow_lt_pow_right (by decide) (by omega)
  unfold mix
  rw [BitVec.toNat_add, BitVec.toNat_mul, BitVec.toNat_umod, BitVec.toNat_udiv, BitVec.toNat_ofNat, Nat.mod_eq_of_lt hp, Nat.mod_mod_of_dvd _ hd, Nat.add_mod, Nat.mod_mod_of_dvd _ hd, Nat.mul_mod_left, Nat.add_zero, Nat.mod_mod, Nat.mod_mod]
def mixL (P : Nat) (m : BitVec 64) (ws : List (BitVec 64)) : List (BitVec 64) := ws.map (mix P m)
theorem mixL_take (P : Nat) (m : BitVec 64) (ws : List (BitVec 64)) (i : Nat) (hi : i < ws.length) : mixL P m (ws.take (i + 1)) = mixL P m (ws.take i) ++ [mix P m (ws.getD i 0)] := by
  unfold mixL
  rw [List.take_add_one, List.map_append]
  congr 1
  simp [List.getD, hi]
theorem mixL_len (P : Nat) (m : BitVec 64) (ws : List (BitVec 64)) : (mixL P m ws).length = ws.length := by unfold mixL; simp
structure Fair (ws : List (BitVec 64)) (n : Int) (x u : Int) (j : Nat) : Prop where
  n0 : 1 ≤ n
  n1 : n ≤ 1125899906842624
  hj : j < ws.length
  hu : u = ((j + 1 : Nat) : Int)
  hx : x = (((ws.getD j 0).toNat % 2 ^ kb n : Nat) : Int)
  hit : (ws.getD j 0).toNat % 2 ^ kb n < n.toNat
  miss : ∀ t, t < j → ¬ (ws.getD t 0).toNat % 2 ^ kb n < n.toNat
theorem fair_of {ws : List (BitVec 64)} {n x u : Int} (h : below ws n = (x, u, 0)) : ∃ j, Fair ws n x u j := by
  unfold below at h
  split at h
  · cases h
  · rename_i hn
    obtain ⟨j, h1, h2, h3, h4, h5⟩ := bl_spec _ _ ws 0 x u h
    exact ⟨j, by omega, by omega, h1, by rw [h2, Nat.zero_add], h3, h4, h5⟩
theorem fair_own {ws : List (BitVec 64)} {n x u : Int} {j : Nat} (h : Fair ws n x u j) (m : BitVec 64) : below (mixL (2 ^ kb n) m (ws.take (j + 1)) ++ [m]) n = (x, u, 0) := by
  have hk := (kb_props n h.n0 h.n1).2.2
  have hj := h.hj
  have hget : ∀ t, t < j + 1 → ((mixL (2 ^ kb n) m (ws.take (j + 1)) ++ [m]).getD t 0).toNat % 2 ^ kb n = (ws.getD t 0).toNat % 2 ^ kb n := fun t ht => by
    have e : (mixL (2 ^ kb n) m (ws.take (j + 1)) ++ [m]).getD t 0 = mix (2 ^ kb n) m (ws.getD t 0) := by
      have hlen : t < (mixL (2 ^ kb n) m (ws.take (j + 1))).length := by rw [mixL_len, List.length_take]; omega
      simp only [List.getD]
      rw [List.getElem?_append_left hlen]
      unfold mixL
      rw [List.getElem?_map, List.getElem?_take_of_lt ht, List.getElem?_eq_getElem (by omega : t < ws.length)]
      rfl
    rw [e, mix_mod _ hk]
  unfold below
  rw [if_neg (by have := h.n0; have := h.n1; omega), bl_at _ _ j _ 0 (by rw [List.length_append, mixL_len, List.length_take]; simp; omega) (fun t ht => by rw [hget t (by omega)]; exact h.miss t ht) (by rw [hget j (by omega)]; exact h.hit), hget j (by omega), h.hx, h.hu, Nat.zero_add]
end Go.Proofs.Ytfhmhkpplcbiiaa
