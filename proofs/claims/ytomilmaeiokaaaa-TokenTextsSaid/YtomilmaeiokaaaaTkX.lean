/-
  TOKENS: the reference's text, bit by bit, is the text (plain numbers, no program). No condition.
-/
import Derived.Test.YtomilmaeiokaaaaTkB
namespace Go.Proofs.Ytomilmaeiokaaaa
open Go.RowKit
set_option linter.unusedVariables false

theorem snoc_ind {α : Type} {P : List α → Prop} (h0 : P []) (h1 : ∀ l c, P l → P (l ++ [c])) (l : List α) : P l := by
  have : ∀ m : List α, P m.reverse := by
    intro m
    induction m with
    | nil => exact h0
    | cons c m ih => rw [List.reverse_cons]; exact h1 _ _ ih
  have h := this l.reverse
  rw [List.reverse_reverse] at h
  exact h
/-- A bit of bytes, 0 behind their end. -/
def bitN (bs : List UInt8) (i : Nat) : Nat := if bs.length ≤ i / 8 then 0 else (bs.getD (i / 8) 0).toNat / 2 ^ (7 - i % 8) % 2
def grpK (bs : List UInt8) (at_ : Nat) : Nat → Nat
  | 0 => 0
  | k + 1 => 2 * grpK bs at_ k + bitN bs (at_ + k)
theorem n256_at (bs : List UInt8) : ∀ (a j : Nat), j < bs.length → n256 bs a / 256 ^ (bs.length - 1 - j) % 256 = (bs.getD j 0).toNat := by
  refine snoc_ind (P := fun bs => ∀ (a j : Nat), j < bs.length → n256 bs a / 256 ^ (bs.length - 1 - j) % 256 = (bs.getD j 0).toNat) ?_ ?_ bs
  · intro a j hj; simp at hj
  · intro bs c ih a j hj
    rw [n256_snoc]
    have hc := c.toNat_lt
    simp only [List.length_append, List.length_singleton] at hj ⊢
    by_cases h : j < bs.length
    · rw [show bs.length + 1 - 1 - j = (bs.length - 1 - j) + 1 from by omega, Nat.pow_succ, Nat.mul_comm (256 ^ _) 256, ← Nat.div_div_eq_div_mul, show (n256 bs a * 256 + c.toNat) / 256 = n256 bs a from by omega, ih a j h, List.getD_eq_getElem?_getD, List.getD_eq_getElem?_getD, List.getElem?_append_left h]
    · obtain rfl : j = bs.length := by omega
      rw [show bs.length + 1 - 1 - bs.length = 0 from by omega, Nat.pow_zero, Nat.div_one, List.getD_eq_getElem?_getD, List.getElem?_append_right (Nat.le_refl _)]
      first | (simp; done) | (simp; omega)
theorem n256_lt (bs : List UInt8) : n256 bs 0 < 2 ^ (8 * bs.length) := by
  refine snoc_ind (P := fun bs => n256 bs 0 < 2 ^ (8 * bs.length)) ?_ ?_ bs
  · simp [n256]
  · intro bs c ih
    rw [n256_snoc]
    have hc := c.toNat_lt
    simp only [List.length_append, List.length_singleton]
    rw [show 8 * (bs.length + 1) = 8 * bs.length + 8 from by omega, Nat.pow_add]
    omega
theorem p256 (k : Nat) : 256 ^ k = 2 ^ (8 * k) := by rw [Nat.pow_mul]
theorem p32 (k : Nat) : 32 ^ k = 2 ^ (5 * k) := by rw [Nat.pow_mul]
theorem div_mod2 (X e : Nat) (he : e ≤ 7) : X / 2 ^ e % 2 = X % 256 / 2 ^ e % 2 := by
  have h2 : (256 : Nat) = 2 ^ e * (2 * 2 ^ (7 - e)) := by rw [← Nat.pow_succ', ← Nat.pow_add, show e + (7 - e + 1) = 8 from by omega]
  have h3 : X = 2 ^ e * (2 * (2 ^ (7 - e) * (X / 256))) + X % 256 := by
    rw [← Nat.mul_assoc 2, ← Nat.mul_assoc (2 ^ e), ← h2]
    exact (Nat.div_add_mod X 256).symm
  obtain ⟨c, hc⟩ : ∃ c, X % 256 = c := ⟨_, rfl⟩
  obtain ⟨q, hq⟩ : ∃ q, X / 256 = q := ⟨_, rfl⟩
  rw [hc, hq] at h3
  rw [hc, h3, Nat.mul_add_div (Nat.pos_of_ne_zero (by simp))]
  generalize c / 2 ^ e = d
  generalize 2 ^ (7 - e) * q = m
  omega
theorem bit_num (bs : List UInt8) (i : Nat) (hi : i < 8 * bs.length) : bitN bs i = n256 bs 0 / 2 ^ (8 * bs.length - 1 - i) % 2 := by
  have hj : i / 8 < bs.length := by omega
  unfold bitN
  rw [if_neg (by omega), ← n256_at bs 0 (i / 8) hj, ← div_mod2 _ (7 - i % 8) (by omega), p256, Nat.div_div_eq_div_mul, ← Nat.pow_add, show 8 * (bs.length - 1 - i / 8) + (7 - i % 8) = 8 * bs.length - 1 - i from by omega]
theorem bit_pad (bs : List UInt8) (p i T : Nat) (hT : 8 * bs.length + p = T) (hi : i < T) : bitN bs i = n256 bs 0 * 2 ^ p / 2 ^ (T - 1 - i) % 2 := by
  subst hT
  by_cases h : i < 8 * bs.length
  · rw [bit_num bs i h, show 8 * bs.length + p - 1 - i = (8 * bs.length - 1 - i) + p from by omega, Nat.pow_add, Nat.mul_div_mul_right _ _ (Nat.pos_of_ne_zero (by simp))]
  · unfold bitN
    rw [if_pos (by omega)]
    obtain ⟨e, he⟩ : ∃ e, p = (8 * bs.length + p - 1 - i) + (e + 1) := ⟨p - 1 - (8 * bs.length + p - 1 - i), by omega⟩
    conv => rhs; rw [show 2 ^ p = 2 ^ (8 * bs.length + p - 1 - i) * 2 ^ (e + 1) from by rw [← Nat.pow_add, ← he]]
    rw [Nat.mul_left_comm, Nat.mul_div_cancel_left _ (Nat.pos_of_ne_zero (by simp)), Nat.pow_succ, ← Nat.mul_assoc, Nat.mul_mod_left]
theorem grpK_num (bs : List UInt8) (p T at_ : Nat) (hT : 8 * bs.length + p = T) : ∀ k, at_ + k ≤ T → grpK bs at_ k = n256 bs 0 * 2 ^ p / 2 ^ (T - at_ - k) % 2 ^ k
  | 0, _ => by simp [grpK, Nat.mod_one]
  | k + 1, hk => by
    show 2 * grpK bs at_ k + bitN bs (at_ + k) = _
    rw [grpK_num bs p T at_ hT k (by omega), bit_pad bs p (at_ + k) T hT (by omega), show T - 1 - (at_ + k) = T - at_ - (k + 1) from by omega, show T - at_ - k = T - at_ - (k + 1) + 1 from by omega, Nat.pow_succ, ← Nat.div_div_eq_div_mul]
    generalize n256 bs 0 * 2 ^ p / 2 ^ (T - at_ - (k + 1)) = X
    rw [Nat.pow_succ, Nat.mul_comm (2 ^ k) 2, Nat.mod_mul]
    omega
/-- The reference's text: so many groups. -/
def refTx (bs : List UInt8) (m : Nat) : List UInt8 := (List.range m).map (fun j => alpha (grpK bs (5 * j) 5))
theorem refTx_snoc (bs : List UInt8) (m : Nat) : refTx bs (m + 1) = refTx bs m ++ [alpha (grpK bs (5 * m) 5)] := by unfold refTx; rw [List.range_succ, List.map_append]; rfl
theorem refTx_len (bs : List UInt8) (m : Nat) : (refTx bs m).length = m := by simp [refTx]
theorem bitN_lt (bs : List UInt8) (i : Nat) : bitN bs i < 2 := by
  unfold bitN
  split
  · decide
  · exact Nat.mod_lt _ (by decide)
theorem grpK_lt (bs : List UInt8) (a : Nat) : ∀ k, grpK bs a k < 2 ^ k
  | 0 => by simp [grpK]
  | k + 1 => by
    have h1 := grpK_lt bs a k
    have h2 := bitN_lt bs (a + k)
    show 2 * grpK bs a k + bitN bs (a + k) < 2 ^ (k + 1)
    rw [Nat.pow_succ]
    omega
theorem refTx_num (bs : List UInt8) (p m : Nat) (hm : 8 * bs.length + p = 5 * m) : ∀ k, k ≤ m → n32 (refTx bs k) 0 = n256 bs 0 * 2 ^ p / 32 ^ (m - k)
  | 0, _ => by
    have h := n256_lt bs
    have : n256 bs 0 * 2 ^ p < 32 ^ m := by
      rw [p32, ← hm, Nat.pow_add]
      exact Nat.mul_lt_mul_of_pos_right h (Nat.pos_of_ne_zero (by simp))
    rw [Nat.sub_zero, Nat.div_eq_of_lt this]
    rfl
  | k + 1, hk => by
    rw [refTx_snoc, n32_snoc, refTx_num bs p m hm k (by omega), idxA_alpha _ (by have := grpK_lt bs (5 * k) 5; omega), grpK_num bs p (5 * m) (5 * k) hm 5 (by omega), show 5 * m - 5 * k - 5 = 5 * (m - (k + 1)) from by omega, ← p32, show m - k = m - (k + 1) + 1 from by omega, Nat.pow_succ, ← Nat.div_div_eq_div_mul]
    generalize n256 bs 0 * 2 ^ p / 32 ^ (m - (k + 1)) = X
    omega
theorem n32_inj : ∀ (xs ys : List UInt8) (a b : Nat), xs.length = ys.length → (∀ c ∈ xs, idxA c < 32) → (∀ c ∈ ys, idxA c < 32) → n32 xs a = n32 ys b → a = b ∧ xs = ys
  | [], [], a, b, _, _, _, h => ⟨h, rfl⟩
  | [], y :: ys, a, b, hl, _, _, _ => absurd hl (by simp)
  | x :: xs, [], a, b, hl, _, _, _ => absurd hl (by simp)
  | x :: xs, y :: ys, a, b, hl, hx, hy, h => by
    obtain ⟨h1, h2⟩ := n32_inj xs ys (a * 32 + idxA x) (b * 32 + idxA y) (by simpa using hl) (fun c hc => hx c (by simp [hc])) (fun c hc => hy c (by simp [hc])) h
    have h3 := hx x (by simp)
    have h4 := hy y (by simp)
    obtain ⟨h5, h6⟩ : a = b ∧ idxA x = idxA y := by omega
    exact ⟨h5, by rw [h2, ← alpha_at x h3, ← alpha_at y h4, h6]⟩
/-- The reference's text is the text. -/
theorem refTx_text (bs : List UInt8) (m : Nat) (h1 : 8 * bs.length ≤ 5 * m) (h2 : 5 * m < 8 * bs.length + 5) : refTx bs m = txtB bs := by
  obtain ⟨p, hp, hl, hn, ha⟩ := txtB_spec bs
  have hm : (txtB bs).length = m := by omega
  refine (n32_inj _ _ 0 0 (by rw [refTx_len, hm]) (fun c hc => ?_) ha ?_).2
  · obtain ⟨j, _, rfl⟩ := List.mem_map.1 hc
    have := grpK_lt bs (5 * j) 5
    rw [idxA_alpha _ (by omega)]
    omega
  · rw [refTx_num bs p m (by omega) m (Nat.le_refl _), hn, Nat.sub_self, Nat.pow_zero, Nat.div_one]
/-! ### the bits of a text -/
def tbit (cl : List UInt8) (t : Nat) : Nat := idxA (cl.getD (t / 5) 0) / 2 ^ (4 - t % 5) % 2
/-- A byte of the packed groups, so many bits laid. -/
def pkB (cl : List UInt8) : Nat → Nat → Nat
  | 0, _ => 0
  | t + 1, j => pkB cl t j + (if t / 8 = j then tbit cl t * 2 ^ (7 - t % 8) else 0)
theorem n32_at (cl : List UInt8) : ∀ (a j : Nat), (∀ c ∈ cl, idxA c < 32) → j < cl.length → n32 cl a / 32 ^ (cl.length - 1 - j) % 32 = idxA (cl.getD j 0) := by
  refine snoc_ind (P := fun cl => ∀ (a j : Nat), (∀ c ∈ cl, idxA c < 32) → j < cl.length → n32 cl a / 32 ^ (cl.length - 1 - j) % 32 = idxA (cl.getD j 0)) ?_ ?_ cl
  · intro a j _ hj; simp at hj
  · intro cl c ih a j ha hj
    rw [n32_snoc]
    have hc := ha c (by simp)
    simp only [List.length_append, List.length_singleton] at hj ⊢
    by_cases h : j < cl.length
    · rw [show cl.length + 1 - 1 - j = (cl.length - 1 - j) + 1 from by omega, Nat.pow_succ, Nat.mul_comm (32 ^ _) 32, ← Nat.div_div_eq_div_mul, show (n32 cl a * 32 + idxA c) / 32 = n32 cl a from by omega, ih a j (fun x hx => ha x (by simp [hx])) h, List.getD_eq_getElem?_getD, List.getD_eq_getElem?_getD, List.getElem?_append_left h]
    · obtain rfl : j = cl.length := by omega
      rw [show cl.length + 1 - 1 - cl.length = 0 from by omega, Nat.pow_zero, Nat.div_one, List.getD_eq_getElem?_getD, List.getElem?_append_right (Nat.le_refl _)]
      first | (simp; done) | (simp; omega)
theorem div_mod2b (X e : Nat) (he : e ≤ 4) : X / 2 ^ e % 2 = X % 32 / 2 ^ e % 2 := by
  have h2 : (32 : Nat) = 2 ^ e * (2 * 2 ^ (4 - e)) := by rw [← Nat.pow_succ', ← Nat.pow_add, show e + (4 - e + 1) = 5 from by omega]
  have h3 : X = 2 ^ e * (2 * (2 ^ (4 - e) * (X / 32))) + X % 32 := by
    rw [← Nat.mul_assoc 2, ← Nat.mul_assoc (2 ^ e), ← h2]
    exact (Nat.div_add_mod X 32).symm
  obtain ⟨c, hc⟩ : ∃ c, X % 32 = c := ⟨_, rfl⟩
  obtain ⟨q, hq⟩ : ∃ q, X / 32 = q := ⟨_, rfl⟩
  rw [hc, hq] at h3
  rw [hc, h3, Nat.mul_add_div (Nat.pos_of_ne_zero (by simp))]
  generalize c / 2 ^ e = d
  generalize 2 ^ (4 - e) * q = m
  omega
theorem tbit_num (cl : List UInt8) (ha : ∀ c ∈ cl, idxA c < 32) (t : Nat) (ht : t < 5 * cl.length) : tbit cl t = n32 cl 0 / 2 ^ (5 * cl.length - 1 - t) % 2 := by
  have hj : t / 5 < cl.length := by omega
  unfold tbit
  rw [← n32_at cl 0 (t / 5) ha hj, ← div_mod2b _ (4 - t % 5) (by omega), p32, Nat.div_div_eq_div_mul, ← Nat.pow_add, show 5 * (cl.length - 1 - t / 5) + (4 - t % 5) = 5 * cl.length - 1 - t from by omega]
theorem tbit_lt (cl : List UInt8) (t : Nat) : tbit cl t < 2 := Nat.mod_lt _ (by decide)
theorem pkB_zero (cl : List UInt8) (j : Nat) : ∀ t, t ≤ 8 * j → pkB cl t j = 0
  | 0, _ => rfl
  | t + 1, h => by
    rw [show pkB cl (t + 1) j = pkB cl t j + (if t / 8 = j then tbit cl t * 2 ^ (7 - t % 8) else 0) from rfl]
    rw [pkB_zero cl j t (by omega), if_neg (by omega)]
theorem pkB_in (cl : List UInt8) (ha : ∀ c ∈ cl, idxA c < 32) (j : Nat) : ∀ k, k ≤ 8 → 8 * j + k ≤ 5 * cl.length → pkB cl (8 * j + k) j = n32 cl 0 / 2 ^ (5 * cl.length - (8 * j + k)) % 2 ^ k * 2 ^ (8 - k)
  | 0, _, _ => by rw [pkB_zero cl j _ (by omega), Nat.pow_zero, Nat.mod_one, Nat.zero_mul]
  | k + 1, h1, h2 => by
    rw [show pkB cl (8 * j + (k + 1)) j = pkB cl (8 * j + k) j + (if (8 * j + k) / 8 = j then tbit cl (8 * j + k) * 2 ^ (7 - (8 * j + k) % 8) else 0) from rfl]
    rw [pkB_in cl ha j k (by omega) (by omega), if_pos (by omega), tbit_num cl ha (8 * j + k) (by omega), show 5 * cl.length - 1 - (8 * j + k) = 5 * cl.length - (8 * j + (k + 1)) from by omega, show 5 * cl.length - (8 * j + k) = 5 * cl.length - (8 * j + (k + 1)) + 1 from by omega, Nat.pow_succ, ← Nat.div_div_eq_div_mul, show 7 - (8 * j + k) % 8 = 7 - k from by omega, show 8 - k = (7 - k) + 1 from by omega, show 8 - (k + 1) = 7 - k from by omega]
    generalize n32 cl 0 / 2 ^ (5 * cl.length - (8 * j + (k + 1))) = X
    rw [Nat.pow_succ 2 k, Nat.mul_comm (2 ^ k) 2, Nat.mod_mul, Nat.pow_succ 2 (7 - k), Nat.add_mul]
    have : X / 2 % 2 ^ k * (2 ^ (7 - k) * 2) = 2 * (X / 2 % 2 ^ k) * 2 ^ (7 - k) := by rw [Nat.mul_comm (2 ^ (7 - k)) 2, ← Nat.mul_assoc, Nat.mul_comm _ 2]
    omega
theorem pkB_after (cl : List UInt8) (j : Nat) : ∀ k, pkB cl (8 * j + 8 + k) j = pkB cl (8 * j + 8) j
  | 0 => rfl
  | k + 1 => by
    rw [show pkB cl (8 * j + 8 + (k + 1)) j = pkB cl (8 * j + 8 + k) j + (if (8 * j + 8 + k) / 8 = j then tbit cl (8 * j + 8 + k) * 2 ^ (7 - (8 * j + 8 + k) % 8) else 0) from rfl]
    rw [pkB_after cl j k, if_neg (by omega), Nat.add_zero]
theorem pkB_lt (cl : List UInt8) (ha : ∀ c ∈ cl, idxA c < 32) (j t : Nat) (ht : t ≤ 5 * cl.length) : pkB cl t j < 256 := by
  by_cases h1 : t ≤ 8 * j
  · rw [pkB_zero cl j t h1]; decide
  · by_cases h2 : t ≤ 8 * j + 8
    · obtain ⟨k, rfl⟩ : ∃ k, t = 8 * j + k := ⟨t - 8 * j, by omega⟩
      rw [pkB_in cl ha j k (by omega) ht]
      have h3 := Nat.mod_lt (n32 cl 0 / 2 ^ (5 * cl.length - (8 * j + k))) (y := 2 ^ k) (Nat.pos_of_ne_zero (by simp))
      have h4 := Nat.mul_lt_mul_of_pos_right h3 (k := 2 ^ (8 - k)) (Nat.pos_of_ne_zero (by simp))
      rw [← Nat.pow_add, show k + (8 - k) = 8 from by omega] at h4
      exact h4
    · obtain ⟨k, rfl⟩ : ∃ k, t = 8 * j + 8 + k := ⟨t - 8 * j - 8, by omega⟩
      rw [pkB_after, pkB_in cl ha j 8 (Nat.le_refl _) (by omega)]
      have h3 := Nat.mod_lt (n32 cl 0 / 2 ^ (5 * cl.length - (8 * j + 8))) (y := 2 ^ 8) (by decide)
      simpa using h3
/-- The packed bytes, so many bits laid. -/
def pkL (cl : List UInt8) (n t : Nat) : List UInt8 := (List.range n).map (fun j => UInt8.ofNat (pkB cl t j))
theorem pkL_len (cl : List UInt8) (n t : Nat) : (pkL cl n t).length = n := by simp [pkL]
theorem pk_num (cl : List UInt8) (ha : ∀ c ∈ cl, idxA c < 32) (n r : Nat) (hr : 8 * n + r = 5 * cl.length) : ∀ k, k ≤ n → n256 ((List.range k).map (fun j => UInt8.ofNat (pkB cl (5 * cl.length) j))) 0 = n32 cl 0 / 2 ^ r / 256 ^ (n - k)
  | 0, _ => by
    have h : n32 cl 0 < 2 ^ (5 * cl.length) := by
      have key : ∀ l : List UInt8, (∀ c ∈ l, idxA c < 32) → n32 l 0 < 2 ^ (5 * l.length) := by
        refine fun l => snoc_ind (P := fun l => (∀ c ∈ l, idxA c < 32) → n32 l 0 < 2 ^ (5 * l.length)) ?_ ?_ l
        · intro _; simp [n32]
        · intro l c ih h
          have := ih (fun x hx => h x (by simp [hx]))
          have hc := h c (by simp)
          rw [n32_snoc]
          simp only [List.length_append, List.length_singleton]
          rw [show 5 * (l.length + 1) = 5 * l.length + 5 from by omega, Nat.pow_add]
          omega
      exact key cl ha
    rw [Nat.sub_zero, p256, Nat.div_div_eq_div_mul, ← Nat.pow_add, Nat.div_eq_of_lt (by rw [show r + 8 * n = 5 * cl.length from by omega]; exact h)]
    rfl
  | k + 1, hk => by
    have hb : pkB cl (5 * cl.length) k = n32 cl 0 / 2 ^ (5 * cl.length - (8 * k + 8)) % 256 := by
      obtain ⟨e, he⟩ : ∃ e, 5 * cl.length = 8 * k + 8 + e := ⟨5 * cl.length - (8 * k + 8), by omega⟩
      have h1 := pkB_after cl k e
      rw [← he] at h1
      rw [h1, pkB_in cl ha k 8 (Nat.le_refl _) (by omega)]
      simp
    rw [List.range_succ, List.map_append, List.map_cons, List.map_nil, n256_snoc, pk_num cl ha n r hr k (by omega), UInt8.toNat_ofNat', hb, show n - k = n - (k + 1) + 1 from by omega, Nat.pow_succ, ← Nat.div_div_eq_div_mul, show 5 * cl.length - (8 * k + 8) = r + 8 * (n - (k + 1)) from by omega, Nat.pow_add, ← Nat.div_div_eq_div_mul, ← p256]
    generalize n32 cl 0 / 2 ^ r / 256 ^ (n - (k + 1)) = X
    omega
/-- The packed bytes are the decoded ones. -/
theorem pkL_dec (cl : List UInt8) (ha : ∀ c ∈ cl, idxA c < 32) : pkL cl (5 * cl.length / 8) (5 * cl.length) = decB cl := by
  obtain ⟨r, H, hr, hH, hl, hn⟩ := decB_spec cl ha
  have hn8 : 5 * cl.length / 8 = (decB cl).length := by omega
  refine (n256_inj _ _ 0 0 (by rw [pkL_len, hn8]) ?_).2
  unfold pkL
  rw [pk_num cl ha (5 * cl.length / 8) r (by omega) _ (Nat.le_refl _), Nat.sub_self, Nat.pow_zero, Nat.div_one, ← hn]
  have hpos : 0 < 2 ^ r := Nat.pos_of_ne_zero (by simp)
  rw [Nat.mul_comm, Nat.mul_add_div hpos, Nat.div_eq_of_lt hH, Nat.add_zero]
end Go.Proofs.Ytomilmaeiokaaaa
