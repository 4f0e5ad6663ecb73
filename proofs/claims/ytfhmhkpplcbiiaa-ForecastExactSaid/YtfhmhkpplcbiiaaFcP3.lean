/-
  FORECAST, THE PLAIN LAW, MORE: means, exact numbers, growth. No program in sight.
-/
import Derived.Test.YtfhmhkpplcbiiaaFcP2
import Derived.Test.YtfhmhkpplcbiiaaFc9
namespace Go.Proofs.Ytfhmhkpplcbiiaa
open Go.RowKit
set_option linter.unusedVariables false

/-! ### how many bicycles are taken -/
theorem ltN_set (a v : Int) : ∀ (L : List Int) (i : Nat), i < L.length → ltN a (L.set i v) = ltN a L - (if L.getD i 0 < a then 1 else 0) + (if v < a then 1 else 0)
  | [], i, h => absurd h (by simp)
  | p :: L, 0, _ => by rw [List.set_cons_zero, ltN, ltN, List.getD_cons_zero]; omega
  | p :: L, i + 1, h => by
    rw [List.set_cons_succ, ltN, ltN, List.getD_cons_succ, ltN_set a v L i (by simpa using h)]
    omega
theorem ltN_swp (a : Int) (L : List Int) (i j : Nat) (hi : i < L.length) (hj : j < L.length) : ltN a (swp L i j) = ltN a L := by
  unfold swp
  have hg : (L.set i (L.getD j 0)).getD j 0 = L.getD j 0 := by
    by_cases h : i = j
    · subst h
      simp [List.getD, hi]
    · simp only [List.getD]
      rw [List.getElem?_set_ne h]
  rw [ltN_set _ _ _ j (by rw [List.length_set]; exact hj), hg, ltN_set _ _ _ i hi]
  omega
theorem ltN_iota (a : Int) (h0 : 0 ≤ a) : ∀ m : Nat, a ≤ m → ltN a (iota m) = a
  | 0, h => by unfold iota; simp [ltN]; omega
  | m + 1, h => by
    have e : iota (m + 1) = iota m ++ [(m : Int)] := by unfold iota; rw [List.range_succ, List.map_append]; rfl
    rw [e, ltN_append]
    by_cases hm : a ≤ m
    · rw [ltN_iota a h0 m hm]
      simp only [ltN]
      rw [if_neg (by omega)]
      omega
    · have ha : a = ((m + 1 : Nat) : Int) := by omega
      have hall : ∀ l : List Int, (∀ x ∈ l, x < a) → ltN a l = l.length := by
        intro l
        induction l with
        | nil => intro _; rfl
        | cons x l ih =>
          intro hx
          rw [ltN, if_pos (hx x (by simp)), ih (fun y hy => hx y (by simp [hy])), List.length_cons]
          omega
      rw [hall (iota m) (fun x hx => by unfold iota at hx; obtain ⟨y, hy, rfl⟩ := List.mem_map.1 hx; have := List.mem_range.1 hy; omega), iota_len]
      simp only [ltN]
      rw [if_pos (by omega)]
      omega
theorem shuf_ltN (a : Int) : ∀ (i : Nat) (ws : List (BitVec 64)) (l L : List Int) (m : Nat), i < m ∨ i = 0 → l.length = m → shuf i ws l = (L, 0) → ltN a L = ltN a l
  | 0, ws, l, L, m, _, hl, h => by rw [shuf] at h; cases h; rfl
  | i + 1, ws, l, L, m, hi, hl, h => by
    obtain ⟨⟨x, u, e⟩, hb⟩ : ∃ r, below ws ((i : Int) + 2) = r := ⟨_, rfl⟩
    obtain ⟨b1, b2⟩ := below_props hb
    by_cases he : e = 0
    · subst he
      rw [shuf_ok hb] at h
      have := b1 rfl
      rw [shuf_ltN a i _ _ L m (by omega) (by rw [swp_length]; exact hl) h, ltN_swp a l _ _ (by omega) (by omega)]
    · rw [shuf_err hb he] at h
      cases h
      exact absurd rfl he
theorem shuffle_ltN {a n : Int} {ws : List (BitVec 64)} {L : List Int} (h : shuffle ws n = (L, 0)) (h0 : 0 ≤ a) (h1 : a ≤ n) : ltN a L = a := by
  unfold shuffle at h
  split at h
  · cases h
  · rw [shuf_ltN a _ _ _ L n.toNat (by omega) (iota_len _) h, ltN_iota a h0 _ (by omega)]

/-! ### what a scenario is -/
structure CaseOk (o i : Int) (L : List Int) (A B : Int) : Prop where
  a0 : 0 ≤ A
  b0 : 0 ≤ B
  ab : A + B ≤ 64
  o1 : o < 1000 * A + 1000
  o2 : 1000 * A < o + 1000
  i1 : i < 1000 * B + 1000
  i2 : 1000 * B < i + 1000
  st : ∃ P, L = stepsL A P ∧ (P.length : Int) = A + B ∧ ltN A P = A
theorem rnd_near {n : Int} (x : Int) (h0 : 0 ≤ n) (hx : 0 ≤ x) : 0 ≤ rnd n x ∧ n < 1000 * rnd n x + 1000 ∧ 1000 * rnd n x < n + 1000 := by unfold rnd; split <;> omega
theorem caseF_ok {o i : Int} {ws : List (BitVec 64)} {L : List Int} (ho : 0 ≤ o) (hi : 0 ≤ i) (h : caseF (o, i, 0) ws = (L, 0)) : ∃ A B, CaseOk o i L A B := by
  obtain ⟨⟨x, u, e1⟩, hx⟩ : ∃ r, below ws 1000 = r := ⟨_, rfl⟩
  by_cases he1 : e1 = 0
  · subst he1
    rw [caseF_2 hx] at h
    obtain ⟨⟨y, v, e2⟩, hy⟩ : ∃ r, below (ws.drop u.toNat) 1000 = r := ⟨_, rfl⟩
    by_cases he2 : e2 = 0
    · subst he2
      rw [case2_2 hy] at h
      have x0 := ((below_props hx).1 rfl).1
      have y0 := ((below_props hy).1 rfl).1
      obtain ⟨p1, p2, p3⟩ := rnd_near x ho x0
      obtain ⟨q1, q2, q3⟩ := rnd_near y hi y0
      by_cases hAB : 64 < rnd o x + rnd i y
      · rw [caseB_1 hAB] at h; cases h
      · obtain ⟨⟨P, e3⟩, hL⟩ : ∃ r, shuffle ((ws.drop u.toNat).drop v.toNat) (rnd o x + rnd i y) = r := ⟨_, rfl⟩
        rw [caseB_2 hAB hL] at h
        by_cases he3 : e3 = 0
        · subst he3
          rw [if_neg (fun h : (0 : Int) ≠ 0 => h rfl)] at h
          cases h
          have hlen := (shuffle_len hL).2.1 rfl
          exact ⟨rnd o x, rnd i y, p1, q1, by omega, p2, p3, q2, q3, P, rfl, hlen.1, shuffle_ltN hL p1 (by omega)⟩
        · rw [if_pos he3] at h; cases h
    · rw [case2_1 hy he2] at h; cases h
  · rw [caseF_1 hx he1] at h; cases h
theorem caseF_err {o i e f : Int} {ws : List (BitVec 64)} {L : List Int} (ho : 0 ≤ o) (hi : 0 ≤ i) (h : caseF (o, i, e) ws = (L, f)) (hf : f ≠ 0) : L = [] ∧ (e ≠ 0 → f = e) ∧ (e = 0 → f = 4 ∨ (f = 8 ∧ 63000 < o + i)) := by
  by_cases he : e = 0
  · subst he
    obtain ⟨⟨x, u, e1⟩, hx⟩ : ∃ r, below ws 1000 = r := ⟨_, rfl⟩
    by_cases he1 : e1 = 0
    · subst he1
      rw [caseF_2 hx] at h
      obtain ⟨⟨y, v, e2⟩, hy⟩ : ∃ r, below (ws.drop u.toNat) 1000 = r := ⟨_, rfl⟩
      by_cases he2 : e2 = 0
      · subst he2
        rw [case2_2 hy] at h
        have x0 := ((below_props hx).1 rfl).1
        have y0 := ((below_props hy).1 rfl).1
        obtain ⟨p1, p2, p3⟩ := rnd_near x ho x0
        obtain ⟨q1, q2, q3⟩ := rnd_near y hi y0
        by_cases hAB : 64 < rnd o x + rnd i y
        · rw [caseB_1 hAB] at h; cases h
          exact ⟨rfl, fun h => absurd rfl h, fun _ => .inr ⟨rfl, by omega⟩⟩
        · obtain ⟨⟨P, e3⟩, hL⟩ : ∃ r, shuffle ((ws.drop u.toNat).drop v.toNat) (rnd o x + rnd i y) = r := ⟨_, rfl⟩
          rw [caseB_2 hAB hL] at h
          by_cases he3 : e3 = 0
          · subst he3
            rw [if_neg (fun h : (0 : Int) ≠ 0 => h rfl)] at h
            cases h
            exact absurd rfl hf
          · rw [if_pos he3] at h; cases h
            exact ⟨rfl, fun h => absurd rfl h, fun _ => .inl rfl⟩
      · rw [case2_1 hy he2] at h; cases h
        exact ⟨rfl, fun h => absurd rfl h, fun _ => .inl rfl⟩
    · rw [caseF_1 hx he1] at h; cases h
      exact ⟨rfl, fun h => absurd rfl h, fun _ => .inl rfl⟩
  · rw [caseF_e he] at h; cases h
    exact ⟨rfl, fun _ => rfl, fun h => absurd h he⟩
theorem caseF_zero {o i e : Int} {ws : List (BitVec 64)} {L : List Int} (h : caseF (o, i, e) ws = (L, 0)) : e = 0 := by
  by_cases he : e = 0
  · exact he
  · rw [caseF_e he] at h; cases h; exact absurd rfl he
/-- Further words change nothing. -/
theorem caseF_more {r : Int × Int × Int} {ws : List (BitVec 64)} {L : List Int} (zs : List (BitVec 64)) (h : caseF r ws = (L, 0)) : caseF r (ws ++ zs) = (L, 0) := by
  obtain ⟨o, i, e⟩ := r
  obtain rfl := caseF_zero h
  obtain ⟨⟨x, u, e1⟩, hx⟩ : ∃ r, below ws 1000 = r := ⟨_, rfl⟩
  by_cases he1 : e1 = 0
  · subst he1
    rw [caseF_2 hx] at h
    have hu := ((below_props hx).1 rfl).2.2
    rw [caseF_2 (below_more zs ws hx), List.drop_append_of_le_length (by omega)]
    obtain ⟨⟨y, v, e2⟩, hy⟩ : ∃ r, below (ws.drop u.toNat) 1000 = r := ⟨_, rfl⟩
    by_cases he2 : e2 = 0
    · subst he2
      rw [case2_2 hy] at h
      have hv := ((below_props hy).1 rfl).2.2
      rw [case2_2 (below_more zs _ hy), List.drop_append_of_le_length (by omega)]
      by_cases hAB : 64 < rnd o x + rnd i y
      · rw [caseB_1 hAB] at h; cases h
      · obtain ⟨⟨P, e3⟩, hL⟩ : ∃ r, shuffle ((ws.drop u.toNat).drop v.toNat) (rnd o x + rnd i y) = r := ⟨_, rfl⟩
        rw [caseB_2 hAB hL] at h
        by_cases he3 : e3 = 0
        · subst he3
          rw [caseB_2 hAB (shuffle_more zs hL)]
          exact h
        · rw [if_pos he3] at h; cases h
    · rw [case2_1 hy he2] at h; cases h
  · rw [caseF_1 hx he1] at h; cases h

/-! ### adjacent hours -/
theorem plc_add (s sl : Int) (j t : Nat) (h0 : 0 ≤ sl) : plc s ((sl + j) % 168) t = plc s sl (j + t) := by
  unfold plc
  have e : ((sl + (j : Int)) % 168 + (t : Int)) % 168 = (sl + ((j + t : Nat) : Int)) % 168 := by omega
  rw [e]
theorem expS_add (l : List Int) (k p s sl : Int) (h0 : 0 ≤ sl) (j : Nat) : ∀ t : Nat, expS l k p s sl (j + t) = expS l k p s sl j + expS l k p s ((sl + j) % 168) t
  | 0 => by rw [Nat.add_zero, expS]; omega
  | t + 1 => by
    rw [show j + (t + 1) = (j + t) + 1 from by omega, expS, expS, expS_add l k p s sl h0 j t, plc_add s sl j t h0]
    omega
theorem expc_ok {st k p s sl h o i : Int} {xs ys : List Int} (hr : expc st xs ys k p s sl h = (o, i, 0)) :
    okC st xs ys = 0 ∧ ¬ (s < 0 ∨ st ≤ s) ∧ ¬ (¬ okR k p ∨ sl < 0 ∨ 168 ≤ sl ∨ h < 0 ∨ 168 < h) ∧ o = expS xs k p s sl h.toNat ∧ i = expS ys k p s sl h.toNat := by
  unfold expc at hr
  split at hr
  · rename_i hc; simp at hr; exact absurd hr.2.2 hc
  · rename_i hc
    split at hr
    · simp at hr
    · rename_i hs
      split at hr
      · simp at hr
      · rename_i hq
        simp at hr
        exact ⟨Decidable.not_not.mp hc, hs, hq, hr.1.symm, hr.2.symm⟩
theorem expc_mk {st k p s sl h : Int} {xs ys : List Int} (h1 : okC st xs ys = 0) (h2 : ¬ (s < 0 ∨ st ≤ s)) (h3 : ¬ (¬ okR k p ∨ sl < 0 ∨ 168 ≤ sl ∨ h < 0 ∨ 168 < h)) : expc st xs ys k p s sl h = (expS xs k p s sl h.toNat, expS ys k p s sl h.toNat, 0) := by
  unfold expc
  rw [if_neg (fun g => g h1), if_neg h2, if_neg h3]
/-- The first hours, and the rest. -/
theorem expc_parts {st k p s sl h o i part : Int} {xs ys : List Int} (hr : expc st xs ys k p s sl h = (o, i, 0)) (p0 : 0 ≤ part) (p1 : part ≤ h) :
    ∃ o1 i1 o2 i2, expc st xs ys k p s sl part = (o1, i1, 0) ∧ expc st xs ys k p s ((sl + part) % 168) (h - part) = (o2, i2, 0) ∧ o1 + o2 = o ∧ i1 + i2 = i := by
  obtain ⟨h1, h2, h3, rfl, rfl⟩ := expc_ok hr
  have hk : okR k p := Decidable.not_not.mp (fun g => h3 (.inl g))
  have hsl : ¬ (sl < 0 ∨ 168 ≤ sl ∨ h < 0 ∨ 168 < h) := fun g => h3 (.inr g)
  refine ⟨_, _, _, _, expc_mk h1 h2 (fun g => ?_), expc_mk h1 h2 (fun g => ?_), ?_, ?_⟩
  · rcases g with g | g
    · exact g hk
    · omega
  · rcases g with g | g
    · exact g hk
    · omega
  · have := expS_add xs k p s sl (by omega) part.toNat (h - part).toNat
    rw [show part.toNat + (h - part).toNat = h.toNat from by omega, show ((part.toNat : Nat) : Int) = part from by omega] at this
    exact this.symm
  · have := expS_add ys k p s sl (by omega) part.toNat (h - part).toNat
    rw [show part.toNat + (h - part).toNat = h.toNat from by omega, show ((part.toNat : Nat) : Int) = part from by omega] at this
    exact this.symm
theorem expc_none {st k p s sl o i : Int} {xs ys : List Int} (hr : expc st xs ys k p s sl 0 = (o, i, 0)) : o = 0 ∧ i = 0 := by
  obtain ⟨_, _, _, rfl, rfl⟩ := expc_ok hr
  exact ⟨rfl, rfl⟩

/-! ### over all first words -/
theorem kb1000 : 2 ^ kb 1000 = 1024 := by decide +kernel
theorem below_first (w : Nat) (hw : w < 1000) (zs : List (BitVec 64)) : below (BitVec.ofNat 64 w :: zs) 1000 = ((w : Int), 1, 0) := by
  unfold below
  rw [if_neg (by omega), kb1000, show (1000 : Int).toNat = 1000 from rfl]
  have e : (BitVec.ofNat 64 w).toNat % 1024 = w := by rw [BitVec.toNat_ofNat]; omega
  rw [bl_hit (by rw [e]; exact hw), e]
  rfl
theorem below_zero (n : Int) (h1 : 1 ≤ n) (h2 : n ≤ 1000000) (zs : List (BitVec 64)) : below (0#64 :: zs) n = (0, 1, 0) := by
  unfold below
  rw [if_neg (by omega)]
  have e : (0#64).toNat % 2 ^ kb n = 0 := by simp
  rw [bl_hit (by rw [e]; omega), e]
  rfl
theorem shuf_zero : ∀ (i M : Nat) (l : List Int), i ≤ M → i ≤ 1000 → ∃ L, shuf i (List.replicate M (0#64)) l = (L, 0)
  | 0, M, l, _, _ => ⟨l, by rw [shuf]⟩
  | i + 1, M, l, h, h2 => by
    obtain ⟨M, rfl⟩ : ∃ m, M = m + 1 := ⟨M - 1, by omega⟩
    have hb := below_zero ((i : Int) + 2) (by omega) (by omega) (List.replicate M (0#64))
    rw [List.replicate_succ]
    rw [shuf_ok hb]
    exact shuf_zero i M _ (by omega) (by omega)
theorem shuffle_zero (n : Int) (M : Nat) (h0 : 0 ≤ n) (h1 : n ≤ 256) (h2 : n ≤ M) : ∃ L, shuffle (List.replicate M (0#64)) n = (L, 0) := by
  unfold shuffle
  rw [if_neg (by omega)]
  exact shuf_zero _ _ _ (by omega) (by omega)
/-- The words of number w. -/
def firstW (w : Nat) : List (BitVec 64) := BitVec.ofNat 64 w :: List.replicate 49 (0#64)
theorem case_first {o i : Int} (w : Nat) (hw : w < 1000) (ho : 0 ≤ o) (ho2 : o ≤ 20000) (hi : 0 ≤ i) (hi2 : i ≤ 20000) :
    ∃ P, caseF (o, i, 0) (firstW w) = (stepsL (rnd o w) P, 0) ∧ (P.length : Int) = rnd o w + (i + 999) / 1000 ∧ ltN (rnd o w) P = rnd o w := by
  have hA : 0 ≤ rnd o w ∧ rnd o w ≤ 20 := by unfold rnd; split <;> omega
  have hB : rnd i 0 = (i + 999) / 1000 := by unfold rnd; split <;> omega
  have hB2 : 0 ≤ rnd i 0 ∧ rnd i 0 ≤ 20 := by rw [hB]; omega
  unfold firstW
  rw [caseF_2 (below_first w hw _), show (1 : Int).toNat = 1 from rfl, List.drop_one, List.tail_cons, show List.replicate 49 (0#64) = 0#64 :: List.replicate 48 (0#64) from rfl,
    case2_2 (below_zero 1000 (by omega) (by omega) _), show (1 : Int).toNat = 1 from rfl, List.drop_one, List.tail_cons]
  obtain ⟨P, hP⟩ := shuffle_zero (rnd o w + rnd i 0) 48 (by omega) (by omega) (by omega)
  rw [caseB_2 (by omega) hP, if_neg (fun h : (0 : Int) ≠ 0 => h rfl)]
  have hlen := (shuffle_len hP).2.1 rfl
  exact ⟨P, rfl, by rw [hlen.1, hB], shuffle_ltN hP hA.1 (by omega)⟩
def sumR (o : Int) : Nat → Int
  | 0 => 0
  | w + 1 => sumR o w + rnd o w
theorem sumR_eq (o : Int) (ho : 0 ≤ o) : ∀ W : Nat, sumR o W = W * (o / 1000) + min (W : Int) (o % 1000)
  | 0 => by rw [sumR]; omega
  | W + 1 => by
    rw [sumR, sumR_eq o ho W, show ((W + 1 : Nat) : Int) * (o / 1000) = (W : Int) * (o / 1000) + o / 1000 from by rw [show ((W + 1 : Nat) : Int) = (W : Int) + 1 from by omega, Int.add_mul, Int.one_mul]]
    generalize (W : Int) * (o / 1000) = T
    unfold rnd
    split <;> omega
theorem sumR_all (o : Int) (ho : 0 ≤ o) : sumR o 1000 = o := by
  rw [sumR_eq o ho 1000]
  omega
theorem sumR_bounds (o : Int) (ho : 0 ≤ o) (ho2 : o ≤ 20000) : ∀ W : Nat, 0 ≤ sumR o W ∧ sumR o W ≤ 20 * W
  | 0 => by rw [sumR]; omega
  | W + 1 => by
    have ih := sumR_bounds o ho ho2 W
    have hA : 0 ≤ rnd o W ∧ rnd o W ≤ 20 := by unfold rnd; split <;> omega
    rw [sumR]
    omega

/-! ### growth -/
theorem rq_mono_c {c c' k p : Int} (h : c ≤ c') (hk : 0 ≤ k) : rq c k p ≤ rq c' k p := by
  unfold rq
  exact Int.ediv_le_ediv (by omega) (by omega)
theorem rq_mono_p {c k p p' : Int} (h : p ≤ p') (hk : 0 ≤ k) : rq c k p ≤ rq c k p' := by
  unfold rq
  exact Int.ediv_le_ediv (by omega) (by omega)
theorem rq_mono_k {c k k' p : Int} (h : k ≤ k') (hk : 0 ≤ k) (hc : 0 ≤ c) (hp : 0 ≤ p) : rq c k' p ≤ rq c k p := by
  unfold rq
  refine Int.le_ediv_of_mul_le (by omega) ?_
  have h1 : (1000 * c + p) / (k' + 1) * (k' + 1) ≤ 1000 * c + p := Int.ediv_mul_le _ (by omega)
  have h2 : 0 ≤ (1000 * c + p) / (k' + 1) := Int.ediv_nonneg (by omega) (by omega)
  have h3 : (1000 * c + p) / (k' + 1) * (k + 1) ≤ (1000 * c + p) / (k' + 1) * (k' + 1) := Int.mul_le_mul_of_nonneg_left (by omega) h2
  omega
end Go.Proofs.Ytfhmhkpplcbiiaa
