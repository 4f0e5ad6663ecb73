/-
  WIRE, THE PLAIN LAW: what is encoded is decoded again, and in one form only. No program in sight.
-/
import Derived.Test.YtomilmaeiokaaaaWireP4
namespace Go.Proofs.Ytomilmaeiokaaaa
open Go.RowKit
set_option linter.unusedVariables false

theorem low7_toNat (x : UInt8) : (low7 x).toNat = x.toNat % 128 := by
  have hx := x.toNat_lt
  have h : ∀ n : Fin 256, n.val % 2 ^ 64 &&& (127#64).toNat = n.val % 128 := by decide +kernel
  rw [low7, BitVec.toNat_and, BitVec.toNat_setWidth]
  exact h ⟨x.toNat, hx⟩
theorem low7_parts (z : BitVec 64) : (z &&& 127#64) ||| ((z >>> 7) <<< 7) = z := by
  apply BitVec.eq_of_getLsbD_eq
  intro i hi
  rw [BitVec.getLsbD_or, BitVec.getLsbD_and, BitVec.getLsbD_shiftLeft, BitVec.getLsbD_ushiftRight]
  have h127 : ∀ j : Fin 64, (127#64).getLsbD j.val = decide (j.val < 7) := by decide
  have := h127 ⟨i, hi⟩
  simp only at this
  rw [this]
  by_cases h : i < 7
  · simp [h, hi]
  · simp [h, hi, show 7 + (i - 7) = i by omega]
theorem or_shl (acc a b : BitVec 64) (k : Nat) : acc ||| a <<< (7 * k) ||| b <<< (7 * (k + 1)) = acc ||| (a ||| b <<< 7) <<< (7 * k) := by
  rw [show 7 * (k + 1) = 7 + 7 * k from by omega, BitVec.shiftLeft_add, BitVec.shiftLeft_or_distrib, BitVec.or_assoc]
theorem pow_step (k : Nat) (hk : k ≤ 8) : 2 ^ (64 - 7 * k) = 128 * 2 ^ (64 - 7 * (k + 1)) := by
  rw [show 64 - 7 * k = 7 + (64 - 7 * (k + 1)) from by omega, Nat.pow_add]

theorem scan_enc : ∀ (N : Nat) (z : BitVec 64) (k : Nat) (acc : BitVec 64) (rest : List UInt8), z.toNat ≤ N → k ≤ 9 → z.toNat < 2 ^ (64 - 7 * k) → (0 < k → 0 < z.toNat) →
    scanI k acc (enc z ++ rest) = (0, acc ||| z <<< (7 * k), k + (enc z).length) := by
  intro N
  induction N using Nat.strongRecOn with
  | _ N ih =>
  intro z k acc rest hN hk hz hpos
  by_cases h : z.toNat < 128
  · rw [enc_lo z h]
    have hx : (UInt8.ofNat z.toNat).toNat = z.toNat := by rw [UInt8.toNat_ofNat']; omega
    have hl : low7 (UInt8.ofNat z.toNat) = z := by apply BitVec.eq_of_toNat_eq; rw [low7_toNat, hx]; omega
    rw [List.cons_append, scanI, if_neg (by omega), if_pos (by omega), if_neg]
    · show (0, acc ||| low7 (UInt8.ofNat z.toNat) <<< (7 * k), k + 1) = _
      rw [hl]; rfl
    · rintro (⟨h1, h2⟩ | ⟨h1, h2⟩)
      · have := hpos h1; omega
      · subst h1
        rw [hx] at h2
        simp at hz
        omega
  · have hk8 : k ≤ 8 := by
      rcases Nat.lt_or_ge k 9 with h9 | h9
      · omega
      · obtain rfl : k = 9 := by omega
        simp at hz; omega
    have hx : (UInt8.ofNat z.toNat ||| 128).toNat = 128 + z.toNat % 128 := by
      rw [← byte_more, UInt8.toNat_ofNat']
      omega
    have hl : low7 (UInt8.ofNat z.toNat ||| 128) = z &&& 127#64 := by
      apply BitVec.eq_of_toNat_eq
      have h2 : (z &&& 127#64).toNat = z.toNat % 128 := by
        rw [BitVec.toNat_and]
        exact Nat.and_two_pow_sub_one_eq_mod z.toNat 7
      rw [low7_toNat, hx, h2]; omega
    have hs := toNat_shr7 z
    have hp := pow_step k hk8
    rw [enc_hi z h, List.cons_append, scanI, if_neg (by omega), if_neg (by omega)]
    show scanI (k + 1) (acc ||| low7 (UInt8.ofNat z.toNat ||| 128) <<< (7 * k)) _ = _
    rw [hl, ih (z >>> 7).toNat (by omega) (z >>> 7) (k + 1) _ rest (Nat.le_refl _) (by omega) (by omega) (fun _ => by omega), or_shl, low7_parts, List.length_cons]
    congr 2; omega

theorem scan_ten_err (z : BitVec 64) (l : List UInt8) : (scanI 10 z l).1 = 3 := by
  cases l with
  | nil => rfl
  | cons x xs => rw [scanI, if_pos rfl]

theorem scan_dec : ∀ (l : List UInt8) (k : Nat) (acc z' : BitVec 64) (m : Nat), k ≤ 9 → scanI k acc l = (0, z', m) →
    ∃ z : BitVec 64, z' = acc ||| z <<< (7 * k) ∧ z.toNat < 2 ^ (64 - 7 * k) ∧ (0 < k → 0 < z.toNat) ∧ m = k + (enc z).length ∧ ∃ rest, l = enc z ++ rest := by
  intro l
  induction l with
  | nil => intro k acc z' m hk h; rw [scanI] at h; split at h <;> simp at h
  | cons x xs ih =>
    intro k acc z' m hk h
    have hx := x.toNat_lt
    rw [scanI, if_neg (by omega)] at h
    split at h
    · rename_i hlt
      split at h
      · simp at h
      · rename_i hbad
        have hz : (low7 x).toNat = x.toNat := by rw [low7_toNat]; omega
        have he : enc (low7 x) = [x] := by
          rw [enc_lo _ (by omega), hz]
          congr 1
          apply UInt8.toNat_inj.1
          rw [UInt8.toNat_ofNat']; omega
        simp only [Prod.mk.injEq, true_and] at h
        obtain ⟨h1, h2⟩ := h
        refine ⟨low7 x, h1.symm, ?_, fun h0 => ?_, by rw [he]; simp; omega, xs, by rw [he]; rfl⟩
        · rw [hz]
          rcases Nat.lt_or_ge k 9 with h9 | h9
          · have : 2 ^ 8 ≤ 2 ^ (64 - 7 * k) := Nat.pow_le_pow_right (by decide) (by omega)
            omega
          · obtain rfl : k = 9 := by omega
            have : ¬ 1 < x.toNat := fun h' => hbad (.inr ⟨rfl, h'⟩)
            show x.toNat < 2
            omega
        · rw [hz]
          have : ¬ x.toNat = 0 := fun h' => hbad (.inl ⟨h0, h'⟩)
          omega
    · rename_i hge
      rcases Nat.lt_or_ge k 9 with h9 | h9
      · obtain ⟨z1, e1, e2, e3, e4, rest, e5⟩ := ih (k + 1) _ z' m (by omega) h
        have e3' := e3 (by omega)
        have hp := pow_step k (by omega)
        have hpl : 2 ^ (64 - 7 * (k + 1)) ≤ 2 ^ 57 := Nat.pow_le_pow_right (by decide) (by omega)
        have hl := low7_toNat x
        have hsh : (z1 <<< 7).toNat = 128 * z1.toNat := by
          rw [BitVec.toNat_shiftLeft, Nat.shiftLeft_eq]; omega
        have hzn : (low7 x ||| z1 <<< 7).toNat = x.toNat % 128 + 128 * z1.toNat := by
          rw [← BitVec.add_eq_or_of_and_eq_zero _ _ (and_shl_zero (low7 x) z1 7 (by rw [hl]; omega)), BitVec.toNat_add, hl, hsh]; omega
        have hz7 : (low7 x ||| z1 <<< 7) >>> 7 = z1 := by
          apply BitVec.eq_of_toNat_eq; rw [toNat_shr7, hzn]; omega
        have he : enc (low7 x ||| z1 <<< 7) = x :: enc z1 := by
          rw [enc_hi _ (by omega), hz7]
          congr 1
          apply UInt8.toNat_inj.1
          rw [← byte_more, UInt8.toNat_ofNat', hzn]
          omega
        refine ⟨low7 x ||| z1 <<< 7, ?_, by omega, fun _ => by omega, by rw [he, e4]; simp; omega, rest, by rw [he, e5]; rfl⟩
        rw [e1]
        show acc ||| low7 x <<< (7 * k) ||| z1 <<< (7 * (k + 1)) = _
        exact or_shl acc (low7 x) z1 k
      · obtain rfl : k = 9 := by omega
        have := scan_ten_err (acc ||| (BitVec.setWidth 64 x.toBitVec &&& 127#64) <<< (7 * 9)) xs
        rw [h] at this
        simp at this

/-! ### numbers -/
theorem intRes_put (bs rest : List UInt8) (n : Int) (h1 : -9223372036854775808 ≤ n) (h2 : n ≤ 9223372036854775807) :
    intRes (bs ++ (putInt n ++ rest)) bs.length = (n, (bs.length : Int) + (putInt n).length, 0) := by
  have hs := scan_enc (zz n).toNat (zz n) 0 0 rest (Nat.le_refl _) (by omega) (by simpa using (zz n).isLt) (fun h => absurd h (Nat.lt_irrefl _))
  unfold intRes
  rw [if_neg (by simp only [List.length_append]; omega), Int.toNat_natCast, List.drop_left]
  show (if (scanI 0 0 (enc (zz n) ++ rest)).1 = 0 then _ else _) = _
  unfold putInt
  rw [hs, if_pos rfl]
  simp only [Nat.mul_zero, BitVec.shiftLeft_zero, Nat.zero_add]
  rw [show (0 : BitVec 64) ||| zz n = zz n from by simp, num_zz n h1 h2]

theorem intRes_dec {bs : List UInt8} {at_ n nx : Int} (h : intRes bs at_ = (n, nx, 0)) : ∃ pre rest, bs = pre ++ (putInt n ++ rest) ∧ at_ = (pre.length : Int) ∧ nx = (pre.length : Int) + (putInt n).length := by
  unfold intRes at h
  split at h
  · simp at h
  · rename_i hat
    split at h
    · rename_i h0
      obtain ⟨⟨c, z', m⟩, hr⟩ : ∃ r, scanI 0 0 (bs.drop at_.toNat) = r := ⟨_, rfl⟩
      rw [hr] at h h0
      simp only at h0
      subst h0
      simp only [Prod.mk.injEq, and_true] at h
      obtain ⟨rfl, rfl⟩ := h
      obtain ⟨z, e1, e2, e3, e4, rest, e5⟩ := scan_dec _ 0 0 z' m (by omega) hr
      have e1' : z' = z := by rw [e1]; simp
      subst e1'
      have hl : (bs.take at_.toNat).length = at_.toNat := by rw [List.length_take]; omega
      refine ⟨bs.take at_.toNat, rest, ?_, by omega, ?_⟩
      · rw [putInt, zz_num, ← e5, List.take_append_drop]
      · rw [putInt, zz_num, hl]; omega
    · rename_i h0
      simp only [Prod.mk.injEq] at h
      omega

/-! ### strings -/
theorem textRes_put (bs rest s : List UInt8) (hs : s.length < 1000000000000) : textRes (bs ++ (putText s ++ rest)) bs.length = (s, (bs.length : Int) + (putText s).length, 0) := by
  unfold textRes putText
  rw [List.append_assoc, intRes_put bs (s ++ rest) s.length (by omega) (by omega)]
  simp only [ne_eq, not_true_eq_false, if_false, List.length_append]
  rw [if_neg (by omega), if_neg (by omega)]
  have e : ((bs.length : Int) + ((putInt (s.length : Int)).length : Int)).toNat = (bs ++ putInt (s.length : Int)).length := by rw [List.length_append]; omega
  rw [e, ← List.append_assoc, List.drop_left, Int.toNat_natCast, List.take_left]
  simp only [Int.natCast_add, Int.add_assoc]

theorem textRes_dec {bs : List UInt8} {at_ nx : Int} {t : List UInt8} (h : textRes bs at_ = (t, nx, 0)) : ∃ pre rest, bs = pre ++ (putText t ++ rest) ∧ at_ = (pre.length : Int) ∧ nx = (pre.length : Int) + (putText t).length := by
  unfold textRes at h
  obtain ⟨⟨n, x, er⟩, hr⟩ : ∃ r, intRes bs at_ = r := ⟨_, rfl⟩
  rw [hr] at h
  simp only at h
  split at h
  · rename_i he; simp only [Prod.mk.injEq] at h; exact absurd h.2.2 he
  · rename_i he
    have he' : er = 0 := by simpa using he
    subst he'
    split at h
    · simp at h
    · rename_i hn
      split at h
      · simp at h
      · rename_i hfit
        simp only [Prod.mk.injEq, and_true] at h
        obtain ⟨rfl, rfl⟩ := h
        obtain ⟨pre, rest, e1, e2, e3⟩ := intRes_dec hr
        have hd : bs.drop x.toNat = rest := by
          rw [e1, show x.toNat = (pre ++ putInt n).length from by rw [List.length_append]; omega, ← List.append_assoc, List.drop_left]
        have hbl : bs.length = pre.length + ((putInt n).length + rest.length) := by rw [e1]; simp
        have ht : ((rest.take n.toNat).length : Int) = n := by rw [List.length_take]; omega
        rw [hd]
        refine ⟨pre, rest.drop n.toNat, ?_, e2, ?_⟩
        · rw [putText, ht, List.append_assoc, List.take_append_drop]; exact e1
        · rw [putText, List.length_append, ht]; omega

/-! ### lists -/
theorem intsGo_put : ∀ (l : List Int) (pre rest : List UInt8) (acc : List Int), I64s l → intsGo (pre ++ (l.flatMap putInt ++ rest)) l.length pre.length acc = (acc ++ l, (pre.length : Int) + (l.flatMap putInt).length, 0) := by
  intro l
  induction l with
  | nil => intro pre rest acc _; simp [intsGo]
  | cons x xs ih =>
    intro pre rest acc hr
    have hx := hr x (by simp)
    have hir := intRes_put pre (xs.flatMap putInt ++ rest) x hx.1 hx.2
    rw [List.flatMap_cons, List.length_cons, List.append_assoc, intsGo_more hir]
    have := ih (pre ++ putInt x) rest (acc ++ [x]) (fun m hm => hr m (by simp [hm]))
    rw [List.length_append, List.append_assoc] at this
    rw [show ((pre.length : Int) + ((putInt x).length : Int)) = ((pre.length + (putInt x).length : Nat) : Int) from by omega, this]
    simp only [List.append_assoc, List.singleton_append, List.length_append, Int.natCast_add, Int.add_assoc]
theorem intsRes_put (bs rest : List UInt8) (l : List Int) (hl : l.length < 1000000000000) (hr : I64s l) : intsRes (bs ++ (putInts l ++ rest)) bs.length = (l, (bs.length : Int) + (putInts l).length, 0) := by
  unfold intsRes putInts
  rw [List.append_assoc, intRes_put bs _ l.length (by omega) (by omega)]
  simp only [ne_eq, not_true_eq_false, if_false]
  rw [if_neg (by omega), Int.toNat_natCast]
  have := intsGo_put l (bs ++ putInt (l.length : Int)) rest [] hr
  rw [List.append_assoc, List.length_append] at this
  rw [show ((bs.length : Int) + ((putInt (l.length : Int)).length : Int)) = ((bs.length + (putInt (l.length : Int)).length : Nat) : Int) from by omega, this]
  simp only [List.nil_append, List.length_append, Int.natCast_add, Int.add_assoc]

theorem intsGo_dec : ∀ (k : Nat) (bs : List UInt8) (nx nx' : Int) (acc l : List Int), 0 ≤ nx → nx ≤ bs.length → intsGo bs k nx acc = (l, nx', 0) →
    ∃ l1, l = acc ++ l1 ∧ l1.length = k ∧ ∃ pre rest, bs = pre ++ (l1.flatMap putInt ++ rest) ∧ nx = (pre.length : Int) ∧ nx' = (pre.length : Int) + (l1.flatMap putInt).length := by
  intro k
  induction k with
  | zero =>
    intro bs nx nx' acc l h0 h1 h
    rw [intsGo_zero] at h
    simp only [Prod.mk.injEq, and_true] at h
    obtain ⟨rfl, rfl⟩ := h
    have hl : (bs.take nx.toNat).length = nx.toNat := by rw [List.length_take]; omega
    exact ⟨[], by simp, rfl, bs.take nx.toNat, bs.drop nx.toNat, by simp, by omega, by simp; omega⟩
  | succ k ih =>
    intro bs nx nx' acc l h0 h1 h
    obtain ⟨⟨n, x, er⟩, hr⟩ : ∃ r, intRes bs nx = r := ⟨_, rfl⟩
    by_cases he : er = 0
    · subst he
      rw [intsGo_more hr] at h
      obtain ⟨p1, p2, p3, p4⟩ := intRes_props hr
      have := p3 rfl
      obtain ⟨l1, e1, e2, pre, rest, e3, e4, e5⟩ := ih bs x nx' (acc ++ [n]) l (by omega) (by omega) h
      obtain ⟨pre0, rest0, g1, g2, g3⟩ := intRes_dec hr
      have hrest : rest0 = l1.flatMap putInt ++ rest := by
        have h3 : (pre0 ++ putInt n).length = pre.length := by rw [List.length_append]; omega
        have h4 : (pre0 ++ putInt n) ++ rest0 = pre ++ (l1.flatMap putInt ++ rest) := by rw [List.append_assoc, ← g1, ← e3]
        exact (List.append_inj h4 h3).2
      refine ⟨n :: l1, by rw [e1]; simp, by simp [e2], pre0, rest, ?_, g2, ?_⟩
      · rw [List.flatMap_cons, List.append_assoc, ← hrest]; exact g1
      · rw [List.flatMap_cons, List.length_append]; omega
    · rw [intsGo_err hr he] at h
      simp only [Prod.mk.injEq] at h
      exact absurd h.2.2 he
theorem intsRes_dec {bs : List UInt8} {at_ nx : Int} {l : List Int} (h : intsRes bs at_ = (l, nx, 0)) : ∃ pre rest, bs = pre ++ (putInts l ++ rest) ∧ at_ = (pre.length : Int) ∧ nx = (pre.length : Int) + (putInts l).length := by
  unfold intsRes at h
  obtain ⟨⟨n, x, er⟩, hr⟩ : ∃ r, intRes bs at_ = r := ⟨_, rfl⟩
  rw [hr] at h
  simp only at h
  split at h
  · rename_i he; simp only [Prod.mk.injEq] at h; exact absurd h.2.2 he
  · rename_i he
    have he' : er = 0 := by simpa using he
    subst he'
    split at h
    · simp at h
    · rename_i hn
      obtain ⟨p1, p2, p3, p4⟩ := intRes_props hr
      have := p3 rfl
      obtain ⟨l1, e1, e2, pre, rest, e3, e4, e5⟩ := intsGo_dec n.toNat bs x nx [] l (by omega) (by omega) h
      obtain ⟨pre0, rest0, g1, g2, g3⟩ := intRes_dec hr
      rw [List.nil_append] at e1
      subst e1
      have hrest : rest0 = l.flatMap putInt ++ rest := by
        have h3 : (pre0 ++ putInt n).length = pre.length := by rw [List.length_append]; omega
        have h4 : (pre0 ++ putInt n) ++ rest0 = pre ++ (l.flatMap putInt ++ rest) := by rw [List.append_assoc, ← g1, ← e3]
        exact (List.append_inj h4 h3).2
      have hln : (l.length : Int) = n := by omega
      refine ⟨pre0, rest, ?_, g2, ?_⟩
      · rw [putInts, hln, List.append_assoc, ← hrest]; exact g1
      · rw [putInts, hln, List.length_append]; omega

theorem putText_length (s : List UInt8) : (putText s).length ≤ 10 + s.length := by
  have := putInt_length s.length
  rw [putText, List.length_append]; omega
theorem putInts_length (l : List Int) : (putInts l).length ≤ 10 + 10 * l.length := by
  have := putInt_length l.length
  have := flat_len l
  rw [putInts, List.length_append]; omega
end Go.Proofs.Ytomilmaeiokaaaa
