/-
  WIRE, THE PLAIN LAW: what is encoded is decoded again, and in one form only. No program in sight.
-/
import Derived.Test.YtpmjgiabedjlgaaWireP3
import Derived.Test.YtpmjgiabedjlgaaWire5
namespace Go.Proofs.Ytpmjgiabedjlgaa
open Go.RowKit
set_option linter.unusedVariables false

theorem low7_toNat (x : UInt8) : (low7 x).toNat = x.toNat % 128 := by
  have hx := x.toNat_lt
  have h : ∀ n : Fin 256, n.val % 2 ^ 64 &&& (127#64).toNat = n.val % 128 := by decide +kernel
  rw [low7, BitVec.toNat_and, BitVec.toNat_setWidth]
  exact h ⟨x.toNat, hx⟩
theorem low7_parts (z : BitVec 64) : (z &&& 127#64) ||| ((z >>> 7) <<< 7) = z := by
  apply BitVec.eq_of_getLsbD_eq
  intro i hi
  rw [BitVec.getLsbD_or, BitVec.getLsbD_and, BitVec.getLsbD_shiftLeft, BitVec.getLsbD_ushiftRight]
  have h127 : ∀ j : Fin 64, (127#64).getLsbD j.val = decide (j.val < 7) := by decide
  have := h127 ⟨i, hi⟩
  simp only at this
  rw [this]
  by_cases h : i < 7
  · simp [h, hi]
  · simp [h, hi, show 7 + (i - 7) = i by omega]
theorem or_shl (acc a b : BitVec 64) (k : Nat) : acc ||| a <<< (7 * k) ||| b <<< (7 * (k + 1)) = acc ||| (a ||| b <<< 7) <<< (7 * k) := by
  rw [show 7 * (k + 1) = 7 + 7 * k from by omega, BitVec.shiftLeft_add, BitVec.shiftLeft_or_distrib, BitVec.or_assoc]
theorem pow_step (k : Nat) (hk : k ≤ 8) : 2 ^ (64 - 7 * k) = 128 * 2 ^ (64 - 7 * (k + 1)) := by
  rw [show 64 - 7 * k = 7 + (64 - 7 * (k + 1)) from by omega, Nat.pow_add]

theorem scan_enc : ∀ (N : Nat) (z : BitVec 64) (k : Nat) (acc : BitVec 64) (rest : List UInt8), z.toNat ≤ N → k ≤ 9 → z.toNat < 2 ^ (64 - 7 * k) → (0 < k → 0 < z.toNat) →
    scanI k acc (enc z ++ rest) = (0, acc ||| z <<< (7 * k), k + (enc z).length) := by
  intro N
  induction N using Nat.strongRecOn with
  | _ N ih =>
  intro z k acc rest hN hk hz hpos
  by_cases h : z.toNat < 128
  · rw [enc_lo z h]
    have hx : (UInt8.ofNat z.toNat).toNat = z.toNat := by rw [UInt8.toNat_ofNat']; omega
    have hl : low7 (UInt8.ofNat z.toNat) = z := by apply BitVec.eq_of_toNat_eq; rw [low7_toNat, hx]; omega
    rw [List.cons_append, scanI, if_neg (by omega), if_pos (by omega), if_neg]
    · show (0, acc ||| low7 (UInt8.ofNat z.toNat) <<< (7 * k), k + 1) = _
      rw [hl]; rfl
    · rintro (⟨h1, h2⟩ | ⟨h1, h2⟩)
      · have := hpos h1; omega
      · subst h1
        rw [hx] at h2
        simp at hz
        omega
  · have hk8 : k ≤ 8 := by
      rcases Nat.lt_or_ge k 9 with h9 | h9
      · omega
      · obtain rfl : k = 9 := by omega
        simp at hz; omega
    have hx : (UInt8.ofNat z.toNat ||| 128).toNat = 128 + z.toNat % 128 := by
      rw [← byte_more, UInt8.toNat_ofNat']
      omega
    have hl : low7 (UInt8.ofNat z.toNat ||| 128) = z &&& 127#64 := by
      apply BitVec.eq_of_toNat_eq
      have h2 : (z &&& 127#64).toNat = z.toNat % 128 := by
        rw [BitVec.toNat_and]
        exact Nat.and_two_pow_sub_one_eq_mod z.toNat 7
      rw [low7_toNat, hx, h2]; omega
    have hs := toNat_shr7 z
    have hp := pow_step k hk8
    rw [enc_hi z h, List.cons_append, scanI, if_neg (by omega), if_neg (by omega)]
    show scanI (k + 1) (acc ||| low7 (UInt8.ofNat z.toNat ||| 128) <<< (7 * k)) _ = _
    rw [hl, ih (z >>> 7).toNat (by omega) (z >>> 7) (k + 1) _ rest (Nat.le_refl _) (by omega) (by omega) (fun _ => by omega), or_shl, low7_parts, List.length_cons]
    congr 2; omega

/-! ### numbers -/
theorem intRes_put (bs rest : List UInt8) (n : Int) (h1 : -9223372036854775808 ≤ n) (h2 : n ≤ 9223372036854775807) :
    intRes (bs ++ (putInt n ++ rest)) bs.length = (n, (bs.length : Int) + (putInt n).length, 0) := by
  have hs := scan_enc (zz n).toNat (zz n) 0 0 rest (Nat.le_refl _) (by omega) (by simpa using (zz n).isLt) (fun h => absurd h (Nat.lt_irrefl _))
  unfold intRes
  rw [if_neg (by simp only [List.length_append]; omega), Int.toNat_natCast, List.drop_left]
  show (if (scanI 0 0 (enc (zz n) ++ rest)).1 = 0 then _ else _) = _
  unfold putInt
  rw [hs, if_pos rfl]
  simp only [Nat.mul_zero, BitVec.shiftLeft_zero, Nat.zero_add]
  rw [show (0 : BitVec 64) ||| zz n = zz n from by simp, num_zz n h1 h2]

/-! ### lists -/
theorem intsGo_put : ∀ (l : List Int) (pre rest : List UInt8) (acc : List Int), I64s l → intsGo (pre ++ (l.flatMap putInt ++ rest)) l.length pre.length acc = (acc ++ l, (pre.length : Int) + (l.flatMap putInt).length, 0) := by
  intro l
  induction l with
  | nil => intro pre rest acc _; simp [intsGo]
  | cons x xs ih =>
    intro pre rest acc hr
    have hx := hr x (by simp)
    have hir := intRes_put pre (xs.flatMap putInt ++ rest) x hx.1 hx.2
    rw [List.flatMap_cons, List.length_cons, List.append_assoc, intsGo_more hir]
    have := ih (pre ++ putInt x) rest (acc ++ [x]) (fun m hm => hr m (by simp [hm]))
    rw [List.length_append, List.append_assoc] at this
    rw [show ((pre.length : Int) + ((putInt x).length : Int)) = ((pre.length + (putInt x).length : Nat) : Int) from by omega, this]
    simp only [List.append_assoc, List.singleton_append, List.length_append, Int.natCast_add, Int.add_assoc]
theorem intsRes_put (bs rest : List UInt8) (l : List Int) (hl : l.length < 1000000000000) (hr : I64s l) : intsRes (bs ++ (putInts l ++ rest)) bs.length = (l, (bs.length : Int) + (putInts l).length, 0) := by
  unfold intsRes putInts
  rw [List.append_assoc, intRes_put bs _ l.length (by omega) (by omega)]
  simp only [ne_eq, not_true_eq_false, if_false]
  rw [if_neg (by omega), Int.toNat_natCast]
  have := intsGo_put l (bs ++ putInt (l.length : Int)) rest [] hr
  rw [List.append_assoc, List.length_append] at this
  rw [show ((bs.length : Int) + ((putInt (l.length : Int)).length : Int)) = ((bs.length + (putInt (l.length : Int)).length : Nat) : Int) from by omega, this]
  simp only [List.nil_append, List.length_append, Int.natCast_add, Int.add_assoc]

theorem putInts_length (l : List Int) : (putInts l).length ≤ 10 + 10 * l.length := by
  have := putInt_length l.length
  have := flat_len l
  rw [putInts, List.length_append]; omega
end Go.Proofs.Ytpmjgiabedjlgaa
