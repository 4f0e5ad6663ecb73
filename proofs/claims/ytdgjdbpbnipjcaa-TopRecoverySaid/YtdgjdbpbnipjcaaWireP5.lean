/-
  WIRE, THE WALKS: Int.
-/
import Derived.Test.YtdgjdbpbnipjcaaProg
import Derived.Test.YtdgjdbpbnipjcaaBase7
import Derived.Test.YtdgjdbpbnipjcaaWire1
import Derived.BigQuiet
import Derived.Deep.QuietTactic
import Derived.WalkSpells
import Derived.WalkLawsBesides
namespace Go.Proofs.Ytdgjdbpbnipjcaa
open Go.RowKit
set_option linter.unusedVariables false

def int3 (r : Int × Int × Int) : Value := .tuple #[.int .i64 r.1, .int .i64 r.2.1, .int .i64 r.2.2]
theorem int3_of {r : Int × Int × Int} {a b c : Int} (h : r = (a, b, c)) : Ending.returned (.tuple #[.int .i64 a, .int .i64 b, .int .i64 c]) = .returned (int3 r) := by subst h; rfl

theorem Try.sizeU8 (w : World) : (sizeOf 5).run Try.prog w = .ok 1 w := by kernel_rfl

set_option maxRecDepth 100000 in
set_option maxHeartbeats 1000000 in
theorem int_in (bs : List UInt8) (at_ : Nat) (ao : Option Addr) (len cap : Nat) (w : World) (hs : Sl w 1 ao len cap (cs b8 bs)) (hlen : len ≤ 1000000000000) (hat : at_ ≤ len) :
    Calls Try.prog 23 #[.slice ao len cap, .int .i64 (at_ : Int)] w (fun e w' => e = .returned (int3 (intRes bs at_)) ∧ w = w') := by
  have hle := hs.hle
  have hmax := hs.hmax
  unfold maxLen at hmax
  have hgo : Hid (∀ c : Int, c ≠ 0 → ∀ a b, scanI 0 0 (bs.drop at_) = (c, a, b) → intRes bs at_ = (0, 0, c)) := by
    intro c hc a b h
    have := hs.count
    unfold intRes
    rw [if_neg (by omega), Int.toNat_natCast, h, if_neg hc]
  have hok : Hid (∀ (z : BitVec 64) (m : Nat), scanI 0 0 (bs.drop at_) = (0, z, m) → intRes bs at_ = (num z, (at_ : Int) + (m : Int), 0)) := by
    intro z m h
    have := hs.count
    unfold intRes
    rw [if_neg (by omega), Int.toNat_natCast, h, if_pos rfl]
  obtain ⟨ao', hrun, hs'⟩ := slice_from (P := Try.prog) 30 5 Try.underlying30 Try.sizeU8 hs at_ hat
  go_enter Try.func23, Try.ntmps23
  go_wp2
  have hneg : (0 : Int) ≤ (at_ : Int) := by omega
  go_loop [7, 22] (fun z i => ∃ (k : Nat) (zb : BitVec 64), k ≤ len - at_ ∧ k ≤ 10 ∧ i = .int .i64 k ∧ z = u64 zb ∧ Hid (scanI k zb ((bs.drop at_).drop k) = scanI 0 0 (bs.drop at_)))
    (fun _ i => len - (intOf i).toNat)
  case atStart => exact ⟨0, 0, by omega, by omega, rfl, rfl, by show _ = _; simp⟩
  case round =>
    obtain ⟨k, zb, hk, hk10, rfl, rfl, hsc⟩ := hrel
    have hcount := hs'.count
    by_cases hkl : k < len - at_
    · obtain ⟨b, off, rfl, hcell⟩ := hs'.at_ k hkl 0
      have hdk : (bs.drop at_).drop k = (bs.drop at_).getD k 0 :: (bs.drop at_).drop (k + 1) := by
        rw [List.drop_eq_getElem_cons (by omega)]; simp [List.getD, hcount, hkl]
      generalize (bs.drop at_).getD k 0 = x at *
      by_cases h10 : k = 10
      · subst h10
        have hS : Hid (scanI 0 0 (bs.drop at_) = (3, 0, 0)) := by show _ = _; rw [← hsc.out, hdk, scanI, if_pos rfl]
        clear hdk hsc
        go_wp2
        go_ret3
        exact ⟨int3_of (hgo.out 3 (by decide) _ _ hS.out), rfl⟩
      · have h9 : ((k : Int) == 10) = false := by simp; omega
        have h7 : (0 : Int) ≤ 7 * (k : Int) := by omega
        by_cases hx : x.toNat < 128
        · have hx' := (and128 x).2 hx
          by_cases hbad : (0 < k ∧ x.toNat = 0) ∨ (k = 9 ∧ 1 < x.toNat)
          · have hS : Hid (scanI 0 0 (bs.drop at_) = (3, 0, 0)) := by show _ = _; rw [← hsc.out, hdk, scanI, if_neg h10, if_pos hx, if_pos hbad]
            clear hdk hsc
            rcases hbad with ⟨g1, g2⟩ | ⟨g1, g2⟩
            · go_wp2
              go_ret3
              exact ⟨int3_of (hgo.out 3 (by decide) _ _ hS.out), rfl⟩
            · subst g1
              have g3 : ¬ x.toNat = 0 := by omega
              go_wp2
              go_ret3
              exact ⟨int3_of (hgo.out 3 (by decide) _ _ hS.out), rfl⟩
          · have hS : Hid (scanI 0 0 (bs.drop at_) = (0, zb ||| ((BitVec.setWidth 64 x.toBitVec &&& 127#64) <<< (7 * k)), k + 1)) := by show _ = _; rw [← hsc.out, hdk, scanI, if_neg h10, if_pos hx, if_neg hbad]
            clear hdk hsc
            have hb1 : 0 < k → ¬ x.toNat = 0 := fun h h' => hbad (.inl ⟨h, h'⟩)
            have hb2 : k = 9 → ¬ 1 < x.toNat := fun h h' => hbad (.inr ⟨h, h'⟩)
            clear hbad
            go_wp2
            all_goals go_ret3
            all_goals exact ⟨int3_of (by rw [hok.out _ _ hS.out]; exact congrArg (fun m : Int => (num _, m, (0 : Int))) (by omega)), rfl⟩
        · have hx' : ¬ (x.toNat &&& 128 = 0) := fun h => hx ((and128 x).1 h)
          have hS : Hid (scanI (k + 1) (zb ||| ((BitVec.setWidth 64 x.toBitVec &&& 127#64) <<< (7 * k))) ((bs.drop at_).drop (k + 1)) = scanI 0 0 (bs.drop at_)) := by show _ = _; rw [← hsc.out, hdk, scanI, if_neg h10, if_neg hx]
          clear hdk hsc
          go_wp2
          go_round
          case rel => exact ⟨k + 1, _, by omega, by omega, by go_num, rfl, hS⟩
          case measure => simp [intOf]; omega
    · have hS : Hid (scanI 0 0 (bs.drop at_) = (if 10 ≤ k then (3, 0, 0) else (4, 0, 0))) := by show _ = _; rw [← hsc.out, List.drop_of_length_le (by omega), scanI]
      clear hsc
      have hke : k = len - at_ := by omega
      have HE := Lib.hid hke
      clear hke
      by_cases h10 : 10 ≤ len - at_
      · have h10' : (10 : Int) ≤ (len : Int) - (at_ : Int) := by omega
        have hS' : Hid (scanI 0 0 (bs.drop at_) = (3, 0, 0)) := by have := hS.out; rw [HE.out, if_pos h10] at this; exact this
        clear hS
        go_wp2
        go_ret3
        exact ⟨int3_of (hgo.out 3 (by decide) _ _ hS'.out), rfl⟩
      · have h10' : (len : Int) - (at_ : Int) < 10 := by omega
        have hS' : Hid (scanI 0 0 (bs.drop at_) = (4, 0, 0)) := by have := hS.out; rw [HE.out, if_neg h10] at this; exact this
        clear hS
        go_wp2
        go_ret3
        exact ⟨int3_of (hgo.out 4 (by decide) _ _ hS'.out), rfl⟩

set_option maxRecDepth 100000 in
set_option maxHeartbeats 1000000 in
theorem int_any (bs : List UInt8) (at_ : Int) (ao : Option Addr) (len cap : Nat) (w : World) (hs : Sl w 1 ao len cap (cs b8 bs)) (hlen : len ≤ 1000000000000) :
    Calls Try.prog 23 #[.slice ao len cap, .int .i64 at_] w (fun e w' => e = .returned (int3 (intRes bs at_)) ∧ w = w') := by
  have hc := hs.count
  by_cases h0 : at_ < 0
  · have hr : Hid (intRes bs at_ = (0, 0, 1)) := by show _ = _; unfold intRes; rw [if_pos (.inl h0)]
    go_enter Try.func23, Try.ntmps23
    go_wp2
    go_ret3
    exact ⟨int3_of hr.out, rfl⟩
  · obtain ⟨n, rfl⟩ := Int.eq_ofNat_of_zero_le (show 0 ≤ at_ by omega)
    by_cases h1 : n ≤ len
    · exact int_in bs n ao len cap w hs hlen h1
    · have hr : Hid (intRes bs n = (0, 0, 1)) := by show _ = _; unfold intRes; rw [if_pos (.inr (by omega))]
      have h1' : (len : Int) < (n : Int) := by omega
      go_enter Try.func23, Try.ntmps23
      go_wp2
      go_ret3
      exact ⟨int3_of hr.out, rfl⟩
end Go.Proofs.Ytdgjdbpbnipjcaa

namespace Go.Proofs.Ytdgjdbpbnipjcaa
open Go.RowKit
set_option linter.unusedVariables false

def low7 (x : UInt8) : BitVec 64 := BitVec.setWidth 64 x.toBitVec &&& 127#64
def accL (k : Nat) (z : BitVec 64) : List UInt8 → BitVec 64
  | [] => z
  | x :: xs => accL (k + 1) (z ||| low7 x <<< (7 * k)) xs

/-- The bytes that say 'more'. -/
theorem scan_more : ∀ (m k : Nat) (z : BitVec 64) (l : List UInt8), k + m ≤ 10 → m ≤ l.length → (∀ j, j < m → 128 ≤ (l.getD j 0).toNat) → scanI k z l = scanI (k + m) (accL k z (l.take m)) (l.drop m) := by
  intro m
  induction m with
  | zero => intro k z l _ _ _; simp [accL]
  | succ m ih =>
    intro k z l hk hl hall
    cases l with
    | nil => simp at hl
    | cons x xs =>
      have h0 := hall 0 (by omega)
      simp only [List.getD_cons_zero] at h0
      rw [scanI, if_neg (by omega), if_neg (by omega), ih (k + 1) _ xs (by omega) (by simpa using hl) (fun j hj => by have := hall (j + 1) (by omega); simpa using this)]
      rw [List.take_succ_cons, List.drop_succ_cons, accL, show k + 1 + m = k + (m + 1) from by omega]
      rfl

theorem scan_end (m : Nat) (l : List UInt8) (hm : m < 10) (hl : m = l.length) (hall : ∀ j, j < m → 128 ≤ (l.getD j 0).toNat) : ∃ a b, scanI 0 0 l = (4, a, b) := by
  rw [scan_more m 0 0 l (by omega) (by omega) hall, List.drop_of_length_le (by omega), scanI, if_neg (by omega)]
  exact ⟨_, _, rfl⟩

theorem toInt_small (a : BitVec 64) (h : a.toNat < 9223372036854775808) : a.toInt = (a.toNat : Int) := by
  rw [BitVec.toInt_eq_toNat_cond, if_pos (by omega)]

theorem wrap_i64_bv (x : BitVec 64) : IntKind.i64.wrap (x.toNat : Int) = x.toInt := by
  have hx := x.isLt
  rw [IntKind.wrap_i64, BitVec.toInt_eq_toNat_cond]
  split <;> omega
theorem bits_xor64 (a b : Int) : bits BinOp.xor IntKind.i64 a b = (BitVec.ofInt 64 a ^^^ BitVec.ofInt 64 b).toInt := wrap_i64_bv _

theorem num_eq (z : BitVec 64) : num z = if z.toNat % 2 = 1 then -((z.toNat / 2 : Nat) : Int) - 1 else ((z.toNat / 2 : Nat) : Int) := by
  have hz := z.isLt
  have e1 : (z >>> 1).toNat = z.toNat / 2 := by rw [BitVec.toNat_ushiftRight, Nat.shiftRight_eq_div_pow]
  have e2 : (z &&& 1#64).toNat = z.toNat % 2 := by rw [BitVec.toNat_and]; exact Nat.and_one_is_mod _
  have h1 : i64of (z >>> 1) = ((z.toNat / 2 : Nat) : Int) := by rw [i64of, toInt_small _ (by omega), e1]
  have h2 : i64of (z &&& 1#64) = ((z.toNat % 2 : Nat) : Int) := by rw [i64of, toInt_small _ (by omega), e2]
  have h3 : BitVec.ofInt 64 ((z.toNat / 2 : Nat) : Int) = z >>> 1 := by
    apply BitVec.eq_of_toNat_eq; rw [e1, BitVec.toNat_ofInt]; omega
  rw [num, h1, h2, bits_xor64, h3]
  split
  · rename_i h
    rw [h, IntWalk.wrap64_in _ ⟨by omega, by omega⟩, show BitVec.ofInt 64 (-((1 : Nat) : Int)) = BitVec.allOnes 64 from by decide, BitVec.xor_allOnes, BitVec.toInt_eq_toNat_cond, BitVec.toNat_not, e1]
    split <;> omega
  · rename_i h
    have h0 : z.toNat % 2 = 0 := by omega
    rw [h0, IntWalk.wrap64_in _ ⟨by omega, by omega⟩, show BitVec.ofInt 64 (-((0 : Nat) : Int)) = 0#64 from by decide, BitVec.xor_zero, toInt_small _ (by omega), e1]

theorem zz_toNat (n : Int) (h1 : -9223372036854775808 ≤ n) (h2 : n ≤ 9223372036854775807) : (zz n).toNat = if n < 0 then (2 * (-(n + 1)).toNat + 1) else 2 * n.toNat := by
  unfold zz
  split
  · rename_i h
    have e : n / 9223372036854775808 = -1 := by omega
    rw [e, show BitVec.ofInt 64 (-1) = BitVec.allOnes 64 from by decide, BitVec.xor_allOnes, BitVec.toNat_not, BitVec.toNat_shiftLeft, Nat.shiftLeft_eq, BitVec.toNat_ofInt]
    omega
  · rename_i h
    have e : n / 9223372036854775808 = 0 := by omega
    rw [e]
    rw [show BitVec.ofInt 64 0 = 0#64 from by decide, BitVec.xor_zero]
    rw [BitVec.toNat_shiftLeft, Nat.shiftLeft_eq, BitVec.toNat_ofInt]
    omega

theorem num_zz (n : Int) (h1 : -9223372036854775808 ≤ n) (h2 : n ≤ 9223372036854775807) : num (zz n) = n := by
  rw [num_eq, zz_toNat n h1 h2]
  by_cases h : n < 0
  · rw [if_pos h, if_pos (by omega)]; omega
  · rw [if_neg h, if_neg (by omega)]; omega
theorem num_range (z : BitVec 64) : -9223372036854775808 ≤ num z ∧ num z ≤ 9223372036854775807 := by
  have hz := z.isLt
  rw [num_eq]; split <;> omega
theorem byte_more (n : Nat) : UInt8.ofNat ((128 + n % 128) % 18446744073709551616) = UInt8.ofNat n ||| 128 := by
  apply UInt8.toNat_inj.1
  rw [UInt8.toNat_or, UInt8.toNat_ofNat', UInt8.toNat_ofNat']
  have h : ∀ m : Fin 256, m.val ||| (128 : UInt8).toNat = 128 + m.val % 128 := by decide +kernel
  have := h ⟨n % 256, by omega⟩
  refine Eq.trans ?_ this.symm
  show _ = 128 + (n % 256) % 128
  omega
end Go.Proofs.Ytdgjdbpbnipjcaa

namespace Go.Proofs.Ytdgjdbpbnipjcaa
open Go.RowKit
set_option linter.unusedVariables false

theorem scanI_props : ∀ (xs : List UInt8) (k : Nat) (z : BitVec 64), ((scanI k z xs).1 = 0 ∨ (scanI k z xs).1 = 3 ∨ (scanI k z xs).1 = 4) ∧ ((scanI k z xs).1 = 0 → k < (scanI k z xs).2.2 ∧ (scanI k z xs).2.2 ≤ k + xs.length) := by
  intro xs
  induction xs with
  | nil => intro k z; rw [scanI]; split <;> simp
  | cons x xs ih =>
    intro k z
    rw [scanI]
    split
    · simp
    · split
      · split
        · simp
        · simp
      · have := ih (k + 1) (z ||| (BitVec.setWidth 64 x.toBitVec &&& 127#64) <<< (7 * k))
        refine ⟨this.1, fun h => ?_⟩
        have := this.2 h
        simp only [List.length_cons]
        omega

/-- The error is 0, 1, 3 or 4; without one the index behind lies beyond the index, and within the bytes; with one all else is 0. -/
theorem intRes_props {bs : List UInt8} {at_ n nx er : Int} (h : intRes bs at_ = (n, nx, er)) :
    (er = 0 ∨ er = 1 ∨ er = 3 ∨ er = 4) ∧ (-9223372036854775808 ≤ n ∧ n ≤ 9223372036854775807) ∧ (er = 0 → 0 ≤ at_ ∧ at_ < nx ∧ nx ≤ bs.length) ∧ (er ≠ 0 → n = 0 ∧ nx = 0) := by
  unfold intRes at h
  split at h
  · simp only [Prod.mk.injEq] at h
    obtain ⟨rfl, rfl, rfl⟩ := h
    refine ⟨by omega, by omega, by omega, by omega⟩
  · rename_i hat
    have hp := scanI_props (bs.drop at_.toNat) 0 0
    rw [List.length_drop] at hp
    split at h
    · rename_i h0
      simp only [Prod.mk.injEq] at h
      obtain ⟨rfl, rfl, rfl⟩ := h
      have := hp.2 h0
      exact ⟨.inl rfl, num_range _, fun _ => by omega, fun h => absurd rfl h⟩
    · rename_i h0
      simp only [Prod.mk.injEq] at h
      obtain ⟨rfl, rfl, rfl⟩ := h
      refine ⟨?_, by omega, fun h => absurd h h0, fun _ => ⟨rfl, rfl⟩⟩
      rcases hp.1 with h | h | h <;> omega

end Go.Proofs.Ytdgjdbpbnipjcaa

namespace Go.Proofs.Ytdgjdbpbnipjcaa
open Go.RowKit
set_option linter.unusedVariables false

theorem low7_toNat (x : UInt8) : (low7 x).toNat = x.toNat % 128 := by
  have hx := x.toNat_lt
  have h : ∀ n : Fin 256, n.val % 2 ^ 64 &&& (127#64).toNat = n.val % 128 := by decide +kernel
  rw [low7, BitVec.toNat_and, BitVec.toNat_setWidth]
  exact h ⟨x.toNat, hx⟩
theorem low7_parts (z : BitVec 64) : (z &&& 127#64) ||| ((z >>> 7) <<< 7) = z := by
  apply BitVec.eq_of_getLsbD_eq
  intro i hi
  rw [BitVec.getLsbD_or, BitVec.getLsbD_and, BitVec.getLsbD_shiftLeft, BitVec.getLsbD_ushiftRight]
  have h127 : ∀ j : Fin 64, (127#64).getLsbD j.val = decide (j.val < 7) := by decide
  have := h127 ⟨i, hi⟩
  simp only at this
  rw [this]
  by_cases h : i < 7
  · simp [h, hi]
  · simp [h, hi, show 7 + (i - 7) = i by omega]
theorem or_shl (acc a b : BitVec 64) (k : Nat) : acc ||| a <<< (7 * k) ||| b <<< (7 * (k + 1)) = acc ||| (a ||| b <<< 7) <<< (7 * k) := by
  rw [show 7 * (k + 1) = 7 + 7 * k from by omega, BitVec.shiftLeft_add, BitVec.shiftLeft_or_distrib, BitVec.or_assoc]
theorem pow_step (k : Nat) (hk : k ≤ 8) : 2 ^ (64 - 7 * k) = 128 * 2 ^ (64 - 7 * (k + 1)) := by
  rw [show 64 - 7 * k = 7 + (64 - 7 * (k + 1)) from by omega, Nat.pow_add]

theorem scan_enc : ∀ (N : Nat) (z : BitVec 64) (k : Nat) (acc : BitVec 64) (rest : List UInt8), z.toNat ≤ N → k ≤ 9 → z.toNat < 2 ^ (64 - 7 * k) → (0 < k → 0 < z.toNat) →
    scanI k acc (enc z ++ rest) = (0, acc ||| z <<< (7 * k), k + (enc z).length) := by
  intro N
  induction N using Nat.strongRecOn with
  | _ N ih =>
  intro z k acc rest hN hk hz hpos
  by_cases h : z.toNat < 128
  · rw [enc_lo z h]
    have hx : (UInt8.ofNat z.toNat).toNat = z.toNat := by rw [UInt8.toNat_ofNat']; omega
    have hl : low7 (UInt8.ofNat z.toNat) = z := by apply BitVec.eq_of_toNat_eq; rw [low7_toNat, hx]; omega
    rw [List.cons_append, scanI, if_neg (by omega), if_pos (by omega), if_neg]
    · show (0, acc ||| low7 (UInt8.ofNat z.toNat) <<< (7 * k), k + 1) = _
      rw [hl]; rfl
    · rintro (⟨h1, h2⟩ | ⟨h1, h2⟩)
      · have := hpos h1; omega
      · subst h1
        rw [hx] at h2
        simp at hz
        omega
  · have hk8 : k ≤ 8 := by
      rcases Nat.lt_or_ge k 9 with h9 | h9
      · omega
      · obtain rfl : k = 9 := by omega
        simp at hz; omega
    have hx : (UInt8.ofNat z.toNat ||| 128).toNat = 128 + z.toNat % 128 := by
      rw [← byte_more, UInt8.toNat_ofNat']
      omega
    have hl : low7 (UInt8.ofNat z.toNat ||| 128) = z &&& 127#64 := by
      apply BitVec.eq_of_toNat_eq
      have h2 : (z &&& 127#64).toNat = z.toNat % 128 := by
        rw [BitVec.toNat_and]
        exact Nat.and_two_pow_sub_one_eq_mod z.toNat 7
      rw [low7_toNat, hx, h2]; omega
    have hs := toNat_shr7 z
    have hp := pow_step k hk8
    rw [enc_hi z h, List.cons_append, scanI, if_neg (by omega), if_neg (by omega)]
    show scanI (k + 1) (acc ||| low7 (UInt8.ofNat z.toNat ||| 128) <<< (7 * k)) _ = _
    rw [hl, ih (z >>> 7).toNat (by omega) (z >>> 7) (k + 1) _ rest (Nat.le_refl _) (by omega) (by omega) (fun _ => by omega), or_shl, low7_parts, List.length_cons]
    congr 2; omega

/-! ### numbers -/
theorem intRes_put (bs rest : List UInt8) (n : Int) (h1 : -9223372036854775808 ≤ n) (h2 : n ≤ 9223372036854775807) :
    intRes (bs ++ (putInt n ++ rest)) bs.length = (n, (bs.length : Int) + (putInt n).length, 0) := by
  have hs := scan_enc (zz n).toNat (zz n) 0 0 rest (Nat.le_refl _) (by omega) (by simpa using (zz n).isLt) (fun h => absurd h (Nat.lt_irrefl _))
  unfold intRes
  rw [if_neg (by simp only [List.length_append]; omega), Int.toNat_natCast, List.drop_left]
  show (if (scanI 0 0 (enc (zz n) ++ rest)).1 = 0 then _ else _) = _
  unfold putInt
  rw [hs, if_pos rfl]
  simp only [Nat.mul_zero, BitVec.shiftLeft_zero, Nat.zero_add]
  rw [show (0 : BitVec 64) ||| zz n = zz n from by simp, num_zz n h1 h2]

end Go.Proofs.Ytdgjdbpbnipjcaa
