/-
  CRC, THE PLAIN LAW: CRC-32 as a machine on 32 bits; the table's way and the bit by bit way; it is linear, and a changed byte is seen. No program in sight.
-/
import Derived.Test.YtmanoeimnipjjaaBase0
namespace Go.Proofs.Ytmanoeimnipjjaa
open Go.RowKit
set_option linter.unusedVariables false

def poly : BitVec 32 := 3988292384#32
def step1 (x : BitVec 32) : BitVec 32 := if x.getLsbD 0 then (x >>> 1) ^^^ poly else x >>> 1
def stepN : Nat → BitVec 32 → BitVec 32
  | 0, x => x
  | n + 1, x => step1 (stepN n x)
def zx (c : UInt8) : BitVec 32 := BitVec.setWidth 32 c.toBitVec
def crcByte (x : BitVec 32) (c : UInt8) : BitVec 32 := stepN 8 (x ^^^ zx c)
def crcSt (x : BitVec 32) (bs : List UInt8) : BitVec 32 := bs.foldl crcByte x
def crc (bs : List UInt8) : BitVec 32 := ~~~ crcSt 4294967295#32 bs

theorem crcSt_nil (x : BitVec 32) : crcSt x [] = x := rfl
theorem crcSt_cons (x : BitVec 32) (c : UInt8) (bs : List UInt8) : crcSt x (c :: bs) = crcSt (crcByte x c) bs := rfl
theorem crcSt_append (x : BitVec 32) (a b : List UInt8) : crcSt x (a ++ b) = crcSt (crcSt x a) b := by unfold crcSt; rw [List.foldl_append]
theorem crcSt_take (x : BitVec 32) (bs : List UInt8) (k : Nat) (hk : k < bs.length) : crcSt x (bs.take (k + 1)) = crcByte (crcSt x (bs.take k)) (bs.getD k 0) := by
  rw [List.take_succ_eq_append_getElem hk, crcSt_append]
  simp [crcSt, List.getD, hk]

/-! ### it is linear -/
theorem step1_xor (a b : BitVec 32) : step1 (a ^^^ b) = step1 a ^^^ step1 b := by
  unfold step1
  rw [BitVec.getLsbD_xor, BitVec.ushiftRight_xor_distrib]
  cases a.getLsbD 0 <;> cases b.getLsbD 0 <;> simp
  · rw [BitVec.xor_assoc]
  · rw [BitVec.xor_assoc, BitVec.xor_assoc, BitVec.xor_comm (b >>> 1) poly]
  · rw [BitVec.xor_assoc, ← BitVec.xor_assoc poly, BitVec.xor_comm poly (b >>> 1), BitVec.xor_assoc (b >>> 1), BitVec.xor_self, BitVec.xor_zero]
theorem stepN_xor : ∀ (n : Nat) (a b : BitVec 32), stepN n (a ^^^ b) = stepN n a ^^^ stepN n b := by
  intro n
  induction n with
  | zero => intro a b; rfl
  | succ n ih => intro a b; rw [stepN, ih, step1_xor]; rfl
theorem stepN_shift : ∀ (n : Nat) (z : BitVec 32), (∀ k, k < n → z.getLsbD k = false) → stepN n z = z >>> n := by
  intro n
  induction n with
  | zero => intro z _; simp [stepN]
  | succ n ih =>
    intro z h
    rw [stepN, ih z (fun k hk => h k (by omega))]
    unfold step1
    rw [if_neg]
    · rw [← BitVec.shiftRight_add]
    · rw [BitVec.getLsbD_ushiftRight, Nat.add_zero, h n (by omega)]; simp

/-- The table's way. -/
theorem table_way (x : BitVec 32) (c : UInt8) (lo : BitVec 32) (hlo : lo = (x ^^^ zx c) &&& 255#32) : x >>> 8 ^^^ stepN 8 lo = crcByte x c := by
  have hparts : x ^^^ zx c = ((x ^^^ zx c) &&& ~~~ 255#32) ^^^ ((x ^^^ zx c) &&& 255#32) := by
    apply BitVec.eq_of_getLsbD_eq
    intro i hi
    simp only [BitVec.getLsbD_xor, BitVec.getLsbD_and, BitVec.getLsbD_not, hi, decide_true, Bool.true_and]
    cases (255#32).getLsbD i <;> cases x.getLsbD i <;> cases (zx c).getLsbD i <;> rfl
  have h255 : ∀ i : Fin 32, (255#32).getLsbD i.val = decide (i.val < 8) := by decide
  have hhi : stepN 8 ((x ^^^ zx c) &&& ~~~ 255#32) = x >>> 8 := by
    rw [stepN_shift 8 _ (fun k hk => by
      have := h255 ⟨k, by omega⟩
      simp only at this
      rw [BitVec.getLsbD_and, BitVec.getLsbD_not, this]; simp [hk, show k < 32 by omega])]
    apply BitVec.eq_of_getLsbD_eq
    intro i hi
    rw [BitVec.getLsbD_ushiftRight, BitVec.getLsbD_ushiftRight, BitVec.getLsbD_and, BitVec.getLsbD_not, BitVec.getLsbD_xor]
    by_cases h32 : 8 + i < 32
    · have := h255 ⟨8 + i, h32⟩
      simp only at this
      have hz : (zx c).getLsbD (8 + i) = false := by
        unfold zx
        rw [BitVec.getLsbD_setWidth]
        simp
      rw [this, hz]
      simp [h32]
    · simp [BitVec.getLsbD_of_ge _ (8 + i) (show 32 ≤ 8 + i by omega)]
  unfold crcByte
  rw [hparts, stepN_xor, hhi, hlo]

theorem crcByte_xor3 (x y z : BitVec 32) (a b c : UInt8) : crcByte (x ^^^ y ^^^ z) (a ^^^ b ^^^ c) = crcByte x a ^^^ crcByte y b ^^^ crcByte z c := by
  unfold crcByte
  rw [← stepN_xor, ← stepN_xor]
  congr 1
  have e : zx (a ^^^ b ^^^ c) = zx a ^^^ zx b ^^^ zx c := by
    unfold zx
    apply BitVec.eq_of_getLsbD_eq
    intro i hi
    simp [BitVec.getLsbD_setWidth]
  rw [e]
  apply BitVec.eq_of_getLsbD_eq
  intro i hi
  simp only [BitVec.getLsbD_xor]
  cases x.getLsbD i <;> cases y.getLsbD i <;> cases z.getLsbD i <;> cases (zx a).getLsbD i <;> cases (zx b).getLsbD i <;> cases (zx c).getLsbD i <;> rfl
theorem crcSt_xor3 : ∀ (a b c d : List UInt8) (x y z : BitVec 32), a.length = d.length → b.length = d.length → c.length = d.length → (∀ i, i < d.length → d.getD i 0 = a.getD i 0 ^^^ b.getD i 0 ^^^ c.getD i 0) →
    crcSt (x ^^^ y ^^^ z) d = crcSt x a ^^^ crcSt y b ^^^ crcSt z c := by
  intro a
  induction a with
  | nil =>
    intro b c d x y z h1 h2 h3 _
    have hd : d = [] := List.eq_nil_of_length_eq_zero (by simpa using h1.symm)
    subst hd
    have hb : b = [] := List.eq_nil_of_length_eq_zero (by simpa using h2)
    have hc : c = [] := List.eq_nil_of_length_eq_zero (by simpa using h3)
    subst hb; subst hc
    rfl
  | cons p a ih =>
    intro b c d x y z h1 h2 h3 h
    cases d with
    | nil => simp at h1
    | cons s d =>
      cases b with
      | nil => simp at h2
      | cons q b =>
        cases c with
        | nil => simp at h3
        | cons r c =>
          have h0 := h 0 (by simp)
          simp only [List.getD_cons_zero] at h0
          rw [crcSt_cons, crcSt_cons, crcSt_cons, crcSt_cons, h0, crcByte_xor3]
          exact ih b c d _ _ _ (by simpa using h1) (by simpa using h2) (by simpa using h3) (fun i hi => by
            have := h (i + 1) (by simp; omega)
            simpa only [List.getD_cons_succ] using this)
theorem crc_xor3 (a b c d : List UInt8) (h1 : a.length = d.length) (h2 : b.length = d.length) (h3 : c.length = d.length) (h : ∀ i, i < d.length → d.getD i 0 = a.getD i 0 ^^^ b.getD i 0 ^^^ c.getD i 0) :
    crc d = crc a ^^^ crc b ^^^ crc c := by
  unfold crc
  have := crcSt_xor3 a b c d 4294967295#32 4294967295#32 4294967295#32 h1 h2 h3 h
  rw [show 4294967295#32 ^^^ 4294967295#32 ^^^ 4294967295#32 = 4294967295#32 from by decide] at this
  rw [this]
  apply BitVec.eq_of_getLsbD_eq
  intro i hi
  simp only [BitVec.getLsbD_xor, BitVec.getLsbD_not, hi, decide_true, Bool.true_and]
  cases (crcSt 4294967295#32 a).getLsbD i <;> cases (crcSt 4294967295#32 b).getLsbD i <;> cases (crcSt 4294967295#32 c).getLsbD i <;> rfl

/-! ### a changed byte is seen -/
theorem step1_inj (a b : BitVec 32) (h : step1 a = step1 b) : a = b := by
  have top : ∀ x : BitVec 32, (step1 x).getLsbD 31 = x.getLsbD 0 := by
    intro x
    unfold step1
    have hp : poly.getLsbD 31 = true := by decide
    have hs : (x >>> 1).getLsbD 31 = false := by rw [BitVec.getLsbD_ushiftRight]; exact BitVec.getLsbD_of_ge _ _ (by omega)
    cases hx : x.getLsbD 0
    · simp only [Bool.false_eq_true, if_false]; exact hs
    · simp only [if_true]; rw [BitVec.getLsbD_xor, hs, hp]; rfl
  have h0 : a.getLsbD 0 = b.getLsbD 0 := by rw [← top a, ← top b, h]
  have hsh : a >>> 1 = b >>> 1 := by
    unfold step1 at h
    rw [h0] at h
    cases hb : b.getLsbD 0
    · rw [hb] at h; simpa using h
    · rw [hb] at h
      simp only [if_true] at h
      have := congrArg (fun t => t ^^^ poly) h
      simpa [BitVec.xor_assoc] using this
  apply BitVec.eq_of_getLsbD_eq
  intro i hi
  cases i with
  | zero => exact h0
  | succ i =>
    have := congrArg (fun t => BitVec.getLsbD t i) hsh
    simp only [BitVec.getLsbD_ushiftRight] at this
    rw [Nat.add_comm] at this
    exact this
theorem stepN_inj : ∀ (n : Nat) (a b : BitVec 32), stepN n a = stepN n b → a = b := by
  intro n
  induction n with
  | zero => intro a b h; exact h
  | succ n ih => intro a b h; exact ih a b (step1_inj _ _ h)
theorem xor_left_inj32 {a b c : BitVec 32} (h : a ^^^ c = b ^^^ c) : a = b := by
  have := congrArg (fun t => t ^^^ c) h
  simpa [BitVec.xor_assoc] using this
theorem zx_inj {a b : UInt8} (h : zx a = zx b) : a = b := by
  have ha := a.toNat_lt
  have hb := b.toNat_lt
  apply UInt8.toNat_inj.1
  have := congrArg BitVec.toNat h
  unfold zx at this
  rw [BitVec.toNat_setWidth, BitVec.toNat_setWidth] at this
  have e1 : a.toBitVec.toNat = a.toNat := rfl
  have e2 : b.toBitVec.toNat = b.toNat := rfl
  rw [e1, e2] at this
  omega
theorem crcByte_inj_st {x y : BitVec 32} {c : UInt8} (h : crcByte x c = crcByte y c) : x = y := xor_left_inj32 (stepN_inj 8 _ _ h)
theorem crcByte_inj_c {x : BitVec 32} {c d : UInt8} (h : crcByte x c = crcByte x d) : c = d := by
  have := stepN_inj 8 _ _ h
  rw [BitVec.xor_comm x, BitVec.xor_comm x] at this
  exact zx_inj (xor_left_inj32 this)
theorem crcSt_inj : ∀ (bs : List UInt8) (x y : BitVec 32), crcSt x bs = crcSt y bs → x = y := by
  intro bs
  induction bs with
  | nil => intro x y h; exact h
  | cons c bs ih => intro x y h; exact crcByte_inj_st (ih _ _ h)
theorem crc_changed (pre post : List UInt8) (c d : UInt8) (h : crc (pre ++ c :: post) = crc (pre ++ d :: post)) : c = d := by
  unfold crc at h
  have h' : crcSt 4294967295#32 (pre ++ c :: post) = crcSt 4294967295#32 (pre ++ d :: post) := by
    have := congrArg (fun t => ~~~ t) h
    simpa using this
  rw [crcSt_append, crcSt_append, crcSt_cons, crcSt_cons] at h'
  exact crcByte_inj_c (crcSt_inj post _ _ h')
end Go.Proofs.Ytmanoeimnipjjaa
