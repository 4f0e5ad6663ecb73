/-
  MAC, THE PLAIN LAW: SipHash-2-4 as the walks say it. No program in sight.
-/
import Derived.Test.YtomilmaeiokaaaaBase15
namespace Go.Proofs.Ytomilmaeiokaaaa
open Go.RowKit
set_option linter.unusedVariables false

abbrev V4 := BitVec 64 × BitVec 64 × BitVec 64 × BitVec 64
def rotl (a : BitVec 64) (k : Nat) : BitVec 64 := a <<< k ||| a >>> (64 - k)
def sip (v : V4) : V4 :=
  (rotl (v.1 + v.2.1) 32 + (rotl v.2.2.2 16 ^^^ (v.2.2.1 + v.2.2.2)),
   rotl (rotl v.2.1 13 ^^^ (v.1 + v.2.1)) 17 ^^^ ((v.2.2.1 + v.2.2.2) + (rotl v.2.1 13 ^^^ (v.1 + v.2.1))),
   rotl ((v.2.2.1 + v.2.2.2) + (rotl v.2.1 13 ^^^ (v.1 + v.2.1))) 32,
   rotl (rotl v.2.2.2 16 ^^^ (v.2.2.1 + v.2.2.2)) 21 ^^^ (rotl (v.1 + v.2.1) 32 + (rotl v.2.2.2 16 ^^^ (v.2.2.1 + v.2.2.2))))
def takeS (v : V4) (m : BitVec 64) : V4 :=
  ((sip (sip (v.1, v.2.1, v.2.2.1, v.2.2.2 ^^^ m))).1 ^^^ m, (sip (sip (v.1, v.2.1, v.2.2.1, v.2.2.2 ^^^ m))).2)

/-- A word, the lowest byte first; from the k-th byte on. -/
def le (k : Nat) (z : BitVec 64) : List UInt8 → BitVec 64
  | [] => z
  | x :: xs => le (k + 1) (z ||| BitVec.setWidth 64 x.toBitVec <<< (8 * k)) xs
theorem le_snoc : ∀ (xs : List UInt8) (k : Nat) (z : BitVec 64) (x : UInt8), le k z (xs ++ [x]) = le k z xs ||| BitVec.setWidth 64 x.toBitVec <<< (8 * (k + xs.length)) := by
  intro xs
  induction xs with
  | nil => intro k z x; rfl
  | cons y ys ih => intro k z x; rw [List.cons_append, le, ih, le, List.length_cons, show k + 1 + ys.length = k + (ys.length + 1) from by omega]

def start (ka kb : BitVec 64) : V4 := (ka ^^^ 8317987319222330741#64, kb ^^^ 7237128888997146477#64, ka ^^^ 7816392313619706465#64, kb ^^^ 8387220255154660723#64)
/-- The whole groups of eight bytes. -/
def absorb : Nat → V4 → List UInt8 → V4 × List UInt8
  | 0, v, bs => (v, bs)
  | n + 1, v, bs => if 8 ≤ bs.length then absorb n (takeS v (le 0 0 (bs.take 8))) (bs.drop 8) else (v, bs)
def last (bs : List UInt8) (rest : List UInt8) : BitVec 64 := le 0 0 rest ||| BitVec.ofInt 64 bs.length <<< 56
def fin4 (v : V4) : V4 := sip (sip (sip (sip (v.1, v.2.1, v.2.2.1 ^^^ 255#64, v.2.2.2))))
def out4 (v : V4) : BitVec 64 := v.1 ^^^ v.2.1 ^^^ v.2.2.1 ^^^ v.2.2.2
def sipSum (ka kb : BitVec 64) (bs : List UInt8) : BitVec 64 :=
  out4 (fin4 (takeS (absorb bs.length (start ka kb) bs).1 (last bs (absorb bs.length (start ka kb) bs).2)))

theorem absorb_stop (n : Nat) (v : V4) (bs : List UInt8) (h : bs.length < 8) : absorb n v bs = (v, bs) := by
  cases n with
  | zero => rfl
  | succ n => rw [absorb, if_neg (by omega)]
theorem absorb_go (n : Nat) (v : V4) (bs : List UInt8) (h : 8 ≤ bs.length) : absorb (n + 1) v bs = absorb n (takeS v (le 0 0 (bs.take 8))) (bs.drop 8) := by
  rw [absorb, if_pos h]

/-! ### the reference's way: group by group -/
def refW (bs : List UInt8) (g : Nat) : Nat → BitVec 64
  | 0 => 0
  | i + 1 => if g * 8 + i < bs.length then refW bs g i ||| BitVec.setWidth 64 (bs.getD (g * 8 + i) 0).toBitVec <<< (8 * i)
      else if i = 7 then refW bs g i ||| BitVec.ofInt 64 ((bs.length : Int) % 256) <<< 56 else refW bs g i
theorem refW_le (bs : List UInt8) (g : Nat) : ∀ (i : Nat), g * 8 + i ≤ bs.length → refW bs g i = le 0 0 ((bs.drop (g * 8)).take i) := by
  intro i
  induction i with
  | zero => intro _; rfl
  | succ i ih =>
    intro h
    have hl : i < (bs.drop (g * 8)).length := by rw [List.length_drop]; omega
    rw [refW, if_pos (by omega), ih (by omega), List.take_succ_eq_append_getElem hl, le_snoc, List.length_take, Nat.min_eq_left (by omega), Nat.zero_add]
    congr 3
    simp [List.getD, show g * 8 + i < bs.length by omega]
theorem refW_stay (bs : List UInt8) (g : Nat) (m : Nat) (hm : g * 8 + m = bs.length) : ∀ (d : Nat), m + d ≤ 7 → refW bs g (m + d) = le 0 0 (bs.drop (g * 8)) := by
  intro d
  induction d with
  | zero => intro h; rw [Nat.add_zero, refW_le bs g m (by omega), List.take_of_length_le (by rw [List.length_drop]; omega)]
  | succ d ih => intro h; rw [show m + (d + 1) = (m + d) + 1 from by omega, refW, if_neg (by omega), if_neg (by omega), ih (by omega)]
theorem shl56 (n : Nat) : BitVec.ofInt 64 ((n : Int) % 256) <<< 56 = BitVec.ofInt 64 (n : Int) <<< 56 := by
  apply BitVec.eq_of_toNat_eq
  rw [BitVec.toNat_shiftLeft, BitVec.toNat_shiftLeft, Nat.shiftLeft_eq, Nat.shiftLeft_eq, BitVec.toNat_ofInt, BitVec.toNat_ofInt]
  omega
theorem refW_full (bs : List UInt8) (g : Nat) (h : g * 8 + 8 ≤ bs.length) : refW bs g 8 = le 0 0 ((bs.drop (g * 8)).take 8) := refW_le bs g 8 h
theorem refW_last (bs : List UInt8) (g : Nat) (h : g * 8 ≤ bs.length) (h2 : bs.length < g * 8 + 8) : refW bs g 8 = last bs (bs.drop (g * 8)) := by
  have := refW_stay bs g (bs.length - g * 8) (by omega) (7 - (bs.length - g * 8)) (by omega)
  rw [show bs.length - g * 8 + (7 - (bs.length - g * 8)) = 7 from by omega] at this
  rw [refW, if_neg (by omega), if_pos rfl, this, shl56]
  rfl
/-- The state behind the first n groups, the reference's way. -/
def refV (ka kb : BitVec 64) (bs : List UInt8) : Nat → V4
  | 0 => start ka kb
  | n + 1 => takeS (refV ka kb bs n) (refW bs n 8)
theorem refV_absorb (ka kb : BitVec 64) (bs : List UInt8) : ∀ (n : Nat), n * 8 ≤ bs.length → absorb bs.length (start ka kb) bs = absorb (bs.length - n) (refV ka kb bs n) (bs.drop (n * 8)) := by
  intro n
  induction n with
  | zero => intro _; simp [refV]
  | succ n ih =>
    intro h
    rw [ih (by omega), show bs.length - n = (bs.length - (n + 1)) + 1 from by omega, absorb_go _ _ _ (by rw [List.length_drop]; omega), refV, refW_full bs n (by omega), List.drop_drop]
    congr 2; omega
theorem refV_sum (ka kb : BitVec 64) (bs : List UInt8) : out4 (fin4 (refV ka kb bs (bs.length / 8 + 1))) = sipSum ka kb bs := by
  have h := refV_absorb ka kb bs (bs.length / 8) (by omega)
  rw [absorb_stop _ _ (bs.drop (bs.length / 8 * 8)) (by rw [List.length_drop]; omega)] at h
  unfold sipSum
  rw [h, refV, refW_last bs _ (by omega) (by omega)]
end Go.Proofs.Ytomilmaeiokaaaa
