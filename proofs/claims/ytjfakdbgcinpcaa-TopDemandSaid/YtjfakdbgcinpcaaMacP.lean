/-
  MAC, THE PLAIN LAW: SipHash-2-4 as the walks say it. No program in sight.
-/
import Derived.Test.YtjfakdbgcinpcaaBase0
namespace Go.Proofs.Ytjfakdbgcinpcaa
open Go.RowKit
set_option linter.unusedVariables false

abbrev V4 := BitVec 64 × BitVec 64 × BitVec 64 × BitVec 64
def rotl (a : BitVec 64) (k : Nat) : BitVec 64 := a <<< k ||| a >>> (64 - k)
def sip (v : V4) : V4 :=
  (rotl (v.1 + v.2.1) 32 + (rotl v.2.2.2 16 ^^^ (v.2.2.1 + v.2.2.2)),
   rotl (rotl v.2.1 13 ^^^ (v.1 + v.2.1)) 17 ^^^ ((v.2.2.1 + v.2.2.2) + (rotl v.2.1 13 ^^^ (v.1 + v.2.1))),
   rotl ((v.2.2.1 + v.2.2.2) + (rotl v.2.1 13 ^^^ (v.1 + v.2.1))) 32,
   rotl (rotl v.2.2.2 16 ^^^ (v.2.2.1 + v.2.2.2)) 21 ^^^ (rotl (v.1 + v.2.1) 32 + (rotl v.2.2.2 16 ^^^ (v.2.2.1 + v.2.2.2))))
def takeS (v : V4) (m : BitVec 64) : V4 :=
  ((sip (sip (v.1, v.2.1, v.2.2.1, v.2.2.2 ^^^ m))).1 ^^^ m, (sip (sip (v.1, v.2.1, v.2.2.1, v.2.2.2 ^^^ m))).2)

/-- A word, the lowest byte first; from the k-th byte on. -/
def le (k : Nat) (z : BitVec 64) : List UInt8 → BitVec 64
  | [] => z
  | x :: xs => le (k + 1) (z ||| BitVec.setWidth 64 x.toBitVec <<< (8 * k)) xs
def start (ka kb : BitVec 64) : V4 := (ka ^^^ 8317987319222330741#64, kb ^^^ 7237128888997146477#64, ka ^^^ 7816392313619706465#64, kb ^^^ 8387220255154660723#64)
/-- The whole groups of eight bytes. -/
def absorb : Nat → V4 → List UInt8 → V4 × List UInt8
  | 0, v, bs => (v, bs)
  | n + 1, v, bs => if 8 ≤ bs.length then absorb n (takeS v (le 0 0 (bs.take 8))) (bs.drop 8) else (v, bs)
def last (bs : List UInt8) (rest : List UInt8) : BitVec 64 := le 0 0 rest ||| BitVec.ofInt 64 bs.length <<< 56
def fin4 (v : V4) : V4 := sip (sip (sip (sip (v.1, v.2.1, v.2.2.1 ^^^ 255#64, v.2.2.2))))
def out4 (v : V4) : BitVec 64 := v.1 ^^^ v.2.1 ^^^ v.2.2.1 ^^^ v.2.2.2
def sipSum (ka kb : BitVec 64) (bs : List UInt8) : BitVec 64 :=
  out4 (fin4 (takeS (absorb bs.length (start ka kb) bs).1 (last bs (absorb bs.length (start ka kb) bs).2)))

theorem absorb_stop (n : Nat) (v : V4) (bs : List UInt8) (h : bs.length < 8) : absorb n v bs = (v, bs) := by
  cases n with
  | zero => rfl
  | succ n => rw [absorb, if_neg (by omega)]
theorem absorb_go (n : Nat) (v : V4) (bs : List UInt8) (h : 8 ≤ bs.length) : absorb (n + 1) v bs = absorb n (takeS v (le 0 0 (bs.take 8))) (bs.drop 8) := by
  rw [absorb, if_pos h]

end Go.Proofs.Ytjfakdbgcinpcaa
