/-
  WIRE, THE WALKS: the reference's Int.
-/
import Derived.Test.YtomilmaeiokaaaaProg
import Derived.Test.YtomilmaeiokaaaaBase15
import Derived.Test.YtomilmaeiokaaaaWire2
import Derived.Test.YtomilmaeiokaaaaWireP2
import Derived.BigQuiet
import Derived.Deep.QuietTactic
import Derived.WalkSpells
import Derived.WalkLawsBesides
namespace Go.Proofs.Ytomilmaeiokaaaa
open Go.RowKit
set_option linter.unusedVariables false


theorem intRes_err {bs : List UInt8} {at_ : Nat} {ao : Option Addr} {len cap : Nat} {w : World} (hs : Sl w 1 ao len cap (cs b8 bs)) (hat : at_ ≤ len) {c : Int} (hc : c ≠ 0) {a : BitVec 64} {b : Nat} (h : scanI 0 0 (bs.drop at_) = (c, a, b)) : intRes bs at_ = (0, 0, c) := by
  have := hs.count
  unfold intRes
  rw [if_neg (by omega), Int.toNat_natCast, h, if_neg hc]
theorem intRes_ok {bs : List UInt8} {at_ : Nat} {ao : Option Addr} {len cap : Nat} {w : World} (hs : Sl w 1 ao len cap (cs b8 bs)) (hat : at_ ≤ len) {z : BitVec 64} {m : Nat} (h : scanI 0 0 (bs.drop at_) = (0, z, m)) : intRes bs at_ = (num z, (at_ : Int) + (m : Int), 0) := by
  have := hs.count
  unfold intRes
  rw [if_neg (by omega), Int.toNat_natCast, h, if_pos rfl]

theorem ret_int {k : IntKind} {a b : Int} (h : a = b) : Ending.returned (.int k a) = .returned (.int k b) := by rw [h]
def Quiet (v : Value) (w : World) (e : Ending) (w' : World) : Prop := e = .returned v ∧ w = w'

theorem low7_rem (y : UInt8) : low7 y = BitVec.setWidth 64 (y.toBitVec % 128#8) := by
  apply BitVec.eq_of_toNat_eq
  have hy := y.toNat_lt
  have e : y.toBitVec.toNat = y.toNat := rfl
  rw [low7, BitVec.toNat_and, BitVec.toNat_setWidth, BitVec.toNat_setWidth, BitVec.toNat_umod, e]
  have h : ∀ n : Fin 256, n.val % 2 ^ 64 &&& (127#64).toNat = n.val % (128#8).toNat % 2 ^ 64 := by decide +kernel
  exact h ⟨y.toNat, hy⟩
theorem half (u : BitVec 64) : i64of (u / 2#64) = ((u.toNat / 2 : Nat) : Int) := by
  have hu := u.isLt
  have e : (u / 2#64).toNat = u.toNat / 2 := by rw [BitVec.toNat_udiv]; rfl
  rw [i64of, toInt_small _ (by omega), e]
end Go.Proofs.Ytomilmaeiokaaaa
