/-
  WIRE, THE PLAIN LAW: the bytes of a number ('enc', 'zz', 'putInt'). No program in sight.
-/
import Derived.Test.YtdgjdbpbnipjcaaBase7
import Derived.Test.YtdgjdbpbnipjcaaProg
import Derived.BigQuiet
import Derived.Deep.QuietTactic
import Derived.WalkSpells
import Derived.WalkLawsBesides
namespace Go.Proofs.Ytdgjdbpbnipjcaa
open Go.RowKit
set_option linter.unusedVariables false

/-- The bytes of a zigzag number, the lowest seven bits first. -/
def enc (z : BitVec 64) : List UInt8 :=
  if z.toNat < 128 then [UInt8.ofNat z.toNat] else (UInt8.ofNat z.toNat ||| 128) :: enc (z >>> 7)
termination_by z.toNat
decreasing_by
  rw [BitVec.toNat_ushiftRight, Nat.shiftRight_eq_div_pow]
  omega

theorem enc_lo (z : BitVec 64) (h : z.toNat < 128) : enc z = [UInt8.ofNat z.toNat] := by rw [enc, if_pos h]
theorem enc_hi (z : BitVec 64) (h : ¬ z.toNat < 128) : enc z = (UInt8.ofNat z.toNat ||| 128) :: enc (z >>> 7) := by rw [enc, if_neg h]

/-- The zigzag number of a number. -/
def zz (n : Int) : BitVec 64 := (BitVec.ofInt 64 n <<< 1) ^^^ BitVec.ofInt 64 (n / 9223372036854775808)
def putInt (n : Int) : List UInt8 := enc (zz n)

theorem toNat_shr7 (z : BitVec 64) : (z >>> 7).toNat = z.toNat / 128 := by
  rw [BitVec.toNat_ushiftRight, Nat.shiftRight_eq_div_pow]

theorem enc_len : ∀ (k : Nat) (z : BitVec 64), z.toNat < 128 ^ (k + 1) → (enc z).length ≤ k + 1 ∧ 0 < (enc z).length := by
  intro k
  induction k with
  | zero => intro z h; rw [enc_lo z (by omega)]; simp
  | succ k ih =>
    intro z h
    by_cases hz : z.toNat < 128
    · rw [enc_lo z hz]; simp
    · rw [enc_hi z hz]
      have := ih (z >>> 7) (by rw [toNat_shr7]; rw [Nat.pow_succ] at h; omega)
      simp; omega

theorem enc_length (z : BitVec 64) : (enc z).length ≤ 10 ∧ 0 < (enc z).length := by
  have h := z.isLt
  exact enc_len 9 z (by omega)
theorem putInt_length (n : Int) : (putInt n).length ≤ 10 ∧ 0 < (putInt n).length := enc_length _

/-- What is read at a place: the error (0: none), the zigzag number, how many bytes. The bytes from the i-th on; z: what the ones before say. -/
def scanI (i : Nat) (z : BitVec 64) : List UInt8 → Int × BitVec 64 × Nat
  | [] => if 10 ≤ i then (3, 0, 0) else (4, 0, 0)
  | x :: xs =>
    if i = 10 then (3, 0, 0)
    else if x.toNat < 128 then
      if (0 < i ∧ x.toNat = 0) ∨ (i = 9 ∧ 1 < x.toNat) then (3, 0, 0) else (0, z ||| ((BitVec.setWidth 64 x.toBitVec &&& 127#64) <<< (7 * i)), i + 1)
    else scanI (i + 1) (z ||| ((BitVec.setWidth 64 x.toBitVec &&& 127#64) <<< (7 * i))) xs

/-- The number of a zigzag number. -/
def num (z : BitVec 64) : Int := bits BinOp.xor IntKind.i64 (i64of (z >>> 1)) (wrap64 (-i64of (z &&& 1#64)))
/-- What Int answers: the number, the index behind it, the error. -/
def intRes (bs : List UInt8) (at_ : Int) : Int × Int × Int :=
  if at_ < 0 ∨ (bs.length : Int) < at_ then (0, 0, 1)
  else if (scanI 0 0 (bs.drop at_.toNat)).1 = 0 then (num (scanI 0 0 (bs.drop at_.toNat)).2.1, at_ + (scanI 0 0 (bs.drop at_.toNat)).2.2, 0) else (0, 0, (scanI 0 0 (bs.drop at_.toNat)).1)

theorem and128 (x : UInt8) : x.toNat &&& 128 = 0 ↔ x.toNat < 128 := by
  have h : ∀ n : Fin 256, n.val &&& 128 = 0 ↔ n.val < 128 := by decide +kernel
  exact h ⟨x.toNat, x.toNat_lt⟩
end Go.Proofs.Ytdgjdbpbnipjcaa

namespace Go.Proofs.Ytdgjdbpbnipjcaa
open Go.RowKit
set_option linter.unusedVariables false

theorem Try.infoU8 : (Try.prog.info? 5).map (fun i => (i.zero, i.size, i.bytes)) = some (some (.int .u8 0), 1, 1) := by kernel_rfl

/-- A slice of its own is handed back. -/
def RetOwn (w : World) (t : TypeId) (n : Nat) (xs : List Value) (e : Ending) (w' : World) : Prop :=
  ∃ v, e = .returned v ∧ w'.ownsRow w.heap.size t 1 v n xs ∧ Below w.heap.size w w'

def nat64 : Value → Nat | .int _ q => q.toNat | _ => 0
theorem nat64_u64 (a : BitVec 64) : nat64 (u64 a) = a.toNat := by simp [nat64, u64]

set_option maxRecDepth 100000 in
set_option maxHeartbeats 1000000 in
theorem putInt_any (bs : List UInt8) (n : Int) (ao : Option Addr) (len cap : Nat) (w : World) (hs : Sl w 1 ao len cap (cs b8 bs)) (hlen : len ≤ 1000000000000) (h1 : -9223372036854775808 ≤ n) (h2 : n ≤ 9223372036854775807) :
    Calls Try.prog 21 #[.slice ao len cap, .int .i64 n] w (RetOwn w 5 (len + (putInt n).length) (cs b8 (bs ++ putInt n))) := by
  have hle := hs.hle
  have hmax := hs.hmax
  unfold maxLen at hmax
  have hs0 : Acc w w.heap.size 5 1 (.slice ao len len) len (cs b8 bs) := Acc.full ⟨hs.hlen, Nat.le_refl _, by unfold maxLen; omega, fun h => by have := hs.hbare h; omega, hs.hcell⟩
  clear hs
  go_enter Try.func21, Try.ntmps21
  go_wp2
  go_loopw [5, 6] (fun v z wr => ∃ (zb : BitVec 64) (pre : List UInt8), z = u64 zb ∧ Acc wr w.heap.size 5 1 v (len + pre.length) (cs b8 (bs ++ pre)) ∧ Below w.heap.size w wr ∧ Hid (pre ++ enc zb = putInt n))
    (fun _ z _ => nat64 z)
  case atStart => exact ⟨_, [], rfl, by simpa using hs0, Below.refl _ _, rfl⟩
  case round =>
    obtain ⟨zb, pre, rfl, hacc, hbel, hpre⟩ := hrel
    have hsz := hbel.size
    have hpl : pre.length ≤ 9 := by
      have h3 := congrArg List.length hpre.out
      have h4 := putInt_length n
      have h5 := enc_length zb
      rw [List.length_append] at h3
      omega
    by_cases hz : zb.toNat < 128
    · have hz' : ¬ (128 : Int) ≤ (zb.toNat : Int) := by omega
      go_wp2_with (at_builtin; refine wpList_append_one b8 (fun _ => rfl) _ rfl _ _ 30 rfl w.heap.size 5 _ (.int .u8 0) 1 Try.underlying30 Try.infoU8 rfl hacc rfl _ rfl (by unfold maxLen; omega) (by omega) (by omega) ?_)
      intro v' w' ho hg hb
      go_wp2
      go_ret
      have e := hpre.out
      rw [enc_lo zb hz] at e
      refine ⟨v', rfl, ?_, hbel.trans hb⟩
      rw [← e, List.length_append]
      exact ho
    · have hz' : (128 : Int) ≤ (zb.toNat : Int) := by omega
      go_wp2_with (at_builtin; refine wpList_append_one b8 (fun _ => rfl) _ rfl _ _ 30 rfl w.heap.size 5 _ (.int .u8 0) 1 Try.underlying30 Try.infoU8 rfl hacc rfl _ rfl (by unfold maxLen; omega) (by omega) (by omega) ?_)
      intro v' w' ho hg hb
      go_wp2
      go_roundw
      case rel => exact ⟨_, pre ++ [UInt8.ofNat zb.toNat ||| 128], rfl, by rw [List.length_append]; exact .own ho, hbel.trans hb, by have e := hpre.out; rw [enc_hi zb hz] at e; show _ = _; rw [← e]; simp⟩
      case measure =>
        show nat64 (u64 _) < nat64 (u64 _)
        rw [nat64_u64, nat64_u64]
        have := toNat_shr7 zb
        omega

end Go.Proofs.Ytdgjdbpbnipjcaa
