/-
  WIRE, THE WALKS: PutInt.
-/
import Derived.Test.YtjfakdbgcinpcaaProg
import Derived.Test.YtjfakdbgcinpcaaBase7
import Derived.Test.YtjfakdbgcinpcaaWireP
import Derived.BigQuiet
import Derived.Deep.QuietTactic
import Derived.WalkSpells
import Derived.WalkLawsBesides
namespace Go.Proofs.Ytjfakdbgcinpcaa
open Go.RowKit
set_option linter.unusedVariables false

theorem Try.infoU8 : (Try.prog.info? 5).map (fun i => (i.zero, i.size, i.bytes)) = some (some (.int .u8 0), 1, 1) := by kernel_rfl

/-- A slice of its own is handed back. -/
def RetOwn (w : World) (t : TypeId) (n : Nat) (xs : List Value) (e : Ending) (w' : World) : Prop :=
  ∃ v, e = .returned v ∧ w'.ownsRow w.heap.size t 1 v n xs ∧ Below w.heap.size w w'

def nat64 : Value → Nat | .int _ q => q.toNat | _ => 0
theorem nat64_u64 (a : BitVec 64) : nat64 (u64 a) = a.toNat := by simp [nat64, u64]

set_option maxRecDepth 100000 in
set_option maxHeartbeats 1000000 in
theorem putInt_any (bs : List UInt8) (n : Int) (ao : Option Addr) (len cap : Nat) (w : World) (hs : Sl w 1 ao len cap (cs b8 bs)) (hlen : len ≤ 1000000000000) (h1 : -9223372036854775808 ≤ n) (h2 : n ≤ 9223372036854775807) :
    Calls Try.prog 38 #[.slice ao len cap, .int .i64 n] w (RetOwn w 5 (len + (putInt n).length) (cs b8 (bs ++ putInt n))) := by
  have hle := hs.hle
  have hmax := hs.hmax
  unfold maxLen at hmax
  have hs0 : Acc w w.heap.size 5 1 (.slice ao len len) len (cs b8 bs) := Acc.full ⟨hs.hlen, Nat.le_refl _, by unfold maxLen; omega, fun h => by have := hs.hbare h; omega, hs.hcell⟩
  clear hs
  go_enter Try.func38, Try.ntmps38
  go_wp2
  go_loopw [5, 6] (fun v z wr => ∃ (zb : BitVec 64) (pre : List UInt8), z = u64 zb ∧ Acc wr w.heap.size 5 1 v (len + pre.length) (cs b8 (bs ++ pre)) ∧ Below w.heap.size w wr ∧ Hid (pre ++ enc zb = putInt n))
    (fun _ z _ => nat64 z)
  case atStart => exact ⟨_, [], rfl, by simpa using hs0, Below.refl _ _, rfl⟩
  case round =>
    obtain ⟨zb, pre, rfl, hacc, hbel, hpre⟩ := hrel
    have hsz := hbel.size
    have hpl : pre.length ≤ 9 := by
      have h3 := congrArg List.length hpre.out
      have h4 := putInt_length n
      have h5 := enc_length zb
      rw [List.length_append] at h3
      omega
    by_cases hz : zb.toNat < 128
    · have hz' : ¬ (128 : Int) ≤ (zb.toNat : Int) := by omega
      go_wp2_with (at_builtin; refine wpList_append_one b8 (fun _ => rfl) _ rfl _ _ 68 rfl w.heap.size 5 _ (.int .u8 0) 1 Try.underlying68 Try.infoU8 rfl hacc rfl _ rfl (by unfold maxLen; omega) (by omega) (by omega) ?_)
      intro v' w' ho hg hb
      go_wp2
      go_ret
      have e := hpre.out
      rw [enc_lo zb hz] at e
      refine ⟨v', rfl, ?_, hbel.trans hb⟩
      rw [← e, List.length_append]
      exact ho
    · have hz' : (128 : Int) ≤ (zb.toNat : Int) := by omega
      go_wp2_with (at_builtin; refine wpList_append_one b8 (fun _ => rfl) _ rfl _ _ 68 rfl w.heap.size 5 _ (.int .u8 0) 1 Try.underlying68 Try.infoU8 rfl hacc rfl _ rfl (by unfold maxLen; omega) (by omega) (by omega) ?_)
      intro v' w' ho hg hb
      go_wp2
      go_roundw
      case rel => exact ⟨_, pre ++ [UInt8.ofNat zb.toNat ||| 128], rfl, by rw [List.length_append]; exact .own ho, hbel.trans hb, by have e := hpre.out; rw [enc_hi zb hz] at e; show _ = _; rw [← e]; simp⟩
      case measure =>
        show nat64 (u64 _) < nat64 (u64 _)
        rw [nat64_u64, nat64_u64]
        have := toNat_shr7 zb
        omega

end Go.Proofs.Ytjfakdbgcinpcaa
