/-
  CRC, THE WALKS: Sum and tail, the reference's Sum and Tail.
-/
import Derived.Test.YtmanoeimnipjjaaProg
import Derived.Test.YtmanoeimnipjjaaBase3
import Derived.Test.YtmanoeimnipjjaaBase5
import Derived.Test.YtmanoeimnipjjaaBase6
import Derived.Test.YtmanoeimnipjjaaBase7
import Derived.Test.YtmanoeimnipjjaaBase8
import Derived.Test.YtmanoeimnipjjaaBase9
import Derived.Test.YtmanoeimnipjjaaCrcP2
import Derived.Test.YtmanoeimnipjjaaCrc1
import Derived.Test.YtmanoeimnipjjaaWire2
import Derived.Test.YtmanoeimnipjjaaHeld
import Derived.BigQuiet
import Derived.Deep.QuietTactic
import Derived.Deep.WholeRow
import Derived.Deep.DeepCutAuto
import Derived.WalkSpells
import Derived.WalkLawsBesides
namespace Go.Proofs.Ytmanoeimnipjjaa
open Go.RowKit
set_option linter.unusedVariables false

theorem idx_arr (a : Addr) (c : UInt8) (w : World) : (Instr.indexAt 123 (.pointer (some a)) (b8 c)).run Try.prog w = .ok (.pointer (some (a.add c.toNat))) w := by
  have h1 : Try.prog.underlying 123 = some (.array (Try.prog.arrayLen 123) (Try.prog.elem 123)) := by kernel_rfl
  have h2 : Try.prog.arrayLen 123 = 256 := by kernel_rfl
  have h3 : (sizeOf (Try.prog.elem 123)).run Try.prog w = .ok 1 w := by kernel_rfl
  have := c.toNat_lt
  unfold b8
  rw [run_indexAt_array _ _ _ _ _ h1, h2, if_pos (by omega), h3]
  simp [Result.andThen]
def crcT : List (BitVec 32) := (List.range 256).map fun i => stepN 8 (BitVec.ofNat 32 i)
theorem crcT_len : crcT.length = 256 := by simp [crcT]
theorem crcT_get (c : UInt8) : crcT.getD c.toNat 0 = stepN 8 (BitVec.ofNat 32 c.toNat) := by
  have := c.toNat_lt
  simp [crcT, List.getD, this]
theorem crc_round (x : BitVec 32) (c : UInt8) : x >>> 8 ^^^ crcT.getD (UInt8.ofNat x.toNat ^^^ c).toNat 0 = crcByte x c := by
  rw [crcT_get]
  apply table_way
  have h1 := (UInt8.ofNat x.toNat ^^^ c).toNat_lt
  apply BitVec.eq_of_toNat_eq
  rw [BitVec.toNat_ofNat, BitVec.toNat_and, BitVec.toNat_xor]
  have h2 : (zx c).toNat = c.toNat := by
    have := c.toNat_lt
    unfold zx
    rw [BitVec.toNat_setWidth]
    show c.toNat % _ = _
    omega
  have h3 : (UInt8.ofNat x.toNat ^^^ c).toNat = (x.toNat % 256) ^^^ c.toNat := by
    rw [UInt8.toNat_xor, UInt8.toNat_ofNat']
  have h4 : (255#32).toNat = 2 ^ 8 - 1 := by decide
  have h5 := c.toNat_lt
  rw [Nat.mod_eq_of_lt (by omega), h2, h3, h4, Nat.and_two_pow_sub_one_eq_mod]
  rw [Nat.xor_mod_two_pow]
  congr 1
  omega

set_option maxRecDepth 100000 in
set_option maxHeartbeats 4000000 in
theorem crcSum_any (bs : List UInt8) (ao : Option Addr) (len cap : Nat) (w : World) (hs : Sl w 1 ao len cap (cs b8 bs)) (hlen : len ≤ 1000000000) :
    Calls Try.prog 53 #[.slice ao len cap] w (RetB (.int .i64 ((crc bs).toNat : Int)) w) := by
  have hcount := hs.count
  have HC := Lib.hid hcount
  clear hcount
  obtain ⟨hz, hi⟩ := zero_of_info info_tab
  have hone : (cs u32 crcT).toArray.all (·.oneCell') = true := all_oneCell_toArray (fun v hv => by
    simp only [cs, List.mem_map] at hv
    obtain ⟨x, _, rfl⟩ := hv
    rfl)
  have hst : ∀ w1 : World, (Instr.storeAt 123 (.pointer (some ⟨w1.heap.size, 0, none⟩)) (.agg (cs u32 crcT).toArray)).run Try.prog (w1.alloc (.cells (Array.replicate 256 (.int .u32 0)) 123)) = .ok () (w1.alloc (.cells (cs u32 crcT).toArray 123)) :=
    fun w1 => run_storeAt_new w1 _ _ _ (by rw [hi]; simp [cs_length, crcT_len]) (by simp [cs_length, crcT_len]) hone
  have htab : ∀ w1 : World, Calls Try.prog 79 #[] w1 (RetB (.agg (cs u32 crcT).toArray) w1) := fun w1 => table_any w1
  clear hi hone
  obtain ⟨T0, hT0⟩ : ∃ T0, T0 = (cs u32 crcT).toArray := ⟨_, rfl⟩
  rw [← hT0] at hst htab
  have HT0 := Lib.hid hT0
  clear hT0
  generalize Array.replicate 256 (Value.int .u32 0) = Z0 at hz hst
  go_enter Try.func53, Try.ntmps53
  go_wp2_with (first
    | (go_at_call 79; refine (htab _).mono ?_; rintro e w1 ⟨rfl, hb1⟩)
    | (refine wpList_store_run rfl 123 _ _ rfl _ _ rfl rfl (hst _) ?_))
  go_loopw [4, 10] (fun x i wr => ∃ (k : Nat) (z : BitVec 32), k ≤ len ∧ i = .int .i64 k ∧ x = u32 z ∧ Hid (crcSt z (bs.drop k) = crcSt 4294967295#32 bs) ∧ wr.heap[w1.heap.size]? = some (.cells T0 123) ∧ Below w.heap.size w wr) (fun _ i _ => len - (intOf i).toNat)
  case atStart => exact ⟨0, _, by omega, rfl, rfl, rfl, hp_new rfl, below_step hb1 (below_alloc _ _)⟩
  case round =>
    obtain ⟨k, z, hk, rfl, rfl, hle, hT, hb⟩ := hrel
    by_cases hkl : k < len
    · obtain ⟨b, off, e0, hcell⟩ := (hs.ext hb).at_ k hkl 0
      subst e0
      have hd : bs.drop k = bs.getD k 0 :: bs.drop (k + 1) := by
        have := HC.out
        rw [List.drop_eq_getElem_cons (by omega)]; simp [List.getD, show k < bs.length by omega]
      have hl := hle.out
      rw [hd, crcSt_cons] at hl
      generalize bs.getD k 0 = c at *
      rw [← crc_round] at hl
      have HL := Lib.hid hl
      clear hd hl hle
      have hTab : Tab wr w1.heap.size crcT := by unfold Tab; rw [hT, HT0.out]
      obtain ⟨hc2, _⟩ := hTab.cell (UInt8.ofNat z.toNat ^^^ c).toNat (by rw [crcT_len]; exact (UInt8.ofNat z.toNat ^^^ c).toNat_lt)
      clear hTab
      generalize crcT.getD (UInt8.ofNat z.toNat ^^^ c).toNat 0 = y at *
      have hix := fun (a : Addr) (w : World) => idx_arr a (UInt8.ofNat z.toNat ^^^ c) w
      generalize (UInt8.ofNat z.toNat ^^^ c).toNat = q at hix hc2
      go_wp2
      go_roundw
      case rel => exact ⟨k + 1, _, by omega, by go_num, rfl, HL, hT, hb⟩
      case measure => simp [intOf]; omega
    · have hl := hle.out
      rw [List.drop_of_length_le (by have := HC.out; omega), crcSt_nil] at hl
      go_wp2
      go_ret
      exact ⟨congrArg (fun n : Nat => Ending.returned (.int .i64 (n : Int))) (by unfold crc; rw [← hl, BitVec.toNat_not]), hb⟩

set_option maxRecDepth 100000 in
set_option maxHeartbeats 4000000 in
theorem refCrc_any (bs : List UInt8) (ao : Option Addr) (len cap : Nat) (w : World) (hs : Sl w 1 ao len cap (cs b8 bs)) (hlen : len ≤ 1000000000) :
    Calls Try.prog 54 #[.slice ao len cap] w (RetB (.int .i64 ((crc bs).toNat : Int)) w) := by
  have hcount := hs.count
  have HC := Lib.hid hcount
  clear hcount
  go_enter Try.func54, Try.ntmps54
  go_wp2
  go_loop [3, 4] (fun x i => ∃ (k : Nat) (z : BitVec 32), k ≤ len ∧ i = .int .i64 k ∧ Hid (x = u64 (wid z)) ∧ Hid (crcSt z (bs.drop k) = crcSt 4294967295#32 bs)) (fun _ i => len - (intOf i).toNat)
  case atStart => exact ⟨0, 4294967295#32, by omega, rfl, by show _ = _; rfl, rfl⟩
  case round =>
    obtain ⟨k, z, hk, rfl, hx, hle⟩ := hrel
    obtain rfl := hx.out
    clear hx
    by_cases hkl : k < len
    · obtain ⟨b, off, e0, hcell⟩ := hs.at_ k hkl 0
      subst e0
      have hd : bs.drop k = bs.getD k 0 :: bs.drop (k + 1) := by
        have := HC.out
        rw [List.drop_eq_getElem_cons (by omega)]; simp [List.getD, show k < bs.length by omega]
      have hl := hle.out
      rw [hd, crcSt_cons] at hl
      generalize bs.getD k 0 = c at *
      have HL := Lib.hid hl
      clear hd hl hle
      have hwx : Hid (wid z ^^^ c.toBitVec.setWidth 64 = wid (z ^^^ zx c)) := by show _ = _; rw [wid_xor, wid_byte]
      generalize hW : wid z = W at *
      clear hW
      go_wp2
      go_loop [3, 5] (fun x j => ∃ m : Nat, m ≤ 8 ∧ j = .int .i64 m ∧ Hid (x = u64 (wid (stepN m (z ^^^ zx c))))) (fun _ j => 8 - (intOf j).toNat)
      case atStart => exact ⟨0, by omega, rfl, by show _ = _; rw [hwx.out]; rfl⟩
      case round =>
        obtain ⟨m, hm, rfl, hx⟩ := hrel
        obtain rfl := hx.out
        clear hx
        by_cases hm8 : m < 8
        · have hs1 : stepN (m + 1) (z ^^^ zx c) = step1 (stepN m (z ^^^ zx c)) := rfl
          have HS := Lib.hid hs1
          clear hs1
          generalize stepN m (z ^^^ zx c) = y at *
          by_cases hy : y.toNat % 2 = 1
          · have hw := Lib.hid (wid_odd hy)
            have hc1 : ((wid y % 2#64).toNat : Int) = 1 := by rw [wid_rem, hy]; rfl
            generalize wid y = Y at *
            go_wp2
            go_round
            case rel => exact ⟨m + 1, by omega, by go_num, by show _ = _; rw [HS.out, ← hw.out]⟩
            case measure => simp [intOf]; omega
          · have hw := Lib.hid (wid_even hy)
            have hc1 : ¬ ((wid y % 2#64).toNat : Int) = 1 := by rw [wid_rem]; omega
            generalize wid y = Y at *
            go_wp2
            go_round
            case rel => exact ⟨m + 1, by omega, by go_num, by show _ = _; rw [HS.out, ← hw.out]⟩
            case measure => simp [intOf]; omega
        · obtain rfl : m = 8 := by omega
          generalize hW : wid (stepN 8 (z ^^^ zx c)) = W at *
          have HW := Lib.hid hW
          clear hW
          go_wp2
          go_round
          case rel => exact ⟨k + 1, crcByte z c, by omega, by go_num, by show _ = _; rw [← HW.out]; rfl, HL⟩
          case measure => simp [intOf]; omega
    · have hl := hle.out
      rw [List.drop_of_length_le (by have := HC.out; omega), crcSt_nil] at hl
      have hN := Lib.hid (wid_not z)
      generalize wid z = W at *
      go_wp2
      go_ret
      exact ⟨congrArg (fun n => Ending.returned (.int .i64 n)) (by rw [hN.out]; unfold crc; rw [← hl]), Below.refl _ _⟩
end Go.Proofs.Ytmanoeimnipjjaa
