/-
  TOKENS, THE REFERENCE: Text.
-/
import Derived.Test.YtomilmaeiokaaaaProg
import Derived.Test.YtomilmaeiokaaaaBase15
import Derived.Test.YtomilmaeiokaaaaMacP
import Derived.Test.YtomilmaeiokaaaaTokP
import Derived.Test.YtomilmaeiokaaaaTkP
import Derived.Test.YtomilmaeiokaaaaTkV
import Derived.Test.YtomilmaeiokaaaaTkT
import Derived.Test.YtomilmaeiokaaaaTkX
import Derived.Test.YtomilmaeiokaaaaTkY
import Derived.Test.YtomilmaeiokaaaaTkE2
import Derived.Test.YtomilmaeiokaaaaTok1
import Derived.Test.YtomilmaeiokaaaaTok2
import Derived.Test.YtomilmaeiokaaaaTok2R
import Derived.Test.YtomilmaeiokaaaaHeld
import Derived.BigQuiet
import Derived.Laws.StructEq
import Derived.StillTailTactics
import Derived.RegionTactic
import Derived.BigRegion
import Derived.Deep.DeepCutAuto
import Derived.Deep.QuietTactic
import Derived.WalkSpells
import Derived.WalkLawsBesides
namespace Go.Proofs.Ytomilmaeiokaaaa
open Go.RowKit
set_option linter.unusedVariables false

def alphaS : ByteArray := ⟨#[48, 49, 50, 51, 52, 53, 54, 55, 56, 57, 97, 98, 99, 100, 101, 102, 103, 104, 106, 107, 109, 110, 112, 113, 114, 115, 116, 118, 119, 120, 121, 122]⟩
theorem alpha_cut (g : Nat) (h : g < 32) (w : World) : (Instr.slice 9 (.string ⟨#[48, 49, 50, 51, 52, 53, 54, 55, 56, 57, 97, 98, 99, 100, 101, 102, 103, 104, 106, 107, 109, 110, 112, 113, 114, 115, 116, 118, 119, 120, 121, 122]⟩) (some (.int .i64 (g : Int))) (some (.int .i64 ((g : Int) + 1))) none).run Try.prog w = .ok (.string ⟨#[alpha g]⟩) w := by
  rw [run_slice_string (P := Try.prog) w 9 _ .i64 .i64 (g : Int) ((g : Int) + 1) Try.underlying9 (by omega) (by omega) (by have : ByteArray.size ⟨#[48, 49, 50, 51, 52, 53, 54, 55, 56, 57, 97, 98, 99, 100, 101, 102, 103, 104, 106, 107, 109, 110, 112, 113, 114, 115, 116, 118, 119, 120, 121, 122]⟩ = 32 := rfl; omega)]
  have hall : ∀ q : Fin 32, (ByteArray.extract ⟨#[48, 49, 50, 51, 52, 53, 54, 55, 56, 57, 97, 98, 99, 100, 101, 102, 103, 104, 106, 107, 109, 110, 112, 113, 114, 115, 116, 118, 119, 120, 121, 122]⟩ q.val (q.val + 1)).data.toList = [alpha q.val] := by decide
  have h1 := hall ⟨g, h⟩
  dsimp only at h1
  rw [show (g : Int).toNat = g from by omega, show ((g : Int) + 1).toNat = g + 1 from by omega]
  generalize ByteArray.extract _ g (g + 1) = x at *
  obtain ⟨⟨l⟩⟩ := x
  dsimp only at h1
  rw [h1]
/-- The reference's text, so many groups. -/
def txA (bs : List UInt8) (j : Nat) : ByteArray := ⟨(refTx bs j).toArray⟩
theorem txA_add (bs : List UInt8) (j : Nat) (hj : j ≤ 1000) (t : TypeId) (w : World) : (binOp .add t (.string (txA bs j)) (.string ⟨#[alpha (grpK bs (5 * j) 5)]⟩)).run Try.prog w = .ok (.string (txA bs (j + 1))) w := by
  have h := run_string_add_lists (P := Try.prog) w (refTx bs j) [alpha (grpK bs (5 * j) 5)] (by rw [refTx_len]; omega) (by simp)
  rw [← refTx_snoc] at h
  simp only [binOp]
  exact h
theorem txA_size (bs : List UInt8) (j : Nat) : (txA bs j).size = j := by
  simp only [txA, ByteArray.size, List.size_toArray, refTx_len]
theorem txA_app (bs : List UInt8) (j : Nat) : txA bs (j + 1) = txA bs j ++ ⟨#[alpha (grpK bs (5 * j) 5)]⟩ := by
  apply ByteArray.ext
  rw [ByteArray.data_append]
  simp only [txA, refTx_snoc, List.append_toArray]
set_option maxRecDepth 100000 in
set_option maxHeartbeats 1000000 in
theorem refText_bad (b r d f t n : Int) (g : BitVec 64) (w : World) (hbad : Hid (Tok.chk ⟨b, r, d, f, t, n⟩ = 1)) : Calls Try.prog 30 #[.agg #[.int .i64 b, .int .i64 r, .int .i64 d, .int .i64 f, .int .i64 t, .int .i64 n, u64 g]] w (RetB (.tuple #[.string ⟨#[]⟩, .int .i64 1]) w) := by
  have HQ := Lib.hid (below_alloc w (.cells #[.int .i64 b, .int .i64 r, .int .i64 d, .int .i64 f, .int .i64 t, .int .i64 n, u64 g] 36))
  have hck := fun w => refCheck_tok b r d f t n g w
  rw [hbad.out] at hck
  have HCK := Lib.hid hck
  clear hck
  go_enter Try.func30, Try.ntmps30
  go_wp2_with fail
  refine (HCK.out _).mono ?_
  rintro e w1 ⟨rfl, hb1⟩
  have HQ1 := Lib.hid (below_step HQ.out hb1)
  clear hb1
  go_wp2
  go_ret2
  exact ⟨rfl, HQ1.out⟩
set_option maxRecDepth 100000 in
set_option maxHeartbeats 1000000 in
theorem refText_ok (b r d f t n : Int) (g : BitVec 64) (w : World) (hok : ¬ Tok.bad ⟨b, r, d, f, t, n⟩) : Calls Try.prog 30 #[.agg #[.int .i64 b, .int .i64 r, .int .i64 d, .int .i64 f, .int .i64 t, .int .i64 n, u64 g]] w (RetB (.tuple #[.string ⟨(txtB (encB b r d f t n g)).toArray⟩, .int .i64 0]) w) := by
  have HQ : Hid (BlkAt (w.alloc (.cells #[.int .i64 b, .int .i64 r, .int .i64 d, .int .i64 f, .int .i64 t, .int .i64 n, u64 g] 36)) w.heap.size #[.int .i64 b, .int .i64 r, .int .i64 d, .int .i64 f, .int .i64 t, .int .i64 n, u64 g] ∧ Below w.heap.size w (w.alloc (.cells #[.int .i64 b, .int .i64 r, .int .i64 d, .int .i64 f, .int .i64 t, .int .i64 n, u64 g] 36))) := ⟨blkNew rfl, below_alloc _ _⟩
  have hck := fun w => refCheck_tok b r d f t n g w
  rw [chk_ok hok] at hck
  have HCK := Lib.hid hck
  have HEN := Lib.hid (fun w => refBytes_any b r d f t n g w hok)
  have hlen := encB_len b r d f t n g
  clear hck hok
  obtain ⟨bs, hbs⟩ : ∃ bs, encB b r d f t n g = bs := ⟨_, rfl⟩
  rw [hbs] at hlen HEN ⊢
  clear hbs
  obtain ⟨L, hL⟩ : ∃ L, bs.length = L := ⟨_, rfl⟩
  rw [hL] at hlen HEN
  have HL := Lib.hid hL
  clear hL
  have hL68 : (L : Int) ≤ 68 := by omega
  go_enter Try.func30, Try.ntmps30
  go_wp2_with fail
  refine (HCK.out _).mono ?_
  rintro e w1 ⟨rfl, hb1⟩
  have HQ1 : Hid (BlkAt w1 w.heap.size #[.int .i64 b, .int .i64 r, .int .i64 d, .int .i64 f, .int .i64 t, .int .i64 n, u64 g] ∧ Below w.heap.size w w1) := ⟨blkBelow hb1 HQ.out.1, below_step HQ.out.2 hb1⟩
  clear hb1 HQ
  obtain ⟨z0, z1, z2, z3, z4, z5, z6⟩ := tok_cells (w := w) (E := 0) HQ1.out.1
  go_wp2_with fail
  refine (HEN.out _).mono ?_
  rintro e w2 ⟨a2, c2, rfl, HS2, hb2⟩
  have HQ2 := Lib.hid (below_step HQ1.out.2 hb2)
  clear hb2 HQ1 z0 z1 z2 z3 z4 z5 z6
  go_upto_region 7 with (fail)
  go_loopw [6, 7] (fun s at_ wr => ∃ (j A : Nat), at_ = .int .i64 (A : Int) ∧ s = .string (txA bs j) ∧ Hid (A = 5 * j ∧ A < 8 * L + 5) ∧ Hid (Below w2.heap.size w2 wr)) (fun _ at_ _ => 8 * L - (intOf at_).toNat)
  case atStart => exact ⟨0, 0, rfl, rfl, Lib.hid ⟨rfl, by omega⟩, Lib.hid (Below.refl _ _)⟩
  case round =>
    obtain ⟨j, A, rfl, rfl, HJ, HB⟩ := hrel
    obtain ⟨wo, hwo⟩ : ∃ wo : World, wo = wr := ⟨_, rfl⟩
    subst hwo
    have hA : (A : Int) < 600 := by have := HJ.out; omega
    have hA0 : (0 : Int) ≤ (A : Int) := by omega
    by_cases hAL : A < 8 * L
    · have hAL' : (A : Int) < 8 * (L : Int) := by omega
      go_upto_region 11 with (fail)
      go_loopw [8, 9] (fun n i w3 => ∃ (k G : Nat), k ≤ 5 ∧ i = .int .i64 (k : Int) ∧ n = .int .i64 (G : Int) ∧ Hid (G = grpK bs A k) ∧ Hid (Below w2.heap.size w2 w3)) (fun _ i _ => 5 - (intOf i).toNat)
      case atStart => exact ⟨0, 0, by omega, rfl, rfl, Lib.hid rfl, HB⟩
      case round =>
        obtain ⟨k, G, hk, rfl, rfl, HG, HB3⟩ := hrel
        obtain ⟨wi, hwi⟩ : ∃ wi : World, wi = wr := ⟨_, rfl⟩
        subst hwi
        have hG32 : G < 64 := by
          rw [HG.out]
          exact Nat.lt_of_lt_of_le (grpK_lt bs A k) (Nat.le_trans (Nat.pow_le_pow_right (by decide) hk) (by decide))
        have hG : (G : Int) < 64 := by omega
        have hG0 : (0 : Int) ≤ (G : Int) := by omega
        by_cases hk5 : k < 5
        · have hk5' : (k : Int) < 5 := by omega
          have hk0 : (0 : Int) ≤ (k : Int) := by omega
          have hbit := bit_any a2 L c2 bs (A + k) wi (HS2.out.ext HB3.out) (by omega) (by omega)
          rw [show ((A + k : Nat) : Int) = (A : Int) + (k : Int) from by omega] at hbit
          have hstep : grpK bs A (k + 1) = 2 * G + bitN bs (A + k) := by rw [HG.out]; rfl
          have hb2 := bitN_lt bs (A + k)
          obtain ⟨bt, hbt⟩ : ∃ bt, bitN bs (A + k) = bt := ⟨_, rfl⟩
          rw [hbt] at hbit hstep hb2
          have HBIT := Lib.hid hbit
          have HST := Lib.hid hstep
          have hbt2 : (bt : Int) < 2 := by omega
          have hbt0 : (0 : Int) ≤ (bt : Int) := by omega
          clear hbit hstep hb2 hbt
          go_wp2_with fail
          refine HBIT.out.mono ?_
          rintro e w5 ⟨rfl, hw5⟩
          subst w5
          go_wp2
          go_roundw
          case rel => exact ⟨k + 1, 2 * G + bt, by omega, by go_num, by first | (congr 1; push_cast; rfl) | go_num, Lib.hid HST.out.symm, HB3⟩
          case measure => simp [intOf]; omega
        · have hk5' : ¬ (k : Int) < 5 := by omega
          obtain rfl : k = 5 := by omega
          have hg32 : G < 32 := by rw [HG.out]; exact grpK_lt bs A 5
          have hcut := fun w => alpha_cut G hg32 w
          have hadd : ∀ t w, (binOp .add t (.string (txA bs j)) (.string ⟨#[alpha G]⟩)).run Try.prog w = .ok (.string (txA bs (j + 1))) w := fun t w => by
            have := txA_add bs j (by have := HJ.out; omega) t w
            rw [← HJ.out.1, ← HG.out] at this
            exact this
          have hsz : ¬ 9223372036854775807 < (txA bs j).size + 1 := by rw [txA_size]; have := HJ.out; omega
          have hap : txA bs j ++ ⟨#[alpha G]⟩ = txA bs (j + 1) := by
            rw [txA_app, HG.out, HJ.out.1]
          have HAP := Lib.hid hap
          clear hadd hap
          go_wp2
          go_roundw
          case rel => exact ⟨j + 1, A + 5, by first | rfl | go_num, by rw [HAP.out], Lib.hid (by have := HJ.out; omega), HB3⟩
          case measure => simp [intOf]; omega
    · have hAL' : ¬ (A : Int) < 8 * (L : Int) := by omega
      have htx : txA bs j = ⟨(txtB bs).toArray⟩ := by
        unfold txA
        rw [refTx_text bs j (by have := HJ.out; rw [HL.out]; omega) (by have := HJ.out; rw [HL.out]; omega)]
      have HTX := Lib.hid htx
      clear htx
      go_wp2
      go_ret2
      exact ⟨by rw [HTX.out]; rfl, below_step HQ2.out HB.out⟩
end Go.Proofs.Ytomilmaeiokaaaa
