/-
  CRC, THE PLAIN LAW: a frame is opened wherever it stands; a changed byte is found. No program in sight.
-/
import Derived.Test.YtdgjdbpbnipjcaaProg
import Derived.Test.YtdgjdbpbnipjcaaBase7
import Derived.Test.YtdgjdbpbnipjcaaBase9
import Derived.Test.YtdgjdbpbnipjcaaBase10
import Derived.Test.YtdgjdbpbnipjcaaBase16
import Derived.Test.YtdgjdbpbnipjcaaWireP5
import Derived.BigQuiet
import Derived.Deep.QuietTactic
import Derived.WalkSpells
import Derived.WalkLawsBesides
import Derived.Test.YtdgjdbpbnipjcaaFlat
import Derived.Laws.StructEq
import Derived.StillTailTactics
import Derived.RegionTactic
import Derived.Deep.DeepCutAuto
import Derived.Lib.SmallJoins
namespace Go.Proofs.Ytdgjdbpbnipjcaa
open Go.RowKit
set_option linter.unusedVariables false

/-- What Open answers at bytes that begin with a length, so many bytes, and four more. -/
theorem openRes_parts (pre bs t post : List UInt8) (hb : bs.length ≤ 65536) (ht : t.length = 4) :
    openRes (pre ++ (putInt bs.length ++ (bs ++ (t ++ post)))) pre.length = if t = tail4 (crc bs) then (bs, (pre.length : Int) + (putInt bs.length).length + bs.length + 4, 0) else ([], 0, 13) := by
  have hi := intRes_put pre (bs ++ (t ++ post)) bs.length (by omega) (by omega)
  unfold openRes
  rw [hi]
  simp only
  rw [if_neg (by decide), if_neg (by omega), if_neg (by simp only [List.length_append, ht]; omega)]
  have e1 : ((pre.length : Int) + (putInt bs.length).length).toNat = pre.length + (putInt bs.length).length := by omega
  have e2 : (bs.length : Int).toNat = bs.length := by omega
  have d1 : (pre ++ (putInt bs.length ++ (bs ++ (t ++ post)))).drop (pre.length + (putInt bs.length).length) = bs ++ (t ++ post) := by
    rw [← List.drop_drop, List.drop_left, List.drop_left]
  have d2 : (pre ++ (putInt bs.length ++ (bs ++ (t ++ post)))).drop (pre.length + (putInt bs.length).length + bs.length) = t ++ post := by
    rw [← List.drop_drop, d1, List.drop_left]
  have t1 : (bs ++ (t ++ post)).take bs.length = bs := List.take_left
  have t2 : (t ++ post).take 4 = t := by rw [← ht]; exact List.take_left
  rw [e1, e2, d1, d2, t1, t2]
theorem frameB_eq (bs : List UInt8) : frameB bs = putInt bs.length ++ (bs ++ tail4 (crc bs)) := by unfold frameB; rw [List.append_assoc]
theorem frameB_len (bs : List UInt8) : (frameB bs).length = (putInt bs.length).length + bs.length + 4 := by rw [frameB_eq]; simp [tail4_len]; omega
theorem openRes_frame (pre bs post : List UInt8) (hb : bs.length ≤ 65536) : openRes (pre ++ (frameB bs ++ post)) pre.length = (bs, (pre.length : Int) + (frameB bs).length, 0) := by
  have h := openRes_parts pre bs (tail4 (crc bs)) post hb (tail4_len _)
  rw [if_pos rfl] at h
  rw [frameB_eq, List.append_assoc, List.append_assoc, h, ← frameB_eq, frameB_len]
  congr 2
  omega

end Go.Proofs.Ytdgjdbpbnipjcaa

namespace Go.Proofs.Ytdgjdbpbnipjcaa
open Go.RowKit
set_option linter.unusedVariables false

theorem enc_bytes : ∀ (m : Nat) (z : BitVec 64) (j : Nat), z.toNat ≤ m → j < (enc z).length → (128 ≤ ((enc z).getD j 0).toNat ↔ j < (enc z).length - 1) := by
  intro m
  induction m using Nat.strongRecOn with
  | _ m ih =>
  intro z j hm hj
  by_cases h : z.toNat < 128
  · rw [enc_lo z h] at hj ⊢
    obtain rfl : j = 0 := by simpa using hj
    simp; omega
  · rw [enc_hi z h] at hj ⊢
    have hx : (UInt8.ofNat z.toNat ||| 128).toNat = 128 + z.toNat % 128 := by
      rw [← byte_more, UInt8.toNat_ofNat']; omega
    have hpos := (enc_length (z >>> 7)).2
    cases j with
    | zero => simp only [List.getD_cons_zero, hx, List.length_cons]; omega
    | succ j =>
      have hs := toNat_shr7 z
      have := ih (z >>> 7).toNat (by omega) (z >>> 7) j (Nat.le_refl _) (by simpa using hj)
      simp only [List.getD_cons_succ, List.length_cons]
      omega

theorem short_of (n : Int) (i : Nat) (hi : i < (putInt n).length) : intRes ((putInt n).take i) 0 = (0, 0, 4) := by
  have hl := (putInt_length n).1
  have hall : ∀ j, j < i → 128 ≤ (((putInt n).take i).getD j 0).toNat := by
    intro j hj
    have := (enc_bytes _ (zz n) j (Nat.le_refl _) (by show j < (putInt n).length; omega)).2 (by show j < (putInt n).length - 1; omega)
    have e : ((putInt n).take i).getD j 0 = (enc (zz n)).getD j 0 := by rw [putInt]; simp [List.getD, hj]
    rw [e]; exact this
  obtain ⟨a, b, h⟩ := scan_end i ((putInt n).take i) (by omega) (by rw [List.length_take]; omega) hall
  unfold intRes
  rw [if_neg (by omega)]
  simp only [Int.toNat_zero, List.drop_zero]
  rw [h, if_neg (by simp)]
end Go.Proofs.Ytdgjdbpbnipjcaa

namespace Go.Proofs.Ytdgjdbpbnipjcaa
open Go.RowKit
set_option linter.unusedVariables false

theorem intRes_pre_short (pre x : List UInt8) (h : intRes x 0 = (0, 0, 4)) : intRes (pre ++ x) pre.length = (0, 0, 4) := by
  unfold intRes at h ⊢
  rw [if_neg (by omega)] at h
  rw [if_neg (by simp only [List.length_append]; omega), Int.toNat_natCast, List.drop_left]
  simp only [Int.toNat_zero, List.drop_zero] at h
  split at h
  · simp only [Prod.mk.injEq] at h; omega
  · rename_i hn
    rw [if_neg hn]
    exact h
/-- What is shorter than a frame is not opened. -/
theorem openRes_short (pre bs : List UInt8) (k : Nat) (hb : bs.length ≤ 65536) (hk : k < (frameB bs).length) : openRes (pre ++ (frameB bs).take k) pre.length = ([], 0, 4) := by
  rw [frameB_len] at hk
  by_cases hp : k < (putInt bs.length).length
  · have e : (frameB bs).take k = (putInt bs.length).take k := by rw [frameB_eq, List.take_append_of_le_length (by omega)]
    have hi := intRes_pre_short pre _ (short_of bs.length k hp)
    rw [e]
    unfold openRes
    rw [hi, if_pos (show (4 : Int) ≠ 0 by decide)]
  · obtain ⟨m, rfl⟩ : ∃ m, k = (putInt bs.length).length + m := ⟨k - (putInt bs.length).length, by omega⟩
    have e : (frameB bs).take ((putInt bs.length).length + m) = putInt bs.length ++ (bs ++ tail4 (crc bs)).take m := by
      rw [frameB_eq, List.take_append]
      simp [List.take_of_length_le]
    have hi := intRes_put pre ((bs ++ tail4 (crc bs)).take m) bs.length (by omega) (by omega)
    rw [e]
    unfold openRes
    rw [hi]
    simp only
    rw [if_neg (by decide), if_neg (by omega), if_pos]
    simp only [List.length_append, List.length_take, tail4_len]
    omega

end Go.Proofs.Ytdgjdbpbnipjcaa
