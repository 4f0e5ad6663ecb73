/-
  CRC, THE PLAIN LAW: a frame is opened wherever it stands; a changed byte is found. No program in sight.
-/
import Derived.Test.YtmanoeimnipjjaaCrcL1
import Derived.Test.YtmanoeimnipjjaaWireP5
namespace Go.Proofs.Ytmanoeimnipjjaa
open Go.RowKit
set_option linter.unusedVariables false

/-- What Open answers at bytes that begin with a length, so many bytes, and four more. -/
theorem openRes_parts (pre bs t post : List UInt8) (hb : bs.length ≤ 65536) (ht : t.length = 4) :
    openRes (pre ++ (putInt bs.length ++ (bs ++ (t ++ post)))) pre.length = if t = tail4 (crc bs) then (bs, (pre.length : Int) + (putInt bs.length).length + bs.length + 4, 0) else ([], 0, 13) := by
  have hi := intRes_put pre (bs ++ (t ++ post)) bs.length (by omega) (by omega)
  unfold openRes
  rw [hi]
  simp only
  rw [if_neg (by decide), if_neg (by omega), if_neg (by simp only [List.length_append, ht]; omega)]
  have e1 : ((pre.length : Int) + (putInt bs.length).length).toNat = pre.length + (putInt bs.length).length := by omega
  have e2 : (bs.length : Int).toNat = bs.length := by omega
  have d1 : (pre ++ (putInt bs.length ++ (bs ++ (t ++ post)))).drop (pre.length + (putInt bs.length).length) = bs ++ (t ++ post) := by
    rw [← List.drop_drop, List.drop_left, List.drop_left]
  have d2 : (pre ++ (putInt bs.length ++ (bs ++ (t ++ post)))).drop (pre.length + (putInt bs.length).length + bs.length) = t ++ post := by
    rw [← List.drop_drop, d1, List.drop_left]
  have t1 : (bs ++ (t ++ post)).take bs.length = bs := List.take_left
  have t2 : (t ++ post).take 4 = t := by rw [← ht]; exact List.take_left
  rw [e1, e2, d1, d2, t1, t2]
theorem frameB_eq (bs : List UInt8) : frameB bs = putInt bs.length ++ (bs ++ tail4 (crc bs)) := by unfold frameB; rw [List.append_assoc]
theorem frameB_len (bs : List UInt8) : (frameB bs).length = (putInt bs.length).length + bs.length + 4 := by rw [frameB_eq]; simp [tail4_len]; omega
theorem openRes_frame (pre bs post : List UInt8) (hb : bs.length ≤ 65536) : openRes (pre ++ (frameB bs ++ post)) pre.length = (bs, (pre.length : Int) + (frameB bs).length, 0) := by
  have h := openRes_parts pre bs (tail4 (crc bs)) post hb (tail4_len _)
  rw [if_pos rfl] at h
  rw [frameB_eq, List.append_assoc, List.append_assoc, h, ← frameB_eq, frameB_len]
  congr 2
  omega

theorem xor_ne {x y : UInt8} (hy : y ≠ 0) : x ≠ x ^^^ y := by
  intro h
  apply hy
  have := congrArg (fun z => x ^^^ z) h
  simp only [← UInt8.xor_assoc, UInt8.xor_self, UInt8.zero_xor] at this
  exact this.symm
theorem set_split (l : List UInt8) (k : Nat) (y : UInt8) (hk : k < l.length) : l = l.take k ++ l.getD k 0 :: l.drop (k + 1) ∧ l.set k y = l.take k ++ y :: l.drop (k + 1) := by
  refine ⟨?_, ?_⟩
  · have : l.getD k 0 = l[k] := by simp [List.getD, hk]
    rw [this]
    simp
  · rw [List.set_eq_take_append_cons_drop, if_pos hk]
theorem openRes_changed (bs : List UInt8) (at_ : Nat) (y : UInt8) (hb : bs.length ≤ 65536) (h1 : (putInt bs.length).length ≤ at_) (h2 : at_ < (frameB bs).length) (hy : y ≠ 0) :
    openRes ((frameB bs).set at_ ((frameB bs).getD at_ 0 ^^^ y)) 0 = ([], 0, 13) := by
  rw [frameB_len] at h2
  obtain ⟨k, rfl⟩ : ∃ k, at_ = (putInt bs.length).length + k := ⟨at_ - (putInt bs.length).length, by omega⟩
  have hset : ∀ v, (frameB bs).set ((putInt bs.length).length + k) v = putInt bs.length ++ (bs ++ tail4 (crc bs)).set k v := by
    intro v
    rw [frameB_eq, List.set_append_right _ _ (by omega)]
    congr 2
    omega
  have hget : (frameB bs).getD ((putInt bs.length).length + k) 0 = (bs ++ tail4 (crc bs)).getD k 0 := by
    rw [frameB_eq]
    simp only [List.getD]
    rw [List.getElem?_append_right (by omega)]
    congr 2
    omega
  rw [hset, hget]
  by_cases hk : k < bs.length
  · have hg : (bs ++ tail4 (crc bs)).getD k 0 = bs.getD k 0 := by simp only [List.getD]; rw [List.getElem?_append_left hk]
    rw [hg, List.set_append_left _ _ hk]
    have hl : (bs.set k (bs.getD k 0 ^^^ y)).length = bs.length := by simp
    have h := openRes_parts [] (bs.set k (bs.getD k 0 ^^^ y)) (tail4 (crc bs)) [] (by rw [hl]; exact hb) (tail4_len _)
    rw [hl, List.append_nil, List.nil_append] at h
    have h0 : (([] : List UInt8).length : Int) = 0 := rfl
    rw [h0] at h
    rw [h, if_neg]
    intro he
    have hc := tail4_inj he
    obtain ⟨e1, e2⟩ := set_split bs k (bs.getD k 0 ^^^ y) hk
    rw [e2] at hc
    have hc2 : crc (bs.take k ++ bs.getD k 0 :: bs.drop (k + 1)) = crc (bs.take k ++ (bs.getD k 0 ^^^ y) :: bs.drop (k + 1)) := by rw [← e1]; exact hc
    exact xor_ne hy (crc_changed _ _ _ _ hc2)
  · have hk' : k - bs.length < 4 := by omega
    have hg : (bs ++ tail4 (crc bs)).getD k 0 = (tail4 (crc bs)).getD (k - bs.length) 0 := by simp only [List.getD]; rw [List.getElem?_append_right (by omega)]
    rw [hg, List.set_append_right _ _ (by omega)]
    have h := openRes_parts [] bs ((tail4 (crc bs)).set (k - bs.length) ((tail4 (crc bs)).getD (k - bs.length) 0 ^^^ y)) [] hb (by rw [List.length_set]; exact tail4_len _)
    rw [List.append_nil, List.nil_append] at h
    have h0 : (([] : List UInt8).length : Int) = 0 := rfl
    rw [h0] at h
    rw [h, if_neg]
    intro he
    obtain ⟨e1, e2⟩ := set_split (tail4 (crc bs)) (k - bs.length) ((tail4 (crc bs)).getD (k - bs.length) 0 ^^^ y) (by rw [tail4_len]; exact hk')
    have h3 := congrArg (fun l => l.getD (k - bs.length) 0) he
    simp only [List.getD, List.getElem?_set_self (show k - bs.length < (tail4 (crc bs)).length by rw [tail4_len]; exact hk'), Option.getD_some] at h3
    exact xor_ne hy h3.symm

theorem bits_xor_32 (a b : BitVec 32) : bits BinOp.xor IntKind.i64 (a.toNat : Int) (b.toNat : Int) = ((a ^^^ b).toNat : Int) := by
  have ha := a.isLt
  have hb := b.isLt
  rw [bits_xor64, BitVec.toNat_xor]
  have hx : a.toNat ^^^ b.toNat < 2 ^ 32 := Nat.xor_lt_two_pow ha hb
  rw [toInt_small]
  · rw [BitVec.toNat_xor]
    congr 2 <;> (rw [BitVec.toNat_ofInt]; omega)
  · rw [BitVec.toNat_xor, show (BitVec.ofInt 64 (a.toNat : Int)).toNat = a.toNat from by rw [BitVec.toNat_ofInt]; omega, show (BitVec.ofInt 64 (b.toNat : Int)).toNat = b.toNat from by rw [BitVec.toNat_ofInt]; omega]
    omega
end Go.Proofs.Ytmanoeimnipjjaa
