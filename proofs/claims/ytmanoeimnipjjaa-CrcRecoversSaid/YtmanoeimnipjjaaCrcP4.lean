/-
  CRC, THE PLAIN LAW: the frames of the longest complete beginning are recovered. No program in sight.
-/
import Derived.Test.YtmanoeimnipjjaaCrcP3
import Derived.Test.YtmanoeimnipjjaaWireP7
namespace Go.Proofs.Ytmanoeimnipjjaa
open Go.RowKit
set_option linter.unusedVariables false

theorem intRes_pre_short (pre x : List UInt8) (h : intRes x 0 = (0, 0, 4)) : intRes (pre ++ x) pre.length = (0, 0, 4) := by
  unfold intRes at h ⊢
  rw [if_neg (by omega)] at h
  rw [if_neg (by simp only [List.length_append]; omega), Int.toNat_natCast, List.drop_left]
  simp only [Int.toNat_zero, List.drop_zero] at h
  split at h
  · simp only [Prod.mk.injEq] at h; omega
  · rename_i hn
    rw [if_neg hn]
    exact h
/-- What is shorter than a frame is not opened. -/
theorem openRes_short (pre bs : List UInt8) (k : Nat) (hb : bs.length ≤ 65536) (hk : k < (frameB bs).length) : openRes (pre ++ (frameB bs).take k) pre.length = ([], 0, 4) := by
  rw [frameB_len] at hk
  by_cases hp : k < (putInt bs.length).length
  · have e : (frameB bs).take k = (putInt bs.length).take k := by rw [frameB_eq, List.take_append_of_le_length (by omega)]
    have hi := intRes_pre_short pre _ (short_of bs.length k hp)
    rw [e]
    unfold openRes
    rw [hi, if_pos (show (4 : Int) ≠ 0 by decide)]
  · obtain ⟨m, rfl⟩ : ∃ m, k = (putInt bs.length).length + m := ⟨k - (putInt bs.length).length, by omega⟩
    have e : (frameB bs).take ((putInt bs.length).length + m) = putInt bs.length ++ (bs ++ tail4 (crc bs)).take m := by
      rw [frameB_eq, List.take_append]
      simp [List.take_of_length_le]
    have hi := intRes_put pre ((bs ++ tail4 (crc bs)).take m) bs.length (by omega) (by omega)
    rw [e]
    unfold openRes
    rw [hi]
    simp only
    rw [if_neg (by decide), if_neg (by omega), if_pos]
    simp only [List.length_append, List.length_take, tail4_len]
    omega

def cat (l : List (List UInt8)) : List UInt8 := l.flatMap frameB
theorem cat_append (a b : List (List UInt8)) : cat (a ++ b) = cat a ++ cat b := by unfold cat; rw [List.flatMap_append]
theorem cat_one (x : List UInt8) : cat [x] = frameB x := by unfold cat; simp
theorem cat_cons (x : List UInt8) (l : List (List UInt8)) : cat (x :: l) = frameB x ++ cat l := by unfold cat; simp
/-- Where frame j begins. -/
def offs (l : List (List UInt8)) (j : Nat) : Nat := (cat (l.take j)).length
theorem offs_zero (l : List (List UInt8)) : offs l 0 = 0 := rfl
theorem offs_succ (l : List (List UInt8)) (j : Nat) (hj : j < l.length) : offs l (j + 1) = offs l j + (frameB (l.getD j [])).length := by
  unfold offs
  rw [List.take_succ_eq_append_getElem hj, cat_append, cat_one, List.length_append]
  simp [List.getD, hj]
theorem offs_all (l : List (List UInt8)) : offs l l.length = (cat l).length := by unfold offs; rw [List.take_length]
theorem cat_split (l : List (List UInt8)) (j : Nat) (hj : j < l.length) : cat l = cat (l.take j) ++ (frameB (l.getD j []) ++ cat (l.drop (j + 1))) := by
  conv => lhs; rw [← List.take_append_drop j l, List.drop_eq_getElem_cons hj]
  rw [cat_append, cat_cons]
  simp [List.getD, hj]

theorem recov_cut (l : List (List UInt8)) (hl : ∀ k, k < l.length → (l.getD k []).length ≤ 65536) (cut whole : Nat) (hw : whole ≤ l.length) (hc : offs l whole ≤ cut) (hcl : cut ≤ (cat l).length) (hn : whole = l.length ∨ cut < offs l (whole + 1)) :
    ∀ (d j f : Nat), j + d = whole → d < f → recov ((cat l).take cut) f (offs l j : Nat) = ((l.take whole).drop j, ((offs l whole : Nat) : Int)) := by
  intro d
  induction d with
  | zero =>
    intro j f hj hf
    obtain rfl : j = whole := by omega
    obtain ⟨f, rfl⟩ : ∃ g, f = g + 1 := ⟨f - 1, by omega⟩
    have hopen : openRes ((cat l).take cut) (offs l j : Nat) = ([], 0, 4) := by
      rcases Nat.lt_or_ge j l.length with hjl | hjl
      · have hcut : cut < offs l (j + 1) := by omega
        rw [offs_succ l j hjl] at hcut
        have e : (cat l).take cut = cat (l.take j) ++ (frameB (l.getD j [])).take (cut - offs l j) := by
          rw [cat_split l j hjl, List.take_append, List.take_of_length_le (by unfold offs at hc; exact hc)]
          congr 1
          rw [List.take_append_of_le_length (by have h' := hcut; simp only [offs] at h'; omega)]
          rfl
        rw [e]
        exact openRes_short _ _ _ (hl j hjl) (by omega)
      · have hje : j = l.length := by omega
        have hcc : cut = (cat l).length := by rw [hje, offs_all] at hc; omega
        have e : (cat l).take cut = cat l ++ (frameB []).take 0 := by rw [hcc, List.take_length]; simp
        rw [e, hje, offs_all]
        exact openRes_short _ _ _ (by simp) (by rw [frameB_len]; omega)
    rw [recov_err hopen (by decide)]
    simp
  | succ d ih =>
    intro j f hj hf
    obtain ⟨f, rfl⟩ : ∃ g, f = g + 1 := ⟨f - 1, by omega⟩
    have hjl : j < l.length := by omega
    have hmono : ∀ a b, a ≤ b → b ≤ l.length → offs l a ≤ offs l b := by
      intro a b hab hbl
      unfold offs
      have : l.take b = l.take a ++ (l.take b).drop a := by
        conv => lhs; rw [← List.take_append_drop a (l.take b)]
        rw [List.take_take, Nat.min_eq_left hab]
      rw [this, cat_append, List.length_append]
      omega
    have h1 := hmono (j + 1) whole (by omega) hw
    have hs := offs_succ l j hjl
    have e : (cat l).take cut = cat (l.take j) ++ (frameB (l.getD j []) ++ (cat (l.drop (j + 1))).take (cut - offs l (j + 1))) := by
      rw [cat_split l j hjl, List.take_append, List.take_of_length_le (by simp only [offs] at hs h1 hc; omega)]
      congr 1
      rw [List.take_append, List.take_of_length_le (by simp only [offs] at hs h1 hc; omega)]
      congr 2
      simp only [offs] at hs ⊢
      omega
    have hopen : openRes ((cat l).take cut) (offs l j : Nat) = (l.getD j [], ((offs l (j + 1) : Nat) : Int), 0) := by
      rw [e]
      have := openRes_frame (cat (l.take j)) (l.getD j []) ((cat (l.drop (j + 1))).take (cut - offs l (j + 1))) (hl j hjl)
      show openRes _ ((cat (l.take j)).length : Int) = _
      rw [this, hs]
      rfl
    rw [recov_ok hopen, ih (j + 1) f (by omega) (by omega)]
    congr 1
    have hlt : j < (l.take whole).length := by rw [List.length_take]; omega
    rw [List.drop_eq_getElem_cons hlt]
    congr 1
    simp [List.getD, hjl]
end Go.Proofs.Ytmanoeimnipjjaa
