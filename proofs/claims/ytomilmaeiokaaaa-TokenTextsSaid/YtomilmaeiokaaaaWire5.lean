/-
  WIRE, THE WALKS: PutText, PutInts, and the reference's.
-/
import Derived.Test.YtomilmaeiokaaaaProg
import Derived.Test.YtomilmaeiokaaaaBase15
import Derived.Test.YtomilmaeiokaaaaWire4
import Derived.BigQuiet
import Derived.Deep.QuietTactic
import Derived.WalkSpells
import Derived.WalkLawsBesides
namespace Go.Proofs.Ytomilmaeiokaaaa
open Go.RowKit
set_option linter.unusedVariables false




def I64s (l : List Int) : Prop := ∀ n ∈ l, -9223372036854775808 ≤ n ∧ n ≤ 9223372036854775807
theorem I64s.get {l : List Int} (h : I64s l) (k : Nat) : -9223372036854775808 ≤ l.getD k 0 ∧ l.getD k 0 ≤ 9223372036854775807 := by
  by_cases hk : k < l.length
  · have : l.getD k 0 = l[k] := by simp [List.getD, hk]
    rw [this]; exact h _ (List.getElem_mem hk)
  · have : l.getD k 0 = 0 := by simp [List.getD, List.getElem?_eq_none (Nat.le_of_not_lt hk)]
    rw [this]; omega
def putInts (l : List Int) : List UInt8 := putInt l.length ++ l.flatMap putInt
def putText (s : List UInt8) : List UInt8 := putInt s.length ++ s

theorem flat_take (l : List Int) (k : Nat) (hk : k < l.length) : (l.take (k + 1)).flatMap putInt = (l.take k).flatMap putInt ++ putInt (l.getD k 0) := by
  rw [List.take_succ_eq_append_getElem hk, List.flatMap_append]
  simp [List.getD, hk]
theorem flat_len (l : List Int) : (l.flatMap putInt).length ≤ 10 * l.length := by
  induction l with
  | nil => simp
  | cons x xs ih =>
    have := putInt_length x
    rw [List.flatMap_cons, List.length_append, List.length_cons]; omega

set_option maxRecDepth 100000 in
set_option maxHeartbeats 1000000 in
theorem refPutInt_any (bs : List UInt8) (n : Int) (ao : Option Addr) (len cap : Nat) (w : World) (hs : Sl w 1 ao len cap (cs b8 bs)) (hlen : len ≤ 100000000000) (h1 : -9223372036854775808 ≤ n) (h2 : n ≤ 9223372036854775807) :
    Calls Try.prog 13 #[.slice ao len cap, .int .i64 n] w (RetOwn w 5 (len + (putInt n).length) (cs b8 (bs ++ putInt n))) := by
  have hpl := putInt_length n
  go_enter Try.func13, Try.ntmps13
  go_wp2_with fail
  refine (code_any n _ h1 h2).mono ?_
  rintro e w1 ⟨v1, rfl, ho1, hb1⟩
  obtain ⟨a1, c1, rfl, hs1⟩ := sl_of_own ho1
  have hz := hb1.size
  go_wp2_with fail
  refine (joined_any bs (putInt n) ao a1 len cap _ c1 w1 (hs.ext hb1) hs1 (by omega) (by omega)).mono ?_
  rintro e w2 ⟨v2, rfl, ho2, hb2⟩
  go_wp2
  go_ret
  exact ⟨v2, rfl, ownsRow_mono ho2 hz, hb1.trans (hb2.mono hz)⟩

set_option maxRecDepth 100000 in
set_option maxHeartbeats 1000000 in
theorem putText_any (bs : List UInt8) (s : ByteArray) (ao : Option Addr) (len cap : Nat) (w : World) (hs : Sl w 1 ao len cap (cs b8 bs)) (hlen : len ≤ 100000000000) (hss : s.size ≤ 100000000000) :
    Calls Try.prog 14 #[.slice ao len cap, .string s] w (RetOwn w 5 (len + (putText s.data.toList).length) (cs b8 (bs ++ putText s.data.toList))) := by
  have hpl := putInt_length s.size
  go_enter Try.func14, Try.ntmps14
  go_wp2_with fail
  refine (putInt_any bs s.size ao len cap _ hs (by omega) (by omega) (by omega)).mono ?_
  rintro e w1 ⟨v1, rfl, ho1, hb1⟩
  have hz := hb1.size
  go_wp2_with (at_builtin; refine wpList_append_string b8 rfl _ rfl _ _ 22 9 rfl w.heap.size 5 (.int .u8 0) 1 Try.underlying22 Try.underlying9 Try.infoU8 rfl ho1 rfl rfl (by unfold maxLen; omega) (by omega) (by omega) ?_)
  intro v2 w2 ho2 hb2
  go_wp2
  go_ret
  refine ⟨v2, rfl, ?_, hb1.trans hb2⟩
  have e1 : s.data.toList.length = s.size := by rw [Array.length_toList]; rfl
  rw [putText, e1, List.length_append, e1, ← Nat.add_assoc]
  exact ho2

set_option maxRecDepth 100000 in
set_option maxHeartbeats 1000000 in
theorem refPutText_any (bs : List UInt8) (s : ByteArray) (ao : Option Addr) (len cap : Nat) (w : World) (hs : Sl w 1 ao len cap (cs b8 bs)) (hlen : len ≤ 10000000000) (hss : s.size ≤ 10000000000) :
    Calls Try.prog 15 #[.slice ao len cap, .string s] w (RetOwn w 5 (len + (putText s.data.toList).length) (cs b8 (bs ++ putText s.data.toList))) := by
  have hpl := putInt_length s.size
  go_enter Try.func15, Try.ntmps15
  go_wp2_with fail
  refine (refPutInt_any bs s.size ao len cap _ hs (by omega) (by omega) (by omega)).mono ?_
  rintro e w1 ⟨v1, rfl, ho1, hb1⟩
  have hz := hb1.size
  obtain ⟨a1, c1, rfl, hs1⟩ := sl_of_own ho1
  go_wp2_with (with_reducible refine wpList_s2b _ rfl 9 22 5 _ rfl Try.underlying9 Try.underlying22 Try.underlying5 rfl ?_ ?_)
  · unfold maxLen; omega
  intro bo cb w2 hs2 hb2
  go_wp2_with fail
  refine (joined_any _ _ a1 bo _ c1 _ cb w2 (hs1.ext hb2) hs2 (by omega) (by omega)).mono ?_
  rintro e w3 ⟨v3, rfl, ho3, hb3⟩
  have hz2 := hb2.size
  go_wp2
  go_ret
  refine ⟨v3, rfl, ?_, (hb1.trans (hb2.mono hz)).trans (hb3.mono (by omega))⟩
  have e1 : s.data.toList.length = s.size := by rw [Array.length_toList]; rfl
  rw [putText, e1, List.length_append, e1, ← Nat.add_assoc]
  have := ownsRow_mono ho3 (Nat.le_trans hz hz2)
  simpa using this

set_option maxRecDepth 100000 in
set_option maxHeartbeats 1000000 in
theorem putInts_any (bs : List UInt8) (l : List Int) (ao lo : Option Addr) (len cap ll lc : Nat) (w : World) (hs : Sl w 1 ao len cap (cs b8 bs)) (hl : Sl w 1 lo ll lc (cs i64v l)) (hr : I64s l) (hlen : len ≤ 10000000000) (hll : ll ≤ 1000000000) :
    Calls Try.prog 16 #[.slice ao len cap, .slice lo ll lc] w (RetOwn w 5 (len + (putInts l).length) (cs b8 (bs ++ putInts l))) := by
  have hpl := putInt_length ll
  have hcl := hl.count
  have HCL := Lib.hid hcl
  clear hcl
  go_enter Try.func16, Try.ntmps16
  go_wp2_with fail
  refine (putInt_any bs ll ao len cap _ hs (by omega) (by omega) (by omega)).mono ?_
  rintro e w1 ⟨v1, rfl, ho1, hb1⟩
  go_wp2_with fail
  go_loopw [5, 14] (fun v i wr => ∃ (k : Nat) (aa : Option Addr) (n ca : Nat), k ≤ ll ∧ i = .int .i64 k ∧ v = .slice aa n ca ∧ Hid (n = len + (putInt ll ++ (l.take k).flatMap putInt).length) ∧ n ≤ len + 10 + 10 * k ∧ wr.ownsRow w.heap.size 5 1 (.slice aa n ca) n (cs b8 (bs ++ (putInt ll ++ (l.take k).flatMap putInt))) ∧ Below w.heap.size w wr)
    (fun _ i _ => ll - (intOf i).toNat)
  case atStart =>
    obtain ⟨a1, c1, rfl, hs1⟩ := sl_of_own ho1
    exact ⟨0, a1, _, c1, by omega, rfl, rfl, by show _ = _; simp, by omega, by simpa using ho1, hb1⟩
  case round =>
    obtain ⟨k, aa, n, ca, hk, rfl, rfl, hn, hn2, ho, hb⟩ := hrel
    have hz := hb.size
    by_cases hkl : k < ll
    · obtain ⟨b, off, e0, hcell⟩ := hl.at_ k hkl 0
      subst e0
      have hcx : wr.cell? ⟨b, off + k, none⟩ = some (.int .i64 (l.getD k 0)) := (hb.cell (p := ⟨b, off + k, none⟩) (World.block_lt_of_cell? w _ hcell)).trans hcell
      have hrk := hr.get k
      have hft := flat_take l k (by rw [HCL.out]; exact hkl)
      have HFT := Lib.hid hft
      clear hft hcell
      obtain ⟨a', c', e1, hso⟩ := sl_of_own ho
      cases e1
      generalize l.getD k 0 = x at *
      have hpx := putInt_length x
      go_wp2_with fail
      refine (putInt_any _ x aa n ca _ hso (by omega) (by omega) (by omega)).mono ?_
      rintro e w2 ⟨v2, rfl, ho2, hb2⟩
      go_wp2_with fail
      go_roundw
      case rel =>
        obtain ⟨a2, c2, rfl, hs2⟩ := sl_of_own ho2
        refine ⟨k + 1, a2, _, c2, by omega, by go_num, rfl, ?_, by omega, ?_, hb.trans (hb2.mono hz)⟩
        · show _ = _; rw [HFT.out, hn.out]; simp; omega
        · rw [HFT.out]; have := ownsRow_mono ho2 hz; simpa using this
      case measure => simp [intOf]; omega
    · go_wp2
      go_ret
      have hkk : k = ll := by omega
      subst hkk
      have ht : l.take k = l := List.take_of_length_le (by rw [HCL.out]; exact Nat.le_refl _)
      have hn' := hn.out
      rw [ht] at ho hn'
      refine ⟨_, rfl, ?_, hb⟩
      rw [putInts, HCL.out, ← hn']
      exact ho

set_option maxRecDepth 100000 in
set_option maxHeartbeats 1000000 in
theorem refPutInts_any (bs : List UInt8) (l : List Int) (ao lo : Option Addr) (len cap ll lc : Nat) (w : World) (hs : Sl w 1 ao len cap (cs b8 bs)) (hl : Sl w 1 lo ll lc (cs i64v l)) (hr : I64s l) (hlen : len ≤ 10000000000) (hll : ll ≤ 1000000000) :
    Calls Try.prog 17 #[.slice ao len cap, .slice lo ll lc] w (RetOwn w 5 (len + (putInts l).length) (cs b8 (bs ++ putInts l))) := by
  have hpl := putInt_length ll
  have hcl := hl.count
  have HCL := Lib.hid hcl
  clear hcl
  go_enter Try.func17, Try.ntmps17
  go_wp2_with fail
  refine (refPutInt_any bs ll ao len cap _ hs (by omega) (by omega) (by omega)).mono ?_
  rintro e w1 ⟨v1, rfl, ho1, hb1⟩
  go_wp2_with fail
  go_loopw [5, 6] (fun v i wr => ∃ (k : Nat) (aa : Option Addr) (n ca : Nat), k ≤ ll ∧ i = .int .i64 k ∧ v = .slice aa n ca ∧ Hid (n = len + (putInt ll ++ (l.take k).flatMap putInt).length) ∧ n ≤ len + 10 + 10 * k ∧ wr.ownsRow w.heap.size 5 1 (.slice aa n ca) n (cs b8 (bs ++ (putInt ll ++ (l.take k).flatMap putInt))) ∧ Below w.heap.size w wr)
    (fun _ i _ => ll - (intOf i).toNat)
  case atStart =>
    obtain ⟨a1, c1, rfl, hs1⟩ := sl_of_own ho1
    exact ⟨0, a1, _, c1, by omega, rfl, rfl, by show _ = _; simp, by omega, by simpa using ho1, hb1⟩
  case round =>
    obtain ⟨k, aa, n, ca, hk, rfl, rfl, hn, hn2, ho, hb⟩ := hrel
    have hz := hb.size
    by_cases hkl : k < ll
    · obtain ⟨b, off, e0, hcell⟩ := hl.at_ k hkl 0
      subst e0
      have hcx : wr.cell? ⟨b, off + k, none⟩ = some (.int .i64 (l.getD k 0)) := (hb.cell (p := ⟨b, off + k, none⟩) (World.block_lt_of_cell? w _ hcell)).trans hcell
      have hrk := hr.get k
      have hft := flat_take l k (by rw [HCL.out]; exact hkl)
      have HFT := Lib.hid hft
      clear hft hcell
      generalize l.getD k 0 = x at *
      have hpx := putInt_length x
      go_wp2_with fail
      refine (code_any x _ (by omega) (by omega)).mono ?_
      rintro e w2 ⟨v2, rfl, ho2, hb2⟩
      have hz2 := hb2.size
      obtain ⟨a2, c2, rfl, hs2⟩ := sl_of_own ho2
      go_wp2_with (at_builtin; refine wpList_append_many b8 (fun _ => rfl) _ rfl _ _ 22 rfl w.heap.size 5 (.int .u8 0) 1 Try.underlying22 Try.infoU8 rfl (ownsRow_ext ho hb2) rfl hs2 rfl (by unfold maxLen; omega) (by omega) (by omega) ?_)
      intro v3 w3 ho3 hb3
      go_wp2
      go_roundw
      case rel =>
        obtain ⟨a3, c3, rfl, hs3⟩ := sl_of_own ho3
        refine ⟨k + 1, a3, _, c3, by omega, by go_num, rfl, ?_, by omega, ?_, (hb.trans (hb2.mono hz)).trans hb3⟩
        · show _ = _; rw [HFT.out, hn.out]; simp; omega
        · rw [HFT.out]; simpa using ho3
      case measure => simp [intOf]; omega
    · go_wp2
      go_ret
      have hkk : k = ll := by omega
      subst hkk
      have ht : l.take k = l := List.take_of_length_le (by rw [HCL.out]; exact Nat.le_refl _)
      have hn' := hn.out
      rw [ht] at ho hn'
      refine ⟨_, rfl, ?_, hb⟩
      rw [putInts, HCL.out, ← hn']
      exact ho
end Go.Proofs.Ytomilmaeiokaaaa
