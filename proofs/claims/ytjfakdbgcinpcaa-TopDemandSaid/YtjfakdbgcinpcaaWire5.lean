/-
  WIRE, THE WALKS: PutText, PutInts, and the reference's.
-/
import Derived.Test.YtjfakdbgcinpcaaProg
import Derived.Test.YtjfakdbgcinpcaaBase7
import Derived.Test.YtjfakdbgcinpcaaWire1
import Derived.Test.YtjfakdbgcinpcaaWire2
import Derived.Test.YtjfakdbgcinpcaaWireP
import Derived.BigQuiet
import Derived.Deep.QuietTactic
import Derived.WalkSpells
import Derived.WalkLawsBesides
namespace Go.Proofs.Ytjfakdbgcinpcaa
open Go.RowKit
set_option linter.unusedVariables false




def I64s (l : List Int) : Prop := ∀ n ∈ l, -9223372036854775808 ≤ n ∧ n ≤ 9223372036854775807
theorem I64s.get {l : List Int} (h : I64s l) (k : Nat) : -9223372036854775808 ≤ l.getD k 0 ∧ l.getD k 0 ≤ 9223372036854775807 := by
  by_cases hk : k < l.length
  · have : l.getD k 0 = l[k] := by simp [List.getD, hk]
    rw [this]; exact h _ (List.getElem_mem hk)
  · have : l.getD k 0 = 0 := by simp [List.getD, List.getElem?_eq_none (Nat.le_of_not_lt hk)]
    rw [this]; omega
def putInts (l : List Int) : List UInt8 := putInt l.length ++ l.flatMap putInt
theorem flat_take (l : List Int) (k : Nat) (hk : k < l.length) : (l.take (k + 1)).flatMap putInt = (l.take k).flatMap putInt ++ putInt (l.getD k 0) := by
  rw [List.take_succ_eq_append_getElem hk, List.flatMap_append]
  simp [List.getD, hk]
theorem flat_len (l : List Int) : (l.flatMap putInt).length ≤ 10 * l.length := by
  induction l with
  | nil => simp
  | cons x xs ih =>
    have := putInt_length x
    rw [List.flatMap_cons, List.length_append, List.length_cons]; omega

set_option maxRecDepth 100000 in
set_option maxHeartbeats 1000000 in
theorem putInts_any (bs : List UInt8) (l : List Int) (ao lo : Option Addr) (len cap ll lc : Nat) (w : World) (hs : Sl w 1 ao len cap (cs b8 bs)) (hl : Sl w 1 lo ll lc (cs i64v l)) (hr : I64s l) (hlen : len ≤ 10000000000) (hll : ll ≤ 1000000000) :
    Calls Try.prog 30 #[.slice ao len cap, .slice lo ll lc] w (RetOwn w 5 (len + (putInts l).length) (cs b8 (bs ++ putInts l))) := by
  have hpl := putInt_length ll
  have hcl := hl.count
  have HCL := Lib.hid hcl
  clear hcl
  go_enter Try.func30, Try.ntmps30
  go_wp2_with fail
  refine (putInt_any bs ll ao len cap _ hs (by omega) (by omega) (by omega)).mono ?_
  rintro e w1 ⟨v1, rfl, ho1, hb1⟩
  go_wp2_with fail
  go_loopw [5, 14] (fun v i wr => ∃ (k : Nat) (aa : Option Addr) (n ca : Nat), k ≤ ll ∧ i = .int .i64 k ∧ v = .slice aa n ca ∧ Hid (n = len + (putInt ll ++ (l.take k).flatMap putInt).length) ∧ n ≤ len + 10 + 10 * k ∧ wr.ownsRow w.heap.size 5 1 (.slice aa n ca) n (cs b8 (bs ++ (putInt ll ++ (l.take k).flatMap putInt))) ∧ Below w.heap.size w wr)
    (fun _ i _ => ll - (intOf i).toNat)
  case atStart =>
    obtain ⟨a1, c1, rfl, hs1⟩ := sl_of_own ho1
    exact ⟨0, a1, _, c1, by omega, rfl, rfl, by show _ = _; simp, by omega, by simpa using ho1, hb1⟩
  case round =>
    obtain ⟨k, aa, n, ca, hk, rfl, rfl, hn, hn2, ho, hb⟩ := hrel
    have hz := hb.size
    by_cases hkl : k < ll
    · obtain ⟨b, off, e0, hcell⟩ := hl.at_ k hkl 0
      subst e0
      have hcx : wr.cell? ⟨b, off + k, none⟩ = some (.int .i64 (l.getD k 0)) := (hb.cell (p := ⟨b, off + k, none⟩) (World.block_lt_of_cell? w _ hcell)).trans hcell
      have hrk := hr.get k
      have hft := flat_take l k (by rw [HCL.out]; exact hkl)
      have HFT := Lib.hid hft
      clear hft hcell
      obtain ⟨a', c', e1, hso⟩ := sl_of_own ho
      cases e1
      generalize l.getD k 0 = x at *
      have hpx := putInt_length x
      go_wp2_with fail
      refine (putInt_any _ x aa n ca _ hso (by omega) (by omega) (by omega)).mono ?_
      rintro e w2 ⟨v2, rfl, ho2, hb2⟩
      go_wp2_with fail
      go_roundw
      case rel =>
        obtain ⟨a2, c2, rfl, hs2⟩ := sl_of_own ho2
        refine ⟨k + 1, a2, _, c2, by omega, by go_num, rfl, ?_, by omega, ?_, hb.trans (hb2.mono hz)⟩
        · show _ = _; rw [HFT.out, hn.out]; simp; omega
        · rw [HFT.out]; have := ownsRow_mono ho2 hz; simpa using this
      case measure => simp [intOf]; omega
    · go_wp2
      go_ret
      have hkk : k = ll := by omega
      subst hkk
      have ht : l.take k = l := List.take_of_length_le (by rw [HCL.out]; exact Nat.le_refl _)
      have hn' := hn.out
      rw [ht] at ho hn'
      refine ⟨_, rfl, ?_, hb⟩
      rw [putInts, HCL.out, ← hn']
      exact ho

end Go.Proofs.Ytjfakdbgcinpcaa
