/-
  CRC, THE WALKS: the frames; the reference's Same.
-/
import Derived.Test.YtmanoeimnipjjaaProg
import Derived.Test.YtmanoeimnipjjaaBase3
import Derived.Test.YtmanoeimnipjjaaBase5
import Derived.Test.YtmanoeimnipjjaaBase6
import Derived.Test.YtmanoeimnipjjaaBase7
import Derived.Test.YtmanoeimnipjjaaBase8
import Derived.Test.YtmanoeimnipjjaaBase9
import Derived.Test.YtmanoeimnipjjaaCrc3
import Derived.Test.YtmanoeimnipjjaaWire5
import Derived.Test.YtmanoeimnipjjaaHeld
import Derived.BigQuiet
import Derived.Laws.StructEq
import Derived.StillTailTactics
import Derived.RegionTactic
import Derived.Deep.DeepCutAuto
import Derived.Deep.QuietTactic
import Derived.WalkSpells
import Derived.WalkLawsBesides
namespace Go.Proofs.Ytmanoeimnipjjaa
open Go.RowKit
set_option linter.unusedVariables false

set_option maxRecDepth 100000 in
set_option maxHeartbeats 1000000 in
theorem same05_any (xs ys : List UInt8) (ao bo : Option Addr) (la ca lb cb : Nat) (w : World) (ha : Sl w 1 ao la ca (cs b8 xs)) (hb : Sl w 1 bo lb cb (cs b8 ys)) (hla : la ≤ 1000000000000) :
    Calls Try.prog 57 #[.slice ao la ca, .slice bo lb cb] w (RetB (.bool (decide (xs = ys))) w) := by
  have c1 := ha.count
  have c2 := hb.count
  by_cases hl : la = lb
  · subst hl
    have C1 := Lib.hid c1
    have C2 := Lib.hid c2
    clear c1 c2
    go_enter Try.func57, Try.ntmps57
    go_wp2
    go_loopw [5] (fun i wr => ∃ k : Nat, k ≤ la ∧ i = .int .i64 k ∧ Hid (∀ j, j < k → xs.getD j 0 = ys.getD j 0) ∧ Below w.heap.size w wr) (fun i _ => la - (intOf i).toNat)
    case atStart => exact ⟨0, by omega, rfl, fun j hj => by omega, Below.refl _ _⟩
    case round =>
      obtain ⟨k, hk, rfl, hall, hbel⟩ := hrel
      by_cases hkl : k < la
      · obtain ⟨b1, o1, e1, hc1⟩ := (ha.ext hbel).at_ k hkl 0
        obtain ⟨b2, o2, e2, hc2⟩ := (hb.ext hbel).at_ k hkl 0
        subst e1; subst e2
        have hkl' : (k : Int) < (la : Int) := by omega
        have hk0 : (0 : Int) ≤ (k : Int) := by omega
        by_cases hxy : xs.getD k 0 = ys.getD k 0
        · generalize hx : xs.getD k 0 = x at *
          rw [← hxy] at hc2
          go_wp2
          go_quiet (fail)
          go_wp2
          go_roundw
          case rel => exact ⟨k + 1, by omega, by go_num, fun j hj => by
            by_cases hjk : j = k
            · subst hjk; rw [hx]; exact hxy
            · exact hall.out j (by omega), by exact below_drewN hbel _⟩
          case measure => simp [intOf]; omega
        · have hne : ¬ xs = ys := fun h => hxy (by rw [h])
          have HN := Lib.hid hne
          clear hne
          generalize xs.getD k 0 = x at *
          generalize ys.getD k 0 = y at *
          go_wp2
          go_quiet (fail)
          go_wp2
          go_ret
          exact ⟨congrArg (fun b => Ending.returned (.bool b)) (by rw [decide_eq_false HN.out]), by exact below_drewN hbel _⟩
      · have hkl' : ¬ (k : Int) < (la : Int) := by omega
        have hee : xs = ys := by
          apply List.ext_getElem (by rw [C1.out, C2.out])
          intro i h1 h2
          have := hall.out i (by have := C1.out; omega)
          simpa [List.getD, h1, h2] using this
        have HN := Lib.hid hee
        clear hee
        go_wp2
        go_ret
        exact ⟨congrArg (fun b => Ending.returned (.bool b)) (by rw [decide_eq_true HN.out]), hbel⟩
  · have hne : ¬ xs = ys := fun h => hl (by rw [← c1, ← c2, h])
    have HN := Lib.hid hne
    clear hne c1 c2
    have hl' : ¬ (la : Int) = (lb : Int) := by omega
    go_enter Try.func57, Try.ntmps57
    go_wp2
    go_ret
    exact ⟨congrArg (fun b => Ending.returned (.bool b)) (by rw [decide_eq_false HN.out]), Below.refl _ _⟩

/-- The frame of bs. -/
def frameB (bs : List UInt8) : List UInt8 := putInt bs.length ++ bs ++ tail4 (crc bs)
/-- A slice of its own, and an error. -/
def RetOwnE (w : World) (t : TypeId) (n : Nat) (xs : List Value) (er : Int) (e : Ending) (w' : World) : Prop :=
  ∃ v, e = .returned (.tuple #[v, .int .i64 er]) ∧ w'.ownsRow w.heap.size t 1 v n xs ∧ Below w.heap.size w w'

set_option maxRecDepth 100000 in
set_option maxHeartbeats 1000000 in
theorem seal_big (ao : Option Addr) (len cap : Nat) (w : World) (hlen : 65536 < len) :
    Calls Try.prog 55 #[.slice ao len cap] w (RetB (.tuple #[.slice none 0 0, .int .i64 8]) w) := by
  have h : (65536 : Int) < (len : Int) := by omega
  go_enter Try.func55, Try.ntmps55
  go_wp2
  go_ret2
  exact ⟨rfl, Below.refl _ _⟩
set_option maxRecDepth 100000 in
set_option maxHeartbeats 1000000 in
theorem refSeal_big (ao : Option Addr) (len cap : Nat) (w : World) (hlen : 65536 < len) :
    Calls Try.prog 56 #[.slice ao len cap] w (RetB (.tuple #[.slice none 0 0, .int .i64 8]) w) := by
  have h : (65536 : Int) < (len : Int) := by omega
  go_enter Try.func56, Try.ntmps56
  go_wp2
  go_ret2
  exact ⟨rfl, Below.refl _ _⟩

set_option maxRecDepth 100000 in
set_option maxHeartbeats 1000000 in
theorem seal_any (bs : List UInt8) (ao : Option Addr) (len cap : Nat) (w : World) (hs : Sl w 1 ao len cap (cs b8 bs)) (hlen : len ≤ 65536) :
    Calls Try.prog 55 #[.slice ao len cap] w (RetOwnE w 5 (frameB bs).length (cs b8 (frameB bs)) 0) := by
  have hpl := putInt_length len
  have hc := hs.count
  have hF : frameB bs = putInt len ++ bs ++ tail4 (crc bs) := by unfold frameB; rw [hc]
  have hFl : (frameB bs).length = (putInt len).length + len + 4 := by rw [hF]; simp [tail4_len, hc]; omega
  have HF := Lib.hid hF
  have HFL := Lib.hid hFl
  clear hF hFl hc
  have h : ¬ (65536 : Int) < (len : Int) := by omega
  go_enter Try.func55, Try.ntmps55
  go_wp2_with fail
  refine (putInt_any [] (len : Int) none 0 0 _ (Sl.nil _ _) (by omega) (by omega) (by omega)).mono ?_
  rintro e w1 ⟨v1, rfl, ho1, hb1⟩
  rw [List.nil_append, Nat.zero_add] at ho1
  generalize putInt (len : Int) = P at *
  have z1 := hb1.size
  go_wp2_with (at_builtin; refine wpList_append_many b8 (fun _ => rfl) _ rfl _ _ 22 rfl w.heap.size 5 (.int .u8 0) 1 Try.underlying22 Try.infoU8 rfl ho1 rfl (hs.ext hb1) rfl (by unfold maxLen; omega) (by omega) (by omega) ?_)
  intro v2 w2 ho2 hb2
  have hb12 := hb1.trans hb2
  have z2 := hb12.size
  go_wp2_with fail
  refine (tail_any bs ao len cap _ (hs.ext hb12) (by omega)).mono ?_
  rintro e w3 ⟨v3, rfl, ho3, hb3⟩
  have ho2' := ownsRow_ext ho2 hb3
  have hb13 := hb12.trans (hb3.mono z2)
  have z3 := hb13.size
  obtain ⟨a3, c3, rfl, hs3⟩ := sl_of_own ho3
  go_wp2_with (at_builtin; refine wpList_append_many b8 (fun _ => rfl) _ rfl _ _ 22 rfl w.heap.size 5 (.int .u8 0) 1 Try.underlying22 Try.infoU8 rfl ho2' rfl hs3 rfl (by unfold maxLen; omega) (by omega) (by omega) ?_)
  intro v4 w4 ho4 hb4
  go_wp2
  go_ret2
  exact ⟨v4, rfl, by rw [HFL.out, HF.out, List.append_assoc]; exact ho4, hb13.trans hb4⟩

set_option maxRecDepth 100000 in
set_option maxHeartbeats 1000000 in
theorem refSeal_any (bs : List UInt8) (ao : Option Addr) (len cap : Nat) (w : World) (hs : Sl w 1 ao len cap (cs b8 bs)) (hlen : len ≤ 65536) :
    Calls Try.prog 56 #[.slice ao len cap] w (RetOwnE w 5 (frameB bs).length (cs b8 (frameB bs)) 0) := by
  have hpl := putInt_length len
  have hc := hs.count
  have hF : frameB bs = putInt len ++ bs ++ tail4 (crc bs) := by unfold frameB; rw [hc]
  have hFl : (frameB bs).length = (putInt len).length + len + 4 := by rw [hF]; simp [tail4_len, hc]; omega
  have HF := Lib.hid hF
  have HFL := Lib.hid hFl
  clear hF hFl hc
  have h : ¬ (65536 : Int) < (len : Int) := by omega
  go_enter Try.func56, Try.ntmps56
  go_wp2_with fail
  refine (refPutInt_any [] (len : Int) none 0 0 _ (Sl.nil _ _) (by omega) (by omega) (by omega)).mono ?_
  rintro e w1 ⟨v1, rfl, ho1, hb1⟩
  rw [List.nil_append, Nat.zero_add] at ho1
  generalize putInt (len : Int) = P at *
  have z1 := hb1.size
  go_wp2_with (at_builtin; refine wpList_append_many b8 (fun _ => rfl) _ rfl _ _ 22 rfl w.heap.size 5 (.int .u8 0) 1 Try.underlying22 Try.infoU8 rfl ho1 rfl (hs.ext hb1) rfl (by unfold maxLen; omega) (by omega) (by omega) ?_)
  intro v2 w2 ho2 hb2
  have hb12 := hb1.trans hb2
  have z2 := hb12.size
  go_wp2_with fail
  refine (refCrc_any bs ao len cap _ (hs.ext hb12) (by omega)).mono ?_
  rintro e w2' ⟨rfl, hb2'⟩
  have ho2' := ownsRow_ext ho2 hb2'
  have hb12' := hb12.trans (hb2'.mono z2)
  have z2' := hb12'.size
  clear ho2
  go_wp2_with fail
  refine (refTail_any (crc bs) _).mono ?_
  rintro e w3 ⟨v3, rfl, ho3, hb3⟩
  have ho2'' := ownsRow_ext ho2' hb3
  have hb13 := hb12'.trans (hb3.mono z2')
  have z3 := hb13.size
  clear ho2'
  obtain ⟨a3, c3, rfl, hs3⟩ := sl_of_own ho3
  go_wp2_with (at_builtin; refine wpList_append_many b8 (fun _ => rfl) _ rfl _ _ 22 rfl w.heap.size 5 (.int .u8 0) 1 Try.underlying22 Try.infoU8 rfl ho2'' rfl hs3 rfl (by unfold maxLen; omega) (by omega) (by omega) ?_)
  intro v4 w4 ho4 hb4
  go_wp2
  go_ret2
  exact ⟨v4, rfl, by rw [HFL.out, HF.out, List.append_assoc]; exact ho4, hb13.trans hb4⟩
end Go.Proofs.Ytmanoeimnipjjaa
