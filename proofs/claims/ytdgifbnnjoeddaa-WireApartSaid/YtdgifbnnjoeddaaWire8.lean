/-
  WIRE, THE WALKS: Same, part.
-/
import Derived.Test.YtdgifbnnjoeddaaProg
import Derived.Test.YtdgifbnnjoeddaaBase2
import Derived.Test.YtdgifbnnjoeddaaWire7
import Derived.Test.YtdgifbnnjoeddaaWireP3
import Derived.Test.YtdgifbnnjoeddaaBase3
import Derived.BigQuiet
import Derived.Deep.QuietTactic
import Derived.WalkSpells
import Derived.WalkLawsBesides
namespace Go.Proofs.Ytdgifbnnjoeddaa
open Go.RowKit
set_option linter.unusedVariables false





theorem refSame_any (xs ys : List UInt8) (ao bo : Option Addr) (la ca lb cb : Nat) (w : World) (ha : Sl w 1 ao la ca (cs b8 xs)) (hb : Sl w 1 bo lb cb (cs b8 ys)) :
    Calls Try.prog 28 #[.slice ao la ca, .slice bo lb cb] w (RetB (.bool (decide (xs = ys))) w) := by
  go_enter Try.func28, Try.ntmps28
  go_wp2_with (first
    | (with_reducible refine wpList_b2s (o := ⟨some 6, _, _, _, _, _⟩) _ rfl 25 9 5 _ rfl Try.underlying25 Try.underlying9 Try.underlying5 ha rfl ?_)
    | (with_reducible refine wpList_b2s (o := ⟨some 8, _, _, _, _, _⟩) _ rfl 25 9 5 _ rfl Try.underlying25 Try.underlying9 Try.underlying5 hb rfl ?_))
  go_ret
  exact ⟨congrArg (fun b => Ending.returned (.bool b)) (by rw [Bool.eq_iff_iff]; simp), Below.refl _ _⟩

set_option maxRecDepth 100000 in
set_option maxHeartbeats 1000000 in
theorem intsSame_any (xs ys : List Int) (ao bo : Option Addr) (la ca lb cb : Nat) (w : World) (ha : Sl w 1 ao la ca (cs i64v xs)) (hb : Sl w 1 bo lb cb (cs i64v ys)) (hla : la ≤ 1000000000000) :
    Calls Try.prog 39 #[.slice ao la ca, .slice bo lb cb] w (RetB (.bool (decide (xs = ys))) w) := by
  have c1 := ha.count
  have c2 := hb.count
  by_cases hl : la = lb
  · subst hl
    have C1 := Lib.hid c1
    have C2 := Lib.hid c2
    clear c1 c2
    go_enter Try.func39, Try.ntmps39
    go_wp2
    go_loopw [5] (fun i wr => ∃ k : Nat, k ≤ la ∧ i = .int .i64 k ∧ Hid (∀ j, j < k → xs.getD j 0 = ys.getD j 0) ∧ Below w.heap.size w wr) (fun i _ => la - (intOf i).toNat)
    case atStart => exact ⟨0, by omega, rfl, fun j hj => by omega, Below.refl _ _⟩
    case round =>
      obtain ⟨k, hk, rfl, hall, hbel⟩ := hrel
      by_cases hkl : k < la
      · obtain ⟨b1, o1, e1, hc1⟩ := (ha.ext hbel).at_ k hkl 0
        obtain ⟨b2, o2, e2, hc2⟩ := (hb.ext hbel).at_ k hkl 0
        subst e1; subst e2
        have hc1' : wr.cell? ⟨b1, o1 + k, none⟩ = some (.int .i64 (xs.getD k 0)) := hc1
        have hc2' : wr.cell? ⟨b2, o2 + k, none⟩ = some (.int .i64 (ys.getD k 0)) := hc2
        clear hc1 hc2
        have hkl' : (k : Int) < (la : Int) := by omega
        have hk0 : (0 : Int) ≤ (k : Int) := by omega
        by_cases hxy : xs.getD k 0 = ys.getD k 0
        · generalize hx : xs.getD k 0 = x at *
          subst hxy
          go_wp2
          go_quiet (fail)
          go_wp2
          go_roundw
          case rel => exact ⟨k + 1, by omega, by go_num, fun j hj => by
            by_cases hjk : j = k
            · subst hjk; exact hx
            · exact hall.out j (by omega), by exact below_drewN hbel _⟩
          case measure => simp [intOf]; omega
        · have hne : ¬ xs = ys := fun h => hxy (by rw [h])
          have HN := Lib.hid hne
          clear hne
          generalize xs.getD k 0 = x at *
          generalize ys.getD k 0 = y at *
          go_wp2
          go_quiet (fail)
          go_wp2
          go_ret
          exact ⟨congrArg (fun b => Ending.returned (.bool b)) (by rw [decide_eq_false HN.out]), by exact below_drewN hbel _⟩
      · have hkl' : ¬ (k : Int) < (la : Int) := by omega
        have hee : xs = ys := by
          apply List.ext_getElem (by rw [C1.out, C2.out])
          intro i h1 h2
          have := hall.out i (by have := C1.out; omega)
          simpa [List.getD, h1, h2] using this
        have HN := Lib.hid hee
        clear hee
        go_wp2
        go_ret
        exact ⟨congrArg (fun b => Ending.returned (.bool b)) (by rw [decide_eq_true HN.out]), hbel⟩
  · have hne : ¬ xs = ys := fun h => hl (by rw [← c1, ← c2, h])
    have HN := Lib.hid hne
    clear hne c1 c2
    have hl' : ¬ (la : Int) = (lb : Int) := by omega
    go_enter Try.func39, Try.ntmps39
    go_wp2
    go_ret
    exact ⟨congrArg (fun b => Ending.returned (.bool b)) (by rw [decide_eq_false HN.out]), Below.refl _ _⟩

def partL (bs : List UInt8) (at_ nx : Int) : List UInt8 := if at_ < 0 ∨ nx < at_ ∨ (bs.length : Int) < nx then [] else (bs.drop at_.toNat).take (nx - at_).toNat
/-- A slice that holds xs is handed back. -/
def RetSl (xs : List UInt8) (w : World) (e : Ending) (w' : World) : Prop := ∃ ao len cap, e = .returned (.slice ao len cap) ∧ Sl w' 1 ao len cap (cs b8 xs) ∧ Below w.heap.size w w'

theorem part_any (bs : List UInt8) (at_ nx : Int) (ao : Option Addr) (len cap : Nat) (w : World) (hs : Sl w 1 ao len cap (cs b8 bs)) (hlen : len ≤ 1000000000) :
    Calls Try.prog 40 #[.slice ao len cap, .int .i64 at_, .int .i64 nx] w (RetSl (partL bs at_ nx) w) := by
  have hc := hs.count
  have hle := hs.hle
  by_cases h : at_ < 0 ∨ nx < at_ ∨ (bs.length : Int) < nx
  · have hp : Hid (partL bs at_ nx = []) := by show _ = _; unfold partL; rw [if_pos h]
    rw [hc] at h
    clear hc
    by_cases g1 : at_ < 0
    · go_enter Try.func40, Try.ntmps40
      go_wp2
      go_ret
      exact ⟨_, _, _, rfl, by rw [hp.out]; exact Sl.nil _ _, Below.refl _ _⟩
    · by_cases g2 : nx < at_
      · go_enter Try.func40, Try.ntmps40
        go_wp2
        go_ret
        exact ⟨_, _, _, rfl, by rw [hp.out]; exact Sl.nil _ _, Below.refl _ _⟩
      · have g3 : (len : Int) < nx := by omega
        go_enter Try.func40, Try.ntmps40
        go_wp2
        go_ret
        exact ⟨_, _, _, rfl, by rw [hp.out]; exact Sl.nil _ _, Below.refl _ _⟩
  · have hp : Hid (partL bs at_ nx = (bs.drop at_.toNat).take (nx - at_).toNat) := by show _ = _; unfold partL; rw [if_neg h]
    rw [hc] at h
    clear hc
    obtain ⟨p, rfl⟩ := Int.eq_ofNat_of_zero_le (show 0 ≤ at_ by omega)
    obtain ⟨q, rfl⟩ := Int.eq_ofNat_of_zero_le (show 0 ≤ nx by omega)
    have g1 : ¬ (p : Int) < 0 := by omega
    have g2 : ¬ (q : Int) < (p : Int) := by omega
    have g3 : ¬ (len : Int) < (q : Int) := by omega
    obtain ⟨ao', hrun, hs'⟩ := slice_mid (P := Try.prog) 25 5 Try.underlying25 Try.sizeU8 hs p q (q : Int) rfl (by omega) (by omega)
    clear h
    go_enter Try.func40, Try.ntmps40
    go_wp2
    go_ret
    refine ⟨ao', q - p, cap - p, rfl, ?_, Below.refl _ _⟩
    rw [hp.out]
    have e : ((q : Int) - (p : Int)).toNat = q - p := by omega
    rw [e, Int.toNat_natCast]
    exact hs'
end Go.Proofs.Ytdgifbnnjoeddaa
