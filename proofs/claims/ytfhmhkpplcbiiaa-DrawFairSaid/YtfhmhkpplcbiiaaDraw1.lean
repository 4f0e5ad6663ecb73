/-
  DRAW, THE WALKS: Total and Pick, the reference's too.
-/
import Derived.Test.YtfhmhkpplcbiiaaProg
import Derived.Test.YtfhmhkpplcbiiaaBase3
import Derived.Test.YtfhmhkpplcbiiaaBase5
import Derived.Test.YtfhmhkpplcbiiaaBase6
import Derived.Test.YtfhmhkpplcbiiaaDrawP
import Derived.Test.YtfhmhkpplcbiiaaHeld
import Derived.BigQuiet
import Derived.Laws.StructEq
import Derived.StillTailTactics
import Derived.RegionTactic
import Derived.Deep.DeepCutAuto
import Derived.Deep.QuietTactic
import Derived.WalkSpells
import Derived.WalkLawsBesides
namespace Go.Proofs.Ytfhmhkpplcbiiaa
open Go.RowKit
set_option linter.unusedVariables false

/-- Two numbers; the world stands. -/
def RetT (r : Int × Int) (w : World) (e : Ending) (w' : World) : Prop := e = .returned (.tuple #[.int .i64 r.1, .int .i64 r.2]) ∧ w = w'
theorem retT_of {r : Int × Int} {a b : Int} (w : World) (h : r = (a, b)) : RetT r w (.returned (.tuple #[.int .i64 a, .int .i64 b])) w := by subst h; exact ⟨rfl, rfl⟩

set_option maxRecDepth 100000 in
set_option maxHeartbeats 2000000 in
theorem total_any (l : List Int) (ao : Option Addr) (len cap : Nat) (w : World) (hs : Sl w 1 ao len cap (cs i64v l)) :
    Calls Try.prog 28 #[.slice ao len cap] w (RetT (total l) w) := by
  have hc := hs.count
  obtain ⟨T, hT⟩ : ∃ T, total l = T := ⟨_, rfl⟩
  rw [hT]
  have HC := Lib.hid hc
  have HT := Lib.hid hT
  clear hT hc
  by_cases hbig : 256 < len
  · have hbig' : (256 : Int) < (len : Int) := by omega
    have hTT : T = (0, 8) := by rw [← HT.out]; unfold total; rw [if_pos (by rw [HC.out]; exact hbig)]
    go_enter Try.func28, Try.ntmps28
    go_wp2
    go_ret2
    exact retT_of _ hTT
  · have hbig' : ¬ (256 : Int) < (len : Int) := by omega
    go_enter Try.func28, Try.ntmps28
    go_wp2
    go_loop [4, 12] (fun s i => ∃ (k : Nat) (S : Int), k ≤ len ∧ i = .int .i64 k ∧ s = .int .i64 S ∧ Hid (S = sumL (l.take k)) ∧ 0 ≤ S ∧ S ≤ (k : Int) * 1125899906842624 ∧ Hid (∀ j, j < k → badW (l.getD j 0) = false)) (fun _ i => len - (intOf i).toNat)
    case atStart => exact ⟨0, 0, by omega, rfl, rfl, rfl, by omega, by omega, fun j hj => absurd hj (by omega)⟩
    case round =>
      obtain ⟨k, S, hk, rfl, rfl, hS, h0, h1, hg⟩ := hrel
      by_cases hkl : k < len
      · obtain ⟨b, off, e0, hcell⟩ := hs.at_ k hkl 0
        subst e0
        have hcell' : w.cell? ⟨b, off + k, none⟩ = some (.int .i64 (l.getD k 0)) := hcell
        have htk := sumL_take l k (by rw [HC.out]; exact hkl)
        have hkl' : (k : Int) < (len : Int) := by omega
        have hk0 : (0 : Int) ≤ (k : Int) := by omega
        clear hcell
        by_cases hbad : badW (l.getD k 0) = true
        · have hTT : T = (0, 1) := by
            rw [← HT.out]; unfold total
            rw [if_neg (by rw [HC.out]; exact hbig), if_pos (any_bad (by rw [HC.out]; exact hkl) hbad)]
          have HTT := Lib.hid hTT
          clear hTT htk
          generalize l.getD k 0 = x at *
          by_cases hx : x < 0
          · clear hbad
            go_wp2
            go_ret2
            exact retT_of _ HTT.out
          · have hx2 : 1125899906842624 < x := by unfold badW at hbad; simp at hbad; omega
            clear hbad
            go_wp2
            go_ret2
            exact retT_of _ HTT.out
        · have hgd : badW (l.getD k 0) = false := by simpa using hbad
          have hx := (good_iff _).1 hgd
          obtain ⟨hx0, hx1⟩ := hx
          have hg2 : Hid (∀ j, j < k + 1 → badW (l.getD j 0) = false) := fun j hj => by
            by_cases hjk : j = k
            · subst hjk; exact hgd
            · exact hg.out j (by omega)
          have HTK := Lib.hid htk
          clear hbad hgd htk hg
          generalize l.getD k 0 = x at *
          have y0 : ¬ x < 0 := by omega
          have y1 : ¬ 1125899906842624 < x := by omega
          have hb2 : S + x ≤ ((k + 1 : Nat) : Int) * 1125899906842624 := by omega
          go_wp2
          go_round
          case rel => exact ⟨k + 1, S + x, by omega, by go_num, by go_num, by show _ = _; rw [HTK.out, hS.out], by omega, hb2, hg2⟩
          case measure => simp [intOf]; omega
      · have hkk : k = len := by omega
        subst hkk
        have hall : l.take k = l := List.take_of_length_le (by rw [HC.out]; exact Nat.le_refl _)
        have hSS : S = sumL l := by rw [hS.out, hall]
        have hTT : T = if 1125899906842624 < S then (0, 2) else if S = 0 then (0, 10) else (S, 0) := by
          rw [← HT.out]; unfold total
          rw [if_neg (by rw [HC.out]; exact hbig), any_good (fun j hj => hg.out j (by rw [HC.out] at hj; exact hj)), if_neg (by decide), hSS]
        clear hall hSS hS hg
        by_cases y : 1125899906842624 < S
        · rw [if_pos y] at hTT
          have HTT := Lib.hid hTT
          clear hTT
          go_wp2
          go_ret2
          exact retT_of _ HTT.out
        · rw [if_neg y] at hTT
          by_cases z : S = 0
          · rw [if_pos z] at hTT
            have HTT := Lib.hid hTT
            clear hTT
            go_wp2
            go_ret2
            exact retT_of _ HTT.out
          · rw [if_neg z] at hTT
            have HTT := Lib.hid hTT
            clear hTT
            go_wp2
            go_ret2
            exact retT_of _ HTT.out
end Go.Proofs.Ytfhmhkpplcbiiaa
