/-
  FORECAST, THE WALKS: the reference's Check and Expected.
-/
import Derived.Test.YtfhmhkpplcbiiaaProg
import Derived.Test.YtfhmhkpplcbiiaaBase3
import Derived.Test.YtfhmhkpplcbiiaaBase5
import Derived.Test.YtfhmhkpplcbiiaaBase6
import Derived.Test.YtfhmhkpplcbiiaaBase7
import Derived.Test.YtfhmhkpplcbiiaaDrawP
import Derived.Test.YtfhmhkpplcbiiaaDraw4
import Derived.Test.YtfhmhkpplcbiiaaFcP
import Derived.Test.YtfhmhkpplcbiiaaFc1
import Derived.Test.YtfhmhkpplcbiiaaFc2
import Derived.Test.YtfhmhkpplcbiiaaFc3
import Derived.Test.YtfhmhkpplcbiiaaHeld
import Derived.BigQuiet
import Derived.Laws.StructEq
import Derived.StillTailTactics
import Derived.RegionTactic
import Derived.Deep.DeepCutAuto
import Derived.Deep.QuietTactic
import Derived.WalkSpells
import Derived.WalkLawsBesides
namespace Go.Proofs.Ytfhmhkpplcbiiaa
open Go.RowKit
set_option linter.unusedVariables false


set_option maxRecDepth 100000 in
set_option maxHeartbeats 2000000 in
theorem numbers_any (l : List Int) (ao : Option Addr) (len cap : Nat) (w : World) (hs : Sl w 1 ao len cap (cs i64v l)) (hlen : len ≤ 1000000000000) :
    Calls Try.prog 70 #[.slice ao len cap] w (fun e w' => e = .returned (.bool (!l.any badC)) ∧ w' = w) := by
  have HC := Lib.hid hs.count
  obtain ⟨T, hT⟩ : ∃ T, (!l.any badC) = T := ⟨_, rfl⟩
  rw [hT]
  have HT := Lib.hid hT
  clear hT
  go_enter Try.func70, Try.ntmps70
  go_wp2
  go_loop [3] (fun i => ∃ k : Nat, k ≤ len ∧ i = .int .i64 k ∧ Hid (∀ j, j < k → badC (l.getD j 0) = false)) (fun i => len - (intOf i).toNat)
  case atStart => exact ⟨0, by omega, rfl, fun j hj => absurd hj (by omega)⟩
  case round =>
    obtain ⟨k, hk, rfl, hg⟩ := hrel
    by_cases hkl : k < len
    · obtain ⟨b, off, e0, hcell⟩ := hs.at_ k hkl 0
      subst e0
      have hcell' : w.cell? ⟨b, off + k, none⟩ = some (.int .i64 (l.getD k 0)) := hcell
      have hkl' : (k : Int) < (len : Int) := by omega
      have hk0 : (0 : Int) ≤ (k : Int) := by omega
      clear hcell
      have hany : badC (l.getD k 0) = true → T = false := fun hb => by
        rw [← HT.out, show List.any l badC = true from List.any_eq_true.mpr ⟨_, List.getElem_mem (by rw [HC.out]; exact hkl : k < l.length), by simpa [List.getD, show k < l.length by rw [HC.out]; exact hkl] using hb⟩]; rfl
      have HA := Lib.hid hany
      have hg2 : badC (l.getD k 0) = false → Hid (∀ j, j < k + 1 → badC (l.getD j 0) = false) := fun hb j hj => by
          by_cases hjk : j = k
          · subst hjk; exact hb
          · exact hg.out j (by omega)
      have HG := Lib.hid hg2
      clear hany hg2 hg
      generalize l.getD k 0 = x at *
      by_cases x0 : x < 0
      · have ht : T = false := HA.out (by unfold badC; simp [x0])
        subst ht
        go_wp2
        go_ret
        exact ⟨rfl, rfl⟩
      · by_cases x1 : 1000000 < x
        · have ht : T = false := HA.out (by unfold badC; simp [x1])
          subst ht
          go_wp2
          go_ret
          exact ⟨rfl, rfl⟩
        · have hh := HG.out (by unfold badC; simp; omega)
          go_wp2
          go_round
          case rel => exact ⟨k + 1, by omega, by go_num, hh⟩
          case measure => simp [intOf]; omega
    · have hkl' : ¬ (k : Int) < (len : Int) := by omega
      have ht : T = true := by
        rw [← HT.out, show List.any l badC = false from ?_]
        · rfl
        · rw [List.any_eq_false]
          intro x hx
          obtain ⟨j, hj, rfl⟩ := List.getElem_of_mem hx
          have := hg.out j (by have := HC.out; omega)
          simpa [List.getD, hj] using this
      subst ht
      go_wp2
      go_ret
      exact ⟨rfl, rfl⟩

set_option maxRecDepth 100000 in
set_option maxHeartbeats 2000000 in
theorem refCheck_any (st : Int) (xs ys : List Int) (a1 : Option Addr) (l1 c1 : Nat) (a2 : Option Addr) (l2 c2 : Nat) (w : World) (h1 : Sl w 1 a1 l1 c1 (cs i64v xs)) (h2 : Sl w 1 a2 l2 c2 (cs i64v ys)) :
    Calls Try.prog 62 #[cntV st a1 l1 c1 a2 l2 c2] w (RetB (.int .i64 (okC st xs ys)) w) := by
  obtain ⟨T, hT⟩ : ∃ T, okC st xs ys = T := ⟨_, rfl⟩
  rw [hT]
  have HT := Lib.hid hT
  have k1 := h1.count
  have k2 := h2.count
  have K1 := Lib.hid k1
  have K2 := Lib.hid k2
  have H1 := Lib.hid (fun o => h1.ext (below_alloc w o))
  have H2 := Lib.hid (fun o => h2.ext (below_alloc w o))
  clear hT h1 h2 k1 k2
  unfold cntV
  by_cases y0 : 1 ≤ st
  · by_cases y1 : st ≤ 32
    · by_cases y2 : (l1 : Int) = st * 168
      · by_cases y3 : (l2 : Int) = st * 168
        · obtain ⟨B1, hB1⟩ : ∃ B, xs.any badC = B := ⟨_, rfl⟩
          obtain ⟨B2, hB2⟩ : ∃ B, ys.any badC = B := ⟨_, rfl⟩
          have HTT : Hid (T = if (B1 || B2) = true then 1 else 0) := by
            show T = _
            rw [← HT.out]; unfold okC
            rw [if_neg (by omega), if_neg (by rw [K1.out, K2.out]; omega), hB1, hB2]
          have hw1 : IntKind.i64.wrap (st * 168) = st * 168 := by rw [IntKind.wrap_i64]; omega
          have HB1 := Lib.hid hB1
          have HB2 := Lib.hid hB2
          clear hB1 hB2
          go_enter Try.func62, Try.ntmps62
          go_wp2_with fail
          refine (numbers_any xs _ _ _ _ (H1.out _) (by omega)).mono ?_
          rw [HB1.out]
          rintro e w' ⟨rfl, rfl⟩
          cases B1 with
          | true =>
            go_wp2_with fail
            go_ret
            exact ⟨congrArg (fun b => Ending.returned (.int .i64 b)) HTT.out.symm, below_alloc _ _⟩
          | false =>
            go_wp2_with fail
            refine (numbers_any ys _ _ _ _ (H2.out _) (by omega)).mono ?_
            rw [HB2.out]
            rintro e w' ⟨rfl, rfl⟩
            cases B2 with
            | true =>
              go_wp2_with fail
              go_ret
              exact ⟨congrArg (fun b => Ending.returned (.int .i64 b)) HTT.out.symm, below_alloc _ _⟩
            | false =>
              go_wp2_with fail
              go_ret
              exact ⟨congrArg (fun b => Ending.returned (.int .i64 b)) HTT.out.symm, below_alloc _ _⟩
        · have HTT : Hid (T = 3) := by
            show T = _
            rw [← HT.out]; unfold okC
            rw [if_neg (by omega), if_pos (by rw [K1.out, K2.out]; omega)]
          have hw1 : IntKind.i64.wrap (st * 168) = st * 168 := by rw [IntKind.wrap_i64]; omega
          go_enter Try.func62, Try.ntmps62
          go_wp2_with fail
          go_ret
          exact ⟨congrArg (fun b => Ending.returned (.int .i64 b)) HTT.out.symm, below_alloc _ _⟩
      · have HTT : Hid (T = 3) := by
          show T = _
          rw [← HT.out]; unfold okC
          rw [if_neg (by omega), if_pos (by rw [K1.out, K2.out]; omega)]
        have hw1 : IntKind.i64.wrap (st * 168) = st * 168 := by rw [IntKind.wrap_i64]; omega
        go_enter Try.func62, Try.ntmps62
        go_wp2_with fail
        go_ret
        exact ⟨congrArg (fun b => Ending.returned (.int .i64 b)) HTT.out.symm, below_alloc _ _⟩
    · have HTT : Hid (T = 1) := by
        show T = _
        rw [← HT.out]; unfold okC
        rw [if_pos (by omega)]
      go_enter Try.func62, Try.ntmps62
      go_wp2_with fail
      go_ret
      exact ⟨congrArg (fun b => Ending.returned (.int .i64 b)) HTT.out.symm, below_alloc _ _⟩
  · have HTT : Hid (T = 1) := by
      show T = _
      rw [← HT.out]; unfold okC
      rw [if_pos (by omega)]
    go_enter Try.func62, Try.ntmps62
    go_wp2_with fail
    go_ret
    exact ⟨congrArg (fun b => Ending.returned (.int .i64 b)) HTT.out.symm, below_alloc _ _⟩

end Go.Proofs.Ytfhmhkpplcbiiaa
