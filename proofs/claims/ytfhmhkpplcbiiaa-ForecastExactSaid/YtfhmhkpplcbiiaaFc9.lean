/-
  FORECAST, THE LAWS' HELPERS: few, expected, scenario, Same, taken.
-/
import Derived.Test.YtfhmhkpplcbiiaaProg
import Derived.Test.YtfhmhkpplcbiiaaBase3
import Derived.Test.YtfhmhkpplcbiiaaBase5
import Derived.Test.YtfhmhkpplcbiiaaBase6
import Derived.Test.YtfhmhkpplcbiiaaBase7
import Derived.Test.YtfhmhkpplcbiiaaDrawP
import Derived.Test.YtfhmhkpplcbiiaaDraw4
import Derived.Test.YtfhmhkpplcbiiaaDraw5
import Derived.Test.YtfhmhkpplcbiiaaDraw6
import Derived.Test.YtfhmhkpplcbiiaaDrawL0
import Derived.Test.YtfhmhkpplcbiiaaDrawP2
import Derived.Test.YtfhmhkpplcbiiaaFcP
import Derived.Test.YtfhmhkpplcbiiaaFc1
import Derived.Test.YtfhmhkpplcbiiaaFc2
import Derived.Test.YtfhmhkpplcbiiaaFc3
import Derived.Test.YtfhmhkpplcbiiaaFc3c
import Derived.Test.YtfhmhkpplcbiiaaFc6
import Derived.Test.YtfhmhkpplcbiiaaFcP2
import Derived.Test.YtfhmhkpplcbiiaaFc7
import Derived.Test.YtfhmhkpplcbiiaaFc8
import Derived.Test.YtfhmhkpplcbiiaaHeld
import Derived.BigQuiet
import Derived.Laws.StructEq
import Derived.StillTailTactics
import Derived.RegionTactic
import Derived.Deep.DeepCutAuto
import Derived.Deep.QuietTactic
import Derived.WalkSpells
import Derived.WalkLawsBesides
namespace Go.Proofs.Ytfhmhkpplcbiiaa
open Go.RowKit
set_option linter.unusedVariables false

set_option maxRecDepth 100000 in
set_option maxHeartbeats 1000000 in
theorem same40_any (xs ys : List Int) (ao bo : Option Addr) (la ca lb cb : Nat) (w : World) (ha : Sl w 1 ao la ca (cs i64v xs)) (hb : Sl w 1 bo lb cb (cs i64v ys)) (hla : la ≤ 1000000000000) :
    Calls Try.prog 49 #[.slice ao la ca, .slice bo lb cb] w (RetB (.bool (decide (xs = ys))) w) := by
  have c1 := ha.count
  have c2 := hb.count
  by_cases hl : la = lb
  · subst hl
    have C1 := Lib.hid c1
    have C2 := Lib.hid c2
    clear c1 c2
    go_enter Try.func49, Try.ntmps49
    go_wp2
    go_loopw [5] (fun i wr => ∃ k : Nat, k ≤ la ∧ i = .int .i64 k ∧ Hid (∀ j, j < k → xs.getD j 0 = ys.getD j 0) ∧ Below w.heap.size w wr) (fun i _ => la - (intOf i).toNat)
    case atStart => exact ⟨0, by omega, rfl, fun j hj => by omega, Below.refl _ _⟩
    case round =>
      obtain ⟨k, hk, rfl, hall, hbel⟩ := hrel
      by_cases hkl : k < la
      · obtain ⟨b1, o1, e1, hc1⟩ := (ha.ext hbel).at_ k hkl 0
        obtain ⟨b2, o2, e2, hc2⟩ := (hb.ext hbel).at_ k hkl 0
        subst e1; subst e2
        have hc1' : wr.cell? ⟨b1, o1 + k, none⟩ = some (.int .i64 (xs.getD k 0)) := hc1
        have hc2' : wr.cell? ⟨b2, o2 + k, none⟩ = some (.int .i64 (ys.getD k 0)) := hc2
        clear hc1 hc2
        have hkl' : (k : Int) < (la : Int) := by omega
        have hk0 : (0 : Int) ≤ (k : Int) := by omega
        by_cases hxy : xs.getD k 0 = ys.getD k 0
        · generalize hx : xs.getD k 0 = x at *
          subst hxy
          go_wp2
          go_quiet (fail)
          go_wp2
          go_roundw
          case rel => exact ⟨k + 1, by omega, by go_num, fun j hj => by
            by_cases hjk : j = k
            · subst hjk; exact hx
            · exact hall.out j (by omega), by exact below_drewN hbel _⟩
          case measure => simp [intOf]; omega
        · have hne : ¬ xs = ys := fun h => hxy (by rw [h])
          have HN := Lib.hid hne
          clear hne
          generalize xs.getD k 0 = x at *
          generalize ys.getD k 0 = y at *
          go_wp2
          go_quiet (fail)
          go_wp2
          go_ret
          exact ⟨congrArg (fun b => Ending.returned (.bool b)) (by rw [decide_eq_false HN.out]), by exact below_drewN hbel _⟩
      · have hkl' : ¬ (k : Int) < (la : Int) := by omega
        have hee : xs = ys := by
          apply List.ext_getElem (by rw [C1.out, C2.out])
          intro i h1 h2
          have := hall.out i (by have := C1.out; omega)
          simpa [List.getD, h1, h2] using this
        have HN := Lib.hid hee
        clear hee
        go_wp2
        go_ret
        exact ⟨congrArg (fun b => Ending.returned (.bool b)) (by rw [decide_eq_true HN.out]), hbel⟩
  · have hne : ¬ xs = ys := fun h => hl (by rw [← c1, ← c2, h])
    have HN := Lib.hid hne
    clear hne c1 c2
    have hl' : ¬ (la : Int) = (lb : Int) := by omega
    go_enter Try.func49, Try.ntmps49
    go_wp2
    go_ret
    exact ⟨congrArg (fun b => Ending.returned (.bool b)) (by rw [decide_eq_false HN.out]), Below.refl _ _⟩


/-- What is asked for. -/
def askV (k p s sl h : Int) : Value := .agg #[.int .i64 k, .int .i64 p, .int .i64 s, .int .i64 sl, .int .i64 h]

set_option maxRecDepth 100000 in
set_option maxHeartbeats 1000000 in
theorem expd_any (st k p s sl h : Int) (xs ys : List Int) (a1 : Option Addr) (l1 c1 : Nat) (a2 : Option Addr) (l2 c2 : Nat) (w : World) (h1 : Sl w 1 a1 l1 c1 (cs i64v xs)) (h2 : Sl w 1 a2 l2 c2 (cs i64v ys)) :
    Calls Try.prog 45 #[cntV st a1 l1 c1 a2 l2 c2, askV k p s sl h] w (RetT3 (expc st xs ys k p s sl h) w) := by
  obtain ⟨⟨o, i, e⟩, hr⟩ : ∃ r, expc st xs ys k p s sl h = r := ⟨_, rfl⟩
  rw [hr]
  have HR := Lib.hid hr
  have H1 := Lib.hid h1
  have H2 := Lib.hid h2
  clear h1 h2 hr
  unfold cntV askV
  go_enter Try.func45, Try.ntmps45
  go_wp2_with fail
  refine (expected_s HR H1 H2 (below_step (below_alloc _ _) (below_alloc _ _))).mono ?_
  rintro er w1 ⟨rfl, hb1⟩
  have HB := Lib.hid (below_step (below_step (below_alloc _ _) (below_alloc _ _)) hb1)
  clear hb1
  go_wp2_with fail
  go_ret3
  exact ⟨rfl, HB.out⟩

set_option maxRecDepth 100000 in
set_option maxHeartbeats 1000000 in
theorem scen_any (st k p s sl h : Int) (xs ys : List Int) (ws : List (BitVec 64)) (a1 : Option Addr) (l1 c1 : Nat) (a2 : Option Addr) (l2 c2 : Nat) (ao : Option Addr) (len cap : Nat) (w : World) (h1 : Sl w 1 a1 l1 c1 (cs i64v xs)) (h2 : Sl w 1 a2 l2 c2 (cs i64v ys)) (hs : Sl w 1 ao len cap (cs u64 ws)) (hlen : len ≤ 1000000000000) :
    Calls Try.prog 47 #[cntV st a1 l1 c1 a2 l2 c2, askV k p s sl h, .slice ao len cap] w (RetLE (caseF (expc st xs ys k p s sl h) ws) w) := by
  have hc := case_any st k p s sl h xs ys ws a1 l1 c1 a2 l2 c2 ao len cap
  unfold cntV at hc
  have HC := Lib.hid hc
  have HS1 := Lib.hid (fun W (hb : Below w.heap.size w W) => h1.ext hb)
  have HS2 := Lib.hid (fun W (hb : Below w.heap.size w W) => h2.ext hb)
  have HS3 := Lib.hid (fun W (hb : Below w.heap.size w W) => hs.ext hb)
  clear h1 h2 hs hc
  unfold cntV askV
  generalize caseF (expc st xs ys k p s sl h) ws = T at *
  go_enter Try.func47, Try.ntmps47
  go_wp2_with fail
  refine (HC.out _ (HS1.out _ (below_step (below_alloc _ _) (below_alloc _ _))) (HS2.out _ (below_step (below_alloc _ _) (below_alloc _ _))) (HS3.out _ (below_step (below_alloc _ _) (below_alloc _ _))) hlen).mono ?_
  rintro er w1 ⟨v, n, rfl, ho, hb1⟩
  have HO := Lib.hid (ownsRow_mono ho (below_step (below_alloc w _) (below_alloc _ _)).size)
  have HB := Lib.hid (below_step (below_step (below_alloc _ _) (below_alloc _ _)) hb1)
  clear hb1 ho
  go_wp2_with fail
  go_ret2
  exact ⟨v, n, rfl, HO.out, HB.out⟩

def fewB (l1 l2 : Nat) : Bool := decide ((l1 : Int) ≤ 1354) && decide ((l2 : Int) ≤ 1354)
set_option maxRecDepth 100000 in
set_option maxHeartbeats 1000000 in
theorem few_any (st : Int) (a1 : Option Addr) (l1 c1 : Nat) (a2 : Option Addr) (l2 c2 : Nat) (w : World) :
    Calls Try.prog 44 #[cntV st a1 l1 c1 a2 l2 c2] w (RetB (.bool (fewB l1 l2)) w) := by
  unfold cntV
  by_cases h1 : (l1 : Int) ≤ 1354
  · by_cases h2 : (l2 : Int) ≤ 1354
    · have hf : fewB l1 l2 = true := by unfold fewB; simp only [h1, h2]; rfl
      rw [hf]
      clear hf
      go_enter Try.func44, Try.ntmps44
      go_wp2
      go_ret
      exact ⟨rfl, below_alloc _ _⟩
    · have hf : fewB l1 l2 = false := by unfold fewB; simp only [h1, h2]; rfl
      rw [hf]
      clear hf
      go_enter Try.func44, Try.ntmps44
      go_wp2
      go_ret
      exact ⟨rfl, below_alloc _ _⟩
  · have hf : fewB l1 l2 = false := by unfold fewB; simp only [h1]; rfl
    rw [hf]
    clear hf
    go_enter Try.func44, Try.ntmps44
    go_wp2
    go_ret
    exact ⟨rfl, below_alloc _ _⟩

/-- How many numbers lie below a. -/
def ltN (a : Int) : List Int → Int
  | [] => 0
  | p :: L => (if p < a then 1 else 0) + ltN a L
theorem ltN_append (a : Int) (L M : List Int) : ltN a (L ++ M) = ltN a L + ltN a M := by
  induction L with
  | nil => simp [ltN]
  | cons p L ih => rw [List.cons_append, ltN, ltN, ih]; omega
theorem ltN_take {a : Int} {L : List Int} {k : Nat} (hk : k < L.length) : ltN a (L.take (k + 1)) = ltN a (L.take k) + (if L.getD k 0 < a then 1 else 0) := by
  rw [List.take_add_one, ltN_append]
  simp [List.getD, hk, ltN]
theorem ltN_le (a : Int) : ∀ L : List Int, 0 ≤ ltN a L ∧ ltN a L ≤ L.length
  | [] => by simp [ltN]
  | p :: L => by
    have := ltN_le a L
    rw [ltN, List.length_cons]
    split <;> omega

set_option maxRecDepth 100000 in
set_option maxHeartbeats 1000000 in
theorem taken_any (a : Int) (L : List Int) (ao : Option Addr) (len cap : Nat) (w : World) (hs : Sl w 1 ao len cap (cs i64v (stepsL a L))) (hlen : len ≤ 1000000000) :
    Calls Try.prog 50 #[.slice ao len cap] w (fun e w' => e = .returned (.tuple #[.int .i64 (ltN a L), .bool true]) ∧ w' = w) := by
  have HC := Lib.hid hs.count
  have HN := Lib.hid (fun k => ltN_le a (L.take k))
  have hl : L.length = len := by rw [← hs.count, stepsL_len]
  have HL := Lib.hid hl
  clear hl
  go_enter Try.func50, Try.ntmps50
  go_wp2
  go_loop [4, 5] (fun n i => ∃ (k : Nat) (N : Int), k ≤ len ∧ i = .int .i64 k ∧ n = .int .i64 N ∧ Hid (N = ltN a (L.take k))) (fun _ i => len - (intOf i).toNat)
  case atStart => exact ⟨0, 0, by omega, rfl, rfl, rfl⟩
  case round =>
    obtain ⟨k, N, hk, rfl, rfl, hN⟩ := hrel
    have hNb := HN.out k
    rw [← hN.out, List.length_take] at hNb
    have hN0 : 0 ≤ N := hNb.1
    have hN1 : N ≤ 1000000000 := by omega
    clear hNb
    by_cases hkl : k < len
    · obtain ⟨b, off, e0, hcell⟩ := hs.at_ k hkl 0
      subst e0
      have hcell' : w.cell? ⟨b, off + k, none⟩ = some (.int .i64 ((stepsL a L).getD k 0)) := hcell
      have hst : (stepsL a L).getD k 0 = stepOf a (L.getD k 0) := by
        have hk1 : k < L.length := by rw [HL.out]; exact hkl
        unfold stepsL; simp [List.getD, hk1]
      have hnext := ltN_take (a := a) (show k < L.length by rw [HL.out]; exact hkl)
      rw [← hN.out] at hnext
      rw [hst] at hcell'
      have hkl' : (k : Int) < (len : Int) := by omega
      have hk0 : (0 : Int) ≤ (k : Int) := by omega
      clear hcell hst hN
      by_cases hlt : L.getD k 0 < a
      · rw [stepOf_lt hlt] at hcell'
        rw [if_pos hlt] at hnext
        have HX := Lib.hid hnext
        clear hnext hlt
        go_wp2
        go_round
        case rel => exact ⟨k + 1, N + 1, by omega, by go_num, by go_num, HX.out.symm⟩
        case measure => simp [intOf]; omega
      · rw [stepOf_ge hlt] at hcell'
        rw [if_neg hlt] at hnext
        have HX := Lib.hid hnext
        clear hnext hlt
        go_wp2
        go_round
        case rel => exact ⟨k + 1, N, by omega, by go_num, rfl, by show _ = _; rw [HX.out]; omega⟩
        case measure => simp [intOf]; omega
    · have hkl' : ¬ (k : Int) < (len : Int) := by omega
      have hNN : ltN a L = N := by rw [hN.out, List.take_of_length_le (by rw [HL.out]; omega)]
      have HX := Lib.hid hNN
      clear hN hNN
      go_wp2
      go_ret2
      exact ⟨by rw [HX.out]; rfl, rfl⟩
end Go.Proofs.Ytfhmhkpplcbiiaa
