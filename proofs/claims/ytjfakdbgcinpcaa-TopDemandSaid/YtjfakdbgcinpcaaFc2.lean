/-
  FORECAST, THE WALKS: history.Check, the reference's Check.
-/
import Derived.Test.YtjfakdbgcinpcaaProg
import Derived.Test.YtjfakdbgcinpcaaBase7
import Derived.Test.YtjfakdbgcinpcaaFcP
import Derived.Test.YtjfakdbgcinpcaaFc1
import Derived.Test.YtjfakdbgcinpcaaHeld
import Derived.BigQuiet
import Derived.Laws.StructEq
import Derived.StillTailTactics
import Derived.RegionTactic
import Derived.Deep.DeepCutAuto
import Derived.Deep.QuietTactic
import Derived.WalkSpells
import Derived.WalkLawsBesides
namespace Go.Proofs.Ytjfakdbgcinpcaa
open Go.RowKit
set_option linter.unusedVariables false

def badC (n : Int) : Bool := decide (n < 0) || decide (1000000 < n)
theorem badC_not (n : Int) : badC n = !(decide (0 ≤ n) && decide (n ≤ 1000000)) := by
  unfold badC
  by_cases h : n < 0 <;> by_cases h2 : 1000000 < n <;> simp [h, h2] <;> omega

set_option maxRecDepth 100000 in
set_option maxHeartbeats 2000000 in
theorem in_any (n lo hi : Int) (w : World) : Calls Try.prog 12 #[.int .i64 n, .int .i64 lo, .int .i64 hi] w (fun e w' => e = .returned (.bool (decide (lo ≤ n) && decide (n ≤ hi))) ∧ w' = w) := by
  by_cases h1 : lo ≤ n
  · by_cases h2 : n ≤ hi
    · go_enter Try.func12, Try.ntmps12
      go_wp2
      go_ret
      exact ⟨congrArg (fun b => Ending.returned (.bool b)) (by rw [decide_eq_true h1, decide_eq_true h2]; rfl), rfl⟩
    · go_enter Try.func12, Try.ntmps12
      go_wp2
      go_ret
      exact ⟨congrArg (fun b => Ending.returned (.bool b)) (by rw [show decide (n ≤ hi) = false from decide_eq_false (by omega)]), rfl⟩
  · go_enter Try.func12, Try.ntmps12
    go_wp2
    go_ret
    exact ⟨congrArg (fun b => Ending.returned (.bool b)) (by rw [show decide (lo ≤ n) = false from decide_eq_false (by omega)]; rfl), rfl⟩

set_option maxRecDepth 100000 in
set_option maxHeartbeats 2000000 in
theorem bad_any (n : Int) (w : World) : Calls Try.prog 33 #[.int .i64 n] w (fun e w' => e = .returned (.bool (badC n)) ∧ w' = w) := by
  have hb := badC_not n
  have HB := Lib.hid hb
  clear hb
  go_enter Try.func33, Try.ntmps33
  go_wp2_with fail
  refine (in_any n 0 1000000 _).mono ?_
  rintro e w' ⟨rfl, rfl⟩
  generalize (decide (0 ≤ n) && decide (n ≤ 1000000)) = B at *
  go_wp2
  go_ret
  exact ⟨congrArg (fun b => Ending.returned (.bool b)) HB.out.symm, rfl⟩

set_option maxRecDepth 100000 in
set_option maxHeartbeats 2000000 in
theorem index_any (l : List Int) (ao : Option Addr) (len cap : Nat) (w : World) (hs : Sl w 1 ao len cap (cs i64v l)) (hlen : len ≤ 1000000000000) :
    Calls Try.prog 39 #[.slice ao len cap, .func (.func 33) #[] #[]] w (fun e w' => ∃ r, e = .returned (.int .i64 r) ∧ decide (0 ≤ r) = l.any badC ∧ w' = w) := by
  have HC := Lib.hid hs.count
  go_enter Try.func39, Try.ntmps39
  go_wp2
  go_loop [8] (fun i => ∃ k : Nat, k ≤ len ∧ i = .int .i64 k ∧ Hid (∀ j, j < k → badC (l.getD j 0) = false)) (fun i => len - (intOf i).toNat)
  case atStart => exact ⟨0, by omega, rfl, fun j hj => absurd hj (by omega)⟩
  case round =>
    obtain ⟨k, hk, rfl, hg⟩ := hrel
    by_cases hkl : k < len
    · obtain ⟨b, off, e0, hcell⟩ := hs.at_ k hkl 0
      subst e0
      have hcell' : w.cell? ⟨b, off + k, none⟩ = some (.int .i64 (l.getD k 0)) := hcell
      have hkl' : (k : Int) < (len : Int) := by omega
      have hk0 : (0 : Int) ≤ (k : Int) := by omega
      clear hcell
      obtain ⟨B, hB⟩ : ∃ B, badC (l.getD k 0) = B := ⟨_, rfl⟩
      have HB := Lib.hid hB
      have hcall := bad_any (l.getD k 0) w
      rw [hB] at hcall
      have HCALL := Lib.hid hcall
      clear hB hcall
      go_wp2_with fail
      refine HCALL.out.mono ?_
      rintro e w' ⟨rfl, rfl⟩
      cases B with
      | true =>
        go_wp2
        go_ret
        exact ⟨_, rfl, by rw [show List.any l badC = true from List.any_eq_true.mpr ⟨_, List.getElem_mem (by rw [HC.out]; exact hkl : k < l.length), by have := HB.out; simpa [List.getD, show k < l.length by rw [HC.out]; exact hkl] using this⟩]; exact decide_eq_true hk0, rfl⟩
      | false =>
        go_wp2
        go_round
        case rel => exact ⟨k + 1, by omega, by go_num, fun j hj => by
          by_cases hjk : j = k
          · subst hjk; exact HB.out
          · exact hg.out j (by omega)⟩
        case measure => simp [intOf]; omega
    · have hkl' : ¬ (k : Int) < (len : Int) := by omega
      go_wp2
      go_ret
      exact ⟨_, rfl, by
        rw [show List.any l badC = false from ?_]
        · decide
        · rw [List.any_eq_false]
          intro x hx
          obtain ⟨j, hj, rfl⟩ := List.getElem_of_mem hx
          have := hg.out j (by have := HC.out; omega)
          simpa [List.getD, hj] using this, rfl⟩

set_option maxRecDepth 100000 in
set_option maxHeartbeats 2000000 in
theorem contains_any (l : List Int) (ao : Option Addr) (len cap : Nat) (w : World) (hs : Sl w 1 ao len cap (cs i64v l)) (hlen : len ≤ 1000000000000) :
    Calls Try.prog 34 #[.slice ao len cap, .func (.func 33) #[] #[]] w (fun e w' => e = .returned (.bool (l.any badC)) ∧ w' = w) := by
  have HS := Lib.hid hs
  clear hs
  go_enter Try.func34, Try.ntmps34
  go_wp2_with fail
  refine (index_any l _ _ _ _ HS.out hlen).mono ?_
  rintro e w' ⟨r, rfl, hr, rfl⟩
  have HR := Lib.hid hr
  clear hr
  by_cases h : 0 ≤ r
  · go_wp2
    go_ret
    exact ⟨congrArg (fun b => Ending.returned (.bool b)) (by rw [← HR.out, decide_eq_true h]), rfl⟩
  · go_wp2
    go_ret
    exact ⟨congrArg (fun b => Ending.returned (.bool b)) (by rw [← HR.out, decide_eq_false (by omega)]), rfl⟩

def okC (st : Int) (l1 l2 : List Int) : Int := if st < 1 ∨ 32 < st then 1 else if (l1.length : Int) ≠ st * 168 ∨ (l2.length : Int) ≠ st * 168 then 3 else if (l1.any badC || l2.any badC) = true then 1 else 0
/-- The counts as a value. -/
def cntV (st : Int) (a1 : Option Addr) (l1 c1 : Nat) (a2 : Option Addr) (l2 c2 : Nat) : Value := .agg #[.int .i64 st, .slice a1 l1 c1, .slice a2 l2 c2]

set_option maxRecDepth 100000 in
set_option maxHeartbeats 2000000 in
theorem check_any (st : Int) (xs ys : List Int) (a1 : Option Addr) (l1 c1 : Nat) (a2 : Option Addr) (l2 c2 : Nat) (w : World) (h1 : Sl w 1 a1 l1 c1 (cs i64v xs)) (h2 : Sl w 1 a2 l2 c2 (cs i64v ys)) :
    Calls Try.prog 25 #[cntV st a1 l1 c1 a2 l2 c2] w (RetB (.int .i64 (okC st xs ys)) w) := by
  obtain ⟨T, hT⟩ : ∃ T, okC st xs ys = T := ⟨_, rfl⟩
  rw [hT]
  have HT := Lib.hid hT
  have k1 := h1.count
  have k2 := h2.count
  have K1 := Lib.hid k1
  have K2 := Lib.hid k2
  have H1 := Lib.hid (fun o => h1.ext (below_alloc w o))
  have H2 := Lib.hid (fun o => h2.ext (below_alloc w o))
  clear hT h1 h2 k1 k2
  unfold cntV
  by_cases y0 : 1 ≤ st
  · by_cases y1 : st ≤ 32
    · by_cases y2 : (l1 : Int) = st * 168
      · by_cases y3 : (l2 : Int) = st * 168
        · obtain ⟨B1, hB1⟩ : ∃ B, xs.any badC = B := ⟨_, rfl⟩
          obtain ⟨B2, hB2⟩ : ∃ B, ys.any badC = B := ⟨_, rfl⟩
          have HTT : Hid (T = if (B1 || B2) = true then 1 else 0) := by
            show T = _
            rw [← HT.out]; unfold okC
            rw [if_neg (by omega), if_neg (by rw [K1.out, K2.out]; omega), hB1, hB2]
          have hw1 : IntKind.i64.wrap (st * 168) = st * 168 := by rw [IntKind.wrap_i64]; omega
          have HB1 := Lib.hid hB1
          have HB2 := Lib.hid hB2
          clear hB1 hB2
          go_enter Try.func25, Try.ntmps25
          go_wp2_with fail
          refine (in_any st 1 32 _).mono ?_
          rw [decide_eq_true y0, decide_eq_true y1]
          rintro e w' ⟨rfl, rfl⟩
          go_wp2_with fail
          refine (contains_any xs _ _ _ _ (H1.out _) (by omega)).mono ?_
          rw [HB1.out]
          rintro e w' ⟨rfl, rfl⟩
          cases B1 with
          | true =>
            go_wp2_with fail
            go_ret
            exact ⟨congrArg (fun b => Ending.returned (.int .i64 b)) HTT.out.symm, below_alloc _ _⟩
          | false =>
            go_wp2_with fail
            refine (contains_any ys _ _ _ _ (H2.out _) (by omega)).mono ?_
            rw [HB2.out]
            rintro e w' ⟨rfl, rfl⟩
            cases B2 with
            | true =>
              go_wp2_with fail
              go_ret
              exact ⟨congrArg (fun b => Ending.returned (.int .i64 b)) HTT.out.symm, below_alloc _ _⟩
            | false =>
              go_wp2_with fail
              go_ret
              exact ⟨congrArg (fun b => Ending.returned (.int .i64 b)) HTT.out.symm, below_alloc _ _⟩
        · have HTT : Hid (T = 3) := by
            show T = _
            rw [← HT.out]; unfold okC
            rw [if_neg (by omega), if_pos (by rw [K1.out, K2.out]; omega)]
          have hw1 : IntKind.i64.wrap (st * 168) = st * 168 := by rw [IntKind.wrap_i64]; omega
          go_enter Try.func25, Try.ntmps25
          go_wp2_with fail
          refine (in_any st 1 32 _).mono ?_
          rw [decide_eq_true y0, decide_eq_true y1]
          rintro e w' ⟨rfl, rfl⟩
          go_wp2_with fail
          go_ret
          exact ⟨congrArg (fun b => Ending.returned (.int .i64 b)) HTT.out.symm, below_alloc _ _⟩
      · have HTT : Hid (T = 3) := by
          show T = _
          rw [← HT.out]; unfold okC
          rw [if_neg (by omega), if_pos (by rw [K1.out, K2.out]; omega)]
        have hw1 : IntKind.i64.wrap (st * 168) = st * 168 := by rw [IntKind.wrap_i64]; omega
        go_enter Try.func25, Try.ntmps25
        go_wp2_with fail
        refine (in_any st 1 32 _).mono ?_
        rw [decide_eq_true y0, decide_eq_true y1]
        rintro e w' ⟨rfl, rfl⟩
        go_wp2_with fail
        go_ret
        exact ⟨congrArg (fun b => Ending.returned (.int .i64 b)) HTT.out.symm, below_alloc _ _⟩
    · have HTT : Hid (T = 1) := by
        show T = _
        rw [← HT.out]; unfold okC
        rw [if_pos (by omega)]
      go_enter Try.func25, Try.ntmps25
      go_wp2_with fail
      refine (in_any st 1 32 _).mono ?_
      rw [decide_eq_true y0, show decide (st ≤ 32) = false from decide_eq_false (by omega)]
      rintro e w' ⟨rfl, rfl⟩
      go_wp2_with fail
      go_ret
      exact ⟨congrArg (fun b => Ending.returned (.int .i64 b)) HTT.out.symm, below_alloc _ _⟩
  · have HTT : Hid (T = 1) := by
      show T = _
      rw [← HT.out]; unfold okC
      rw [if_pos (by omega)]
    go_enter Try.func25, Try.ntmps25
    go_wp2_with fail
    refine (in_any st 1 32 _).mono ?_
    rw [show decide (1 ≤ st) = false from decide_eq_false (by omega)]
    rintro e w' ⟨rfl, rfl⟩
    go_wp2_with fail
    go_ret
    exact ⟨congrArg (fun b => Ending.returned (.int .i64 b)) HTT.out.symm, below_alloc _ _⟩
end Go.Proofs.Ytjfakdbgcinpcaa
