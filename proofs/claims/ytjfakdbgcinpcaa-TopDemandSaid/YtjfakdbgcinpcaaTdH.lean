/-
  HISTORY: in, Slot, week, add.
-/
import Derived.Test.YtjfakdbgcinpcaaTdS
import Derived.Test.YtjfakdbgcinpcaaBase7
import Derived.BigQuiet
import Derived.BigRegion
import Derived.Deep.RegionHeld3
import Derived.Laws.StructEq
import Derived.StillTailTactics
import Derived.RegionTactic
import Derived.Deep.DeepCutAuto
import Derived.Deep.QuietTactic
import Derived.WalkSpells
import Derived.WalkLawsBesides
namespace Go.Proofs.Ytjfakdbgcinpcaa
open Go.RowKit
set_option linter.unusedVariables false

theorem in_yes (n lo hi : Int) (w : World) (h1 : lo ≤ n) (h2 : n ≤ hi) : Calls Try.prog 12 #[.int .i64 n, .int .i64 lo, .int .i64 hi] w (fun e w' => e = .returned (.bool true) ∧ w' = w) := by
  go_enter Try.func12, Try.ntmps12
  go_wp2
  go_ret
  exact ⟨rfl, rfl⟩
theorem in_no (n lo hi : Int) (w : World) (h : n < lo ∨ hi < n) : Calls Try.prog 12 #[.int .i64 n, .int .i64 lo, .int .i64 hi] w (fun e w' => e = .returned (.bool false) ∧ w' = w) := by
  by_cases h1 : n < lo
  · clear h
    go_enter Try.func12, Try.ntmps12
    go_wp2
    go_ret
    exact ⟨rfl, rfl⟩
  · have hd : decide (n ≤ hi) = false := decide_eq_false (by omega)
    clear h
    go_enter Try.func12, Try.ntmps12
    go_wp2
    go_ret
    exact ⟨rfl, rfl⟩
theorem slot_any (t : Int) (w : World) : ∃ s er : Int, (er = 0 → 0 ≤ s ∧ s < 168) ∧ Calls Try.prog 23 #[.int .i64 t] w (fun e w' => e = .returned (.tuple #[.int .i64 s, .int .i64 er]) ∧ w' = w) := by
  by_cases h : 0 ≤ t ∧ t ≤ 4294943999
  · obtain ⟨h1, h2⟩ := h
    refine ⟨t / 3600 % 168, 0, fun _ => by omega, ?_⟩
    have hm : Calls Try.prog 32 #[.int .i64 t] w (fun e w' => e = .returned (.bool true) ∧ w' = w) := by
      go_enter Try.func32, Try.ntmps32
      go_wp2
      go_ret
      exact ⟨rfl, rfl⟩
    have HM := Lib.hid hm
    clear hm
    have h3 : 0 ≤ t / 3600 := by omega
    go_enter Try.func23, Try.ntmps23
    go_wp2_with fail
    refine HM.out.mono ?_
    rintro e w1 ⟨rfl, hw⟩
    subst w1
    go_wp2
    go_ret2
    exact ⟨rfl, rfl⟩
  · refine ⟨0, 1, fun h => by omega, ?_⟩
    have hm : Calls Try.prog 32 #[.int .i64 t] w (fun e w' => e = .returned (.bool false) ∧ w' = w) := by
      by_cases h1 : 0 ≤ t
      · have hd : decide (t ≤ 4294943999) = false := decide_eq_false (by omega)
        clear h
        go_enter Try.func32, Try.ntmps32
        go_wp2
        go_ret
        exact ⟨rfl, rfl⟩
      · have h2 : t < 0 := by omega
        clear h h1
        go_enter Try.func32, Try.ntmps32
        go_wp2
        go_ret
        exact ⟨rfl, rfl⟩
    have HM := Lib.hid hm
    clear hm h
    go_enter Try.func23, Try.ntmps23
    go_wp2_with fail
    refine HM.out.mono ?_
    rintro e w1 ⟨rfl, hw⟩
    subst w1
    go_wp2
    go_ret2
    exact ⟨rfl, rfl⟩
theorem sizeI9 (w : World) : (sizeOf 3).run Try.prog w = .ok 1 w := by kernel_rfl
set_option maxRecDepth 100000 in
theorem week_any (g N q : Nat) (w : World) (hq : (q + 1) * 168 ≤ N) (hN : N ≤ 100000) : Calls Try.prog 24 #[.slice (some ⟨g, 0, none⟩) N N, .int .i64 (q : Int)] w (fun e w' => e = .returned (.slice (some ⟨g, q * 168, none⟩) 168 168) ∧ w' = w) := by
  have hz := sizeI9
  have h0 : (0 : Int) ≤ (q : Int) := by omega
  have h1 : (q : Int) ≤ 1000 := by omega
  have hr : ∀ w, (Instr.slice 34 (.slice (some ⟨g, 0, none⟩) N N) (some (.int .i64 ((q : Int) * 168))) (some (.int .i64 (((q : Int) + 1) * 168))) (some (.int .i64 (((q : Int) + 1) * 168)))).run Try.prog w = .ok (.slice (some ⟨g, q * 168, none⟩) 168 168) w := fun w => by
    have he : Try.prog.elem 34 = 3 := by kernel_rfl
    rw [run_slice_lhm w 34 (some ⟨g, 0, none⟩) N N (by rw [he]; exact Try.underlying34) .i64 .i64 .i64 _ _ _ (by omega) (by omega) (by omega) (by omega), he, hz]
    simp [Result.andThen, sliced]
    exact ⟨by rw [if_neg (by omega), Addr.add_lit, Nat.zero_add, show ((q : Int) * 168).toNat = q * 168 from by omega], by omega⟩
  go_enter Try.func24, Try.ntmps24
  go_wp2
  go_ret
  exact ⟨rfl, rfl⟩
/-- What add does to the row: nothing, or one element. -/
def AddRet (g N : Nat) (W : World) (e : Ending) (W' : World) : Prop := ∃ er : Int, e = .returned (.int .i64 er) ∧ (W' = W ∨ ∃ (i : Nat) (v : Int), i < N ∧ W' = W.setCell ⟨g, i, none⟩ (.int .i64 v))
set_option maxRecDepth 100000 in
set_option maxHeartbeats 2000000 in
theorem add_any (g st : Nat) (place at_ : Int) (xs : List Int) (B : Nat) (w : World) (ho : w.ownsRow B 3 1 (.slice (some ⟨g, 0, none⟩) (st * 168) (st * 168)) (st * 168) (cs i64v xs)) (hst : st ≤ 32) (hpl : place ≤ 9223372036854775807) : Calls Try.prog 14 #[.slice (some ⟨g, 0, none⟩) (st * 168) (st * 168), .int .i64 (st : Int), .int .i64 place, .int .i64 at_] w (AddRet g (st * 168) w) := by
  have hs0 : (0 : Int) ≤ (st : Int) := by omega
  have hs1 : (st : Int) ≤ 32 := by omega
  by_cases h1 : place < 0
  · clear ho hst
    go_enter Try.func14, Try.ntmps14
    go_wp2
    go_ret
    exact ⟨_, rfl, .inl rfl⟩
  have hp0' : 0 ≤ place := by omega
  have hp1 : 0 ≤ place / 32 := by omega
  by_cases h2 : (st : Int) ≤ place / 32
  · clear ho hst
    go_enter Try.func14, Try.ntmps14
    go_wp2
    go_ret
    exact ⟨_, rfl, .inl rfl⟩
  have h3 : ¬ (st : Int) ≤ place / 32 := h2
  clear h2
  have hp0 : 0 ≤ place := by omega
  obtain ⟨q, hq⟩ : ∃ q : Nat, (q : Int) = place / 32 := ⟨(place / 32).toNat, by omega⟩
  have hqs : q < st := by omega
  have hq' : place / 32 = (q : Int) := by omega
  have hq0 : (0 : Int) ≤ (q : Int) := by omega
  have hqs' : ¬ (st : Int) ≤ (q : Int) := by omega
  have hw := week_any g (st * 168) q w (by omega) (by omega)
  obtain ⟨s, er, hs, hsl⟩ := slot_any at_ w
  have HS := Lib.hid hsl
  have HW := Lib.hid hw
  have HO := Lib.hid ho
  clear h3 hp1 hq
  generalize hN : st * 168 = N at *
  have HN := Lib.hid hN
  clear hsl hw ho hN
  by_cases her : er = 0
  · subst her
    obtain ⟨k0, k1⟩ := hs rfl
    clear hs
    obtain ⟨k, rfl⟩ := Int.eq_ofNat_of_zero_le k0
    have hkN : q * 168 + k < N := by have := HN.out; omega
    obtain ⟨cc, cf, _, _⟩ := own_cell HO.out (q * 168 + k) hkN 0
    change w.cell? ⟨g, q * 168 + k, none⟩ = some (.int .i64 (xs.getD (q * 168 + k) 0)) at cc
    generalize xs.getD (q * 168 + k) 0 = v at *
    go_enter Try.func14, Try.ntmps14
    go_wp2_with fail
    refine HS.out.mono ?_
    rintro e w1 ⟨rfl, hw1⟩
    subst w1
    clear HS
    go_wp2_with fail
    refine HW.out.mono ?_
    rintro e w1 ⟨rfl, hw1⟩
    subst w1
    clear HW
    go_wp2
    go_ret
    exact ⟨_, rfl, .inr ⟨q * 168 + k, _, hkN, rfl⟩⟩
  · clear hs
    go_enter Try.func14, Try.ntmps14
    go_wp2_with fail
    refine HS.out.mono ?_
    rintro e w1 ⟨rfl, hw1⟩
    subst w1
    go_wp2
    go_ret
    exact ⟨_, rfl, .inl rfl⟩
end Go.Proofs.Ytjfakdbgcinpcaa
