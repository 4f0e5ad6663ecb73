/-
  LOCKS, THE WALKS: Reports.
-/
import Derived.Test.YtpmjgiabedjlgaaProg
import Derived.Test.YtpmjgiabedjlgaaBase7
import Derived.Test.YtpmjgiabedjlgaaBase14
import Derived.Test.YtpmjgiabedjlgaaTokP
import Derived.Test.YtpmjgiabedjlgaaLockP
import Derived.Test.YtpmjgiabedjlgaaLock3
import Derived.BigQuiet
import Derived.Laws.StructEq
import Derived.StillTailTactics
import Derived.RegionTactic
import Derived.Deep.DeepCutAuto
import Derived.Deep.QuietTactic
import Derived.WalkSpells
import Derived.WalkLawsBesides
namespace Go.Proofs.Ytpmjgiabedjlgaa
open Go.RowKit
set_option linter.unusedVariables false

theorem rcs_one1 (l : List Rep) : ∀ u ∈ rcs l, u.oneCell' = true := by
  intro u hu
  unfold rcs at hu
  obtain ⟨x, _, hx⟩ := List.mem_flatMap.1 hu
  exact repA_one x u hx
theorem own_empty6 {W : World} {g B : Nat} {e : TypeId} (h : W.heap[g]? = some (.cells #[] e)) (hB : B ≤ g) : W.ownsRow B e 6 (.slice (some ⟨g, 0, none⟩) 0 0) 0 [] :=
  ⟨rfl, .inr ⟨g, 0, #[], rfl, hB, h, Nat.le_refl _, Nat.zero_le _, rfl, rfl⟩⟩

set_option maxRecDepth 100000 in
set_option maxHeartbeats 2000000 in
theorem rclone_any (l : List Rep) {v : Value} {B : Nat} (w : World) (h : Hid (w.ownsRow B 45 6 v l.length (rcs l))) (hn : l.length ≤ 512) :
    Calls Try.prog 51 #[v] w (fun e w' => ∃ v', e = .returned v' ∧ Hid (w'.ownsRow w.heap.size 45 6 v' l.length (rcs l)) ∧ Below w.heap.size w w') := by
  obtain ⟨ao, cap, hv, hsl⟩ := sl_of_own h.out
  subst hv
  generalize hN : l.length = N at *
  cases ao with
  | none =>
    have hc := hsl.hbare rfl
    have hle := hsl.hle
    obtain rfl : cap = 0 := hc
    obtain rfl : N = 0 := by omega
    have hl : l = [] := List.eq_nil_of_length_eq_zero hN
    subst hl
    clear hsl hle hN
    have heq : ∀ w : World, (binOp .eql 34 (.slice none 0 0) (.slice none 0 0)).run Try.prog w = .ok (.bool true) w := fun _ => rfl
    go_enter Try.func51, Try.ntmps51
    go_wp2
    go_ret
    exact ⟨_, rfl, World.ownsRow_nil _ _ _ _, Below.refl _ _⟩
  | some a =>
    have HS := Lib.hid hsl
    clear hsl
    have heq : ∀ w : World, (binOp .eql 34 (.slice (some a) N cap) (.slice none 0 0)).run Try.prog w = .ok (.bool false) w := fun _ => rfl
    go_enter Try.func51, Try.ntmps51
    go_wp2_with (at_builtin; refine wpList_append_src _ rfl _ _ 34 34 rfl w.heap.size 45 (.agg #[.int .i64 0, .int .i64 0, .int .i64 0, .int .i64 0, .int .i64 0, .int .i64 0]) 6 48 Try.underlying34 infoR rfl (by decide) (n := 0) (xs := []) (own_empty6 (hp_new rfl) (Nat.le_refl _)) rfl (src_sl _ Try.underlying34 (HS.out.ext (below_alloc _ _)) (rcs_one1 l)) rfl (by unfold maxLen; omega) (by omega) (by simp) ?_)
    all_goals
      intro v' w' ho hg hb
      have HO := Lib.hid ho
      have HB := Lib.hid ((below_alloc w _).trans hb)
      clear ho hg hb
      go_wp2
      go_ret
      exact ⟨_, rfl, HO, HB.out⟩
theorem reports_any {g : Nat} {v : Value} {s : LS} (w : World) (h : Hid (LockAt w g v s)) (hn : s.reps.length ≤ 512) :
    Calls Try.prog 31 #[.pointer (some ⟨g, 0, none⟩)] w (fun e w' => ∃ v', e = .returned v' ∧ Hid (w'.ownsRow w.heap.size 45 6 v' s.reps.length (rcs s.reps)) ∧ Below w.heap.size w w') := by
  obtain ⟨c0, c1, c2, c3, c4, c5⟩ := six_cells h.out.1
  obtain ⟨ao, cap, hv, hsl⟩ := sl_of_own h.out.2
  have hcl := rclone_any s.reps (v := v) w h.out.2 hn
  subst hv
  clear hsl
  have HC := Lib.hid hcl
  clear hcl
  generalize s.reps.length = N at *
  go_enter Try.func31, Try.ntmps31
  go_wp2_with fail
  refine HC.out.mono ?_
  rintro e w1 ⟨v', rfl, ho, hb⟩
  have HB := Lib.hid hb
  clear hb
  go_wp2
  go_ret
  exact ⟨_, rfl, ho, HB.out⟩
end Go.Proofs.Ytpmjgiabedjlgaa
