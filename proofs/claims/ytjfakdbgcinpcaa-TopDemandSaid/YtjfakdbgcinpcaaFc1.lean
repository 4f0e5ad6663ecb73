/-
  FORECAST, THE WALKS: Rate, the reference's Rate.
-/
import Derived.Test.YtjfakdbgcinpcaaProg
import Derived.Test.YtjfakdbgcinpcaaBase7
import Derived.Test.YtjfakdbgcinpcaaFcP
import Derived.Test.YtjfakdbgcinpcaaHeld
import Derived.BigQuiet
import Derived.Laws.StructEq
import Derived.StillTailTactics
import Derived.RegionTactic
import Derived.Deep.DeepCutAuto
import Derived.Deep.QuietTactic
import Derived.WalkSpells
import Derived.WalkLawsBesides
namespace Go.Proofs.Ytjfakdbgcinpcaa
open Go.RowKit
set_option linter.unusedVariables false

/-- Two numbers; the world stands. -/
def RetP (r : Int × Int) (w : World) (e : Ending) (w' : World) : Prop := e = .returned (.tuple #[.int .i64 r.1, .int .i64 r.2]) ∧ w' = w
theorem retP_of {r : Int × Int} {a b : Int} (w : World) (h : r = (a, b)) : RetP r w (.returned (.tuple #[.int .i64 a, .int .i64 b])) w := by subst h; exact ⟨rfl, rfl⟩

set_option maxRecDepth 100000 in
set_option maxHeartbeats 2000000 in
theorem rate_any (c k p : Int) (w : World) : Calls Try.prog 26 #[.int .i64 c, .int .i64 k, .int .i64 p] w (RetP (rate c k p) w) := by
  obtain ⟨T, hT⟩ : ∃ T, rate c k p = T := ⟨_, rfl⟩
  rw [hT]
  unfold rate at hT
  by_cases h0 : c < 0
  · rw [if_pos (show rateBad c k p from (.inl h0))] at hT
    have HT := Lib.hid hT
    clear hT
    go_enter Try.func26, Try.ntmps26
    go_wp2
    go_ret2
    exact retP_of _ HT.out.symm
  · skip
    by_cases h1 : 1000000 < c
    · rw [if_pos (show rateBad c k p from (.inr (.inl h1)))] at hT
      have HT := Lib.hid hT
      clear hT
      go_enter Try.func26, Try.ntmps26
      go_wp2
      go_ret2
      exact retP_of _ HT.out.symm
    · skip
      by_cases h2 : k < 0
      · rw [if_pos (show rateBad c k p from (.inr (.inr (.inl h2))))] at hT
        have HT := Lib.hid hT
        clear hT
        go_enter Try.func26, Try.ntmps26
        go_wp2
        go_ret2
        exact retP_of _ HT.out.symm
      · skip
        by_cases h3 : 512 < k
        · rw [if_pos (show rateBad c k p from (.inr (.inr (.inr (.inl h3)))))] at hT
          have HT := Lib.hid hT
          clear hT
          go_enter Try.func26, Try.ntmps26
          go_wp2
          go_ret2
          exact retP_of _ HT.out.symm
        · skip
          by_cases h4 : p < 0
          · rw [if_pos (show rateBad c k p from (.inr (.inr (.inr (.inr (.inl h4))))))] at hT
            have HT := Lib.hid hT
            clear hT
            go_enter Try.func26, Try.ntmps26
            go_wp2
            go_ret2
            exact retP_of _ HT.out.symm
          · skip
            by_cases h5 : 1000000 < p
            · rw [if_pos (show rateBad c k p from (.inr (.inr (.inr (.inr (.inr h5))))))] at hT
              have HT := Lib.hid hT
              clear hT
              go_enter Try.func26, Try.ntmps26
              go_wp2
              go_ret2
              exact retP_of _ HT.out.symm
            · skip
              have hnb : ¬ rateBad c k p := fun h => h.elim h0 (fun h => h.elim h1 (fun h => h.elim h2 (fun h => h.elim h3 (fun h => h.elim h4 h5))))
              rw [if_neg hnb] at hT
              unfold rq at hT
              have hq := fun t => i64_quo t (1000 * c + p) (k + 1) (by omega) (by omega) (by omega)
              generalize (1000 * c + p) / (k + 1) = R at *
              have HT := Lib.hid hT
              clear hT hnb
              go_enter Try.func26, Try.ntmps26
              go_wp2
              go_ret2
              exact retP_of _ HT.out.symm

end Go.Proofs.Ytjfakdbgcinpcaa
