/-
  LINK, THE LAWS: the world's move, any.
-/
import Derived.Test.YtfhcaikfbfoopaaProg
import Derived.Test.YtfhcaikfbfoopaaBase1
import Derived.Test.YtfhcaikfbfoopaaLkU
import Derived.Test.YtfhcaikfbfoopaaLkU2
import Derived.Test.YtfhcaikfbfoopaaLkU3
import Derived.Test.YtfhcaikfbfoopaaLkU4
import Derived.BigQuiet
import Derived.Laws.StructEq
import Derived.StillTailTactics
import Derived.RegionTactic
import Derived.Deep.DeepCutAuto
import Derived.Deep.QuietTactic
import Derived.WalkSpells
import Derived.WalkLawsBesides
namespace Go.Proofs.Ytfhcaikfbfoopaa
open Go.RowKit
set_option linter.unusedVariables false

theorem move_any {w W : World} {wb g r b cnt : Nat} (h : Hid (MvSt w wb g r b cnt W)) (hc : cnt ≤ 1000) (K N : Int) :
    Calls Try.prog 34 #[.pointer (some ⟨wb, 0, none⟩), .agg #[.int .i64 K, .int .i64 N]] W (fun e W' => e = .returned (.bool true) ∧ Hid (MvSt w wb g r b (cnt + 1) W')) := by
  obtain ⟨v, k, xs, u, n, D, ys, f, sv, ov, av, all, olds, aks, hM, hA⟩ := h.out
  by_cases h0 : K = 0
  · subst h0; exact move_put (Lib.hid hM) hA hc N
  by_cases h1 : K = 1
  · subst h1; exact move_frame (Lib.hid hM) hA hc N
  by_cases h2 : K = 2
  · subst h2; exact move_old (Lib.hid hM) hA hc N
  by_cases h3 : K = 3
  · subst h3; exact move_acked (Lib.hid hM) hA hc N
  by_cases h4 : K = 4
  · subst h4; exact move_ack (Lib.hid hM) hA hc N
  exact move_none (Lib.hid hM) hA hc N K ⟨h0, h1, h2, h3, h4⟩
end Go.Proofs.Ytfhcaikfbfoopaa
