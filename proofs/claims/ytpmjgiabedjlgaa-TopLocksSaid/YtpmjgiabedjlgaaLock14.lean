/-
  LOCKS, THE EXAMPLES: awake.
-/
import Derived.Test.YtpmjgiabedjlgaaProg
import Derived.Test.YtpmjgiabedjlgaaBase7
import Derived.Test.YtpmjgiabedjlgaaBase14
import Derived.Test.YtpmjgiabedjlgaaTok1
import Derived.Test.YtpmjgiabedjlgaaTok3
import Derived.Test.YtpmjgiabedjlgaaLockP
import Derived.Test.YtpmjgiabedjlgaaLock3
import Derived.Test.YtpmjgiabedjlgaaLock4
import Derived.Test.YtpmjgiabedjlgaaLock5
import Derived.Test.YtpmjgiabedjlgaaLock6
import Derived.Test.YtpmjgiabedjlgaaTokP
import Derived.Test.YtpmjgiabedjlgaaTok2
import Derived.Test.YtpmjgiabedjlgaaMac1
import Derived.Test.YtpmjgiabedjlgaaMac4
import Derived.Test.YtpmjgiabedjlgaaMac8
import Derived.Test.YtpmjgiabedjlgaaWire6
import Derived.Test.YtpmjgiabedjlgaaWire2
import Derived.BigQuiet
import Derived.StillTailTactics
import Derived.RegionTactic
import Derived.Deep.DeepCutAuto
import Derived.Deep.QuietTactic
import Derived.WalkSpells
import Derived.WalkLawsBesides
import Derived.Laws.StructEq
import Derived.BigRegion
import Derived.Deep.RegionHeld3
namespace Go.Proofs.Ytpmjgiabedjlgaa
open Go.RowKit
set_option linter.unusedVariables false

theorem own_low6 {W : World} {g n k : Nat} {v : Value} {e : TypeId} {xs : List Value} (h : W.ownsRow (g + 1) e 6 v n xs) (hk : v.ownBlock = some k) : g + 1 ≤ k := by
  rcases h.2 with ⟨rfl, _⟩ | ⟨j, cap, cur, rfl, hB, _⟩
  · cases hk
  · simp [Value.ownBlock] at hk
    omega
section
variable {w0 W : World} {g kb sb : Nat} {s s' : LS} {e : Int}
end
end Go.Proofs.Ytpmjgiabedjlgaa
