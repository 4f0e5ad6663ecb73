/-
  WIRE, THE WALKS: Int.
-/
import Derived.Test.YtjfakdbgcinpcaaProg
import Derived.Test.YtjfakdbgcinpcaaBase7
import Derived.Test.YtjfakdbgcinpcaaWireP
import Derived.BigQuiet
import Derived.Deep.QuietTactic
import Derived.WalkSpells
import Derived.WalkLawsBesides
namespace Go.Proofs.Ytjfakdbgcinpcaa
open Go.RowKit
set_option linter.unusedVariables false

theorem Try.sizeU8 (w : World) : (sizeOf 5).run Try.prog w = .ok 1 w := by kernel_rfl

end Go.Proofs.Ytjfakdbgcinpcaa
