/-
  MACHINE WORDS FOR THE WALK, MORE: stores. No condition.
-/
import Derived.Test.YtfhcaikfbfoopaaBase0
namespace Go.Proofs.Ytfhcaikfbfoopaa
open Go.RowKit
set_option linter.unusedVariables false
@[go_sem] theorem cells_match_b8 (c : UInt8) : Value.cells.match_1 (motive := fun _ => Array Value) (b8 c) (fun cs => cs) (fun v => #[v]) = #[b8 c] := rfl
@[go_sem] theorem cells_match_u64 (c : BitVec 64) : Value.cells.match_1 (motive := fun _ => Array Value) (u64 c) (fun cs => cs) (fun v => #[v]) = #[u64 c] := rfl
@[go_sem] theorem cells_match_u32 (c : BitVec 32) : Value.cells.match_1 (motive := fun _ => Array Value) (u32 c) (fun cs => cs) (fun v => #[v]) = #[u32 c] := rfl
end Go.Proofs.Ytfhcaikfbfoopaa
