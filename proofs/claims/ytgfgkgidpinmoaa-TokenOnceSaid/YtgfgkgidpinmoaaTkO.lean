/-
  TOKENS, THE LAWS: two tokens of different numbers are not equal.
-/
import Derived.Test.YtgfgkgidpinmoaaProg
import Derived.Test.YtgfgkgidpinmoaaBase1
import Derived.Test.YtgfgkgidpinmoaaBase2
import Derived.Test.YtgfgkgidpinmoaaBase3
import Derived.Test.YtgfgkgidpinmoaaBase5
import Derived.Test.YtgfgkgidpinmoaaBase6
import Derived.Test.YtgfgkgidpinmoaaBase7
import Derived.Test.YtgfgkgidpinmoaaBase15
import Derived.Test.YtgfgkgidpinmoaaMacP
import Derived.Test.YtgfgkgidpinmoaaTokP
import Derived.Test.YtgfgkgidpinmoaaTkP
import Derived.Test.YtgfgkgidpinmoaaTok1
import Derived.Test.YtgfgkgidpinmoaaTok2
import Derived.Test.YtgfgkgidpinmoaaWire1
import Derived.Test.YtgfgkgidpinmoaaWire2
import Derived.Test.YtgfgkgidpinmoaaWire5
import Derived.Test.YtgfgkgidpinmoaaTok3
import Derived.Test.YtgfgkgidpinmoaaHeld
import Derived.BigQuiet
import Derived.Laws.StructEq
import Derived.StillTailTactics
import Derived.RegionTactic
import Derived.BigRegion
import Derived.Deep.DeepCutAuto
import Derived.Deep.QuietTactic
import Derived.WalkSpells
import Derived.WalkLawsBesides
namespace Go.Proofs.Ytgfgkgidpinmoaa
open Go.RowKit
set_option linter.unusedVariables false

theorem win_eqlg (dd : Nat) (f1 t1 f2 t2 : Int) (w' : World) : (Op.equalIn (dd + 2) 34 (.agg #[.int .i64 f1, .int .i64 t1]) (.agg #[.int .i64 f2, .int .i64 t2])).run Try.prog w' = .ok (decide (f1 = f2) && decide (t1 = t2)) w' := by
  have h3 : Try.prog.underlying 34 = some (.struct (Try.prog.fieldsOf 34)) := by kernel_rfl
  have h4 : Try.prog.stoodInHeld 34 = false := by kernel_rfl
  rw [run_equalIn_agg _ _ _ _ _ h3 h4]
  simp only [Program.fieldsOf, Try.underlying34]
  clear h3 h4
  go_simp
  by_cases e1 : f1 = f2 <;> by_cases e2 : t1 = t2 <;> simp [e1, e2]
theorem tok_ne {b1 r1 d1 f1 t1 n1 b2 r2 d2 f2 t2 n2 : Int} (g1 g2 : BitVec 64) (hn : ¬ n1 = n2) (w' : World) : (binOp .eql 36 (.agg #[.int .i64 b1, .int .i64 r1, .int .i64 d1, .int .i64 f1, .int .i64 t1, .int .i64 n1, u64 g1]) (.agg #[.int .i64 b2, .int .i64 r2, .int .i64 d2, .int .i64 f2, .int .i64 t2, .int .i64 n2, u64 g2])).run Try.prog w' = .ok (.bool false) w' := by
  have h1 : Try.prog.underlying 36 = some (.struct (Try.prog.fieldsOf 36)) := by kernel_rfl
  have h2 : Try.prog.stoodInHeld 36 = false := by kernel_rfl
  have hw := fun w' => win_eqlg 9997 f1 t1 f2 t2 w'
  rw [run_eql_struct, run_equalIn_agg _ _ _ _ _ h1 h2]
  unfold u64
  simp only [Program.fieldsOf, Try.underlying36]
  clear h1 h2
  go_simp
end Go.Proofs.Ytgfgkgidpinmoaa
