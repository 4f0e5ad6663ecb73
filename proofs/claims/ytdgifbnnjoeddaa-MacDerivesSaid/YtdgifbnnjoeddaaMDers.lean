/-
  MAC, THE WALKS: MacDerives.
-/
import Derived.Test.YtdgifbnnjoeddaaProg
import Derived.Test.YtdgifbnnjoeddaaBase3
import Derived.Test.YtdgifbnnjoeddaaBase5
import Derived.Test.YtdgifbnnjoeddaaMac1
import Derived.Test.YtdgifbnnjoeddaaMac5
import Derived.Test.YtdgifbnnjoeddaaMac9
import Derived.Test.YtdgifbnnjoeddaaMKeys
import Derived.Test.YtdgifbnnjoeddaaHeld
import Derived.Test.YtdgifbnnjoeddaaHeld2
import Derived.Test.YtdgifbnnjoeddaaWire6
import Derived.Test.YtdgifbnnjoeddaaBase6
import Derived.Test.YtdgifbnnjoeddaaWire2
import Derived.BigQuiet
import Derived.Laws.StructEq
import Derived.StillTailTactics
import Derived.RegionTactic
import Derived.Deep.DeepCutAuto
import Derived.Deep.QuietTactic
import Derived.WalkSpells
import Derived.WalkLawsBesides
namespace Go.Proofs.Ytdgifbnnjoeddaa
open Go.RowKit
set_option linter.unusedVariables false


theorem refDerive_x (ka kb : BitVec 64) (n : Int) (w : World) (hn : Hid (-9223372036854775808 ≤ n ∧ n ≤ 9223372036854775807)) :
    Calls Try.prog 23 #[.agg #[u64 ka, u64 kb], .int .i64 n] w (RetB (.agg #[u64 (sipSum ka kb (putInts [n, 0])), u64 (sipSum ka kb (putInts [n, 1]))]) w) := refDerive_any ka kb n w hn.out

set_option maxRecDepth 100000 in
set_option maxHeartbeats 40000000 in
theorem macDerives_walk (ka kb : BitVec 64) (n m : Int) (w : World) (hn : -9223372036854775808 ≤ n ∧ n ≤ 9223372036854775807) (hm : -9223372036854775808 ≤ m ∧ m ≤ 9223372036854775807) :
    Calls Try.prog 5 #[.agg #[u64 ka, u64 kb], .int .i64 n, .int .i64 m] w (RetB (.bool true) w) := by
  have HX := Lib.hid hn
  have HY := Lib.hid hm
  clear hn hm
  have k0 := keep3_0 w (u64 ka) (u64 kb) 24
  have hEq := key_eql
  have hGd : Try.prog.eqGuardType Try.prog.depth 24 = false := by kernel_rfl
  go_enter Try.func5, Try.ntmps5
  go_wp2_with fail
  go_region_held3 (fun w' => w'.cell? ⟨w.heap.size, 0, none⟩ = some (u64 ka) ∧ w'.cell? ⟨w.heap.size, 1, none⟩ = some (u64 kb) ∧ Below w.heap.size w w')
    (repeat (with_reducible first | assumption | refine keep3D ?_ | refine keep3A _ ?_ | (apply keep3; focus assumption)))
    (first
      | (go_at_call 22; (with_reducible refine (derive_x _ _ _ _ HX).mono ?_); rintro e w1 ⟨rfl, hb1⟩)
      | (go_at_call 22; (with_reducible refine (derive_x _ _ _ _ HY).mono ?_); rintro e w1 ⟨rfl, hb1⟩)
      | (go_at_call 23; (with_reducible refine (refDerive_x _ _ _ _ HX).mono ?_); rintro e w1 ⟨rfl, hb1⟩)
      | (go_at_call 23; (with_reducible refine (refDerive_x _ _ _ _ HY).mono ?_); rintro e w1 ⟨rfl, hb1⟩)
      | (go_at_call 17; (with_reducible refine (awake06_any _).mono ?_); rintro e w1 ⟨rfl, hb1⟩))
  all_goals
    go_wp2
    go_ret
    exact ⟨rfl, by go_split_ands; assumption⟩
end Go.Proofs.Ytdgifbnnjoeddaa
