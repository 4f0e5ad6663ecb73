/-
  MAC, THE WALKS: MacNumbers.
-/
import Derived.Test.YtdgifbnnjoeddaaProg
import Derived.Test.YtdgifbnnjoeddaaBase3
import Derived.Test.YtdgifbnnjoeddaaBase5
import Derived.Test.YtdgifbnnjoeddaaMac1
import Derived.Test.YtdgifbnnjoeddaaMac5
import Derived.Test.YtdgifbnnjoeddaaMac9
import Derived.Test.YtdgifbnnjoeddaaHeld
import Derived.Test.YtdgifbnnjoeddaaHeld2
import Derived.Test.YtdgifbnnjoeddaaWire6
import Derived.Test.YtdgifbnnjoeddaaBase6
import Derived.Test.YtdgifbnnjoeddaaWire2
import Derived.BigQuiet
import Derived.Laws.StructEq
import Derived.StillTailTactics
import Derived.RegionTactic
import Derived.Deep.DeepCutAuto
import Derived.Deep.QuietTactic
import Derived.WalkSpells
import Derived.WalkLawsBesides
namespace Go.Proofs.Ytdgifbnnjoeddaa
open Go.RowKit
set_option linter.unusedVariables false


theorem tag_k {l : List Int} {ao : Option Addr} {len cap : Nat} {w w1 : World} {ka kb : BitVec 64} (HS : Hid (Sl w 1 ao len cap (cs i64v l) ∧ I64s l ∧ len ≤ 1000000)) (hS : w1.cell? ⟨w.heap.size, 0, none⟩ = some (u64 ka) ∧ w1.cell? ⟨w.heap.size, 1, none⟩ = some (u64 kb) ∧ Below w.heap.size w w1) :
    Calls Try.prog 20 #[.agg #[u64 ka, u64 kb], .slice ao len cap] w1 (RetB (u64 (sipSum ka kb (putInts l))) w1) := tag_any ka kb l ao len cap w1 (HS.out.1.ext hS.2.2) HS.out.2.1 HS.out.2.2
theorem refTag_k {l : List Int} {ao : Option Addr} {len cap : Nat} {w w1 : World} {ka kb : BitVec 64} (HS : Hid (Sl w 1 ao len cap (cs i64v l) ∧ I64s l ∧ len ≤ 1000000)) (hS : w1.cell? ⟨w.heap.size, 0, none⟩ = some (u64 ka) ∧ w1.cell? ⟨w.heap.size, 1, none⟩ = some (u64 kb) ∧ Below w.heap.size w w1) :
    Calls Try.prog 21 #[.agg #[u64 ka, u64 kb], .slice ao len cap] w1 (RetB (u64 (sipSum ka kb (putInts l))) w1) := refTag_any ka kb l ao len cap w1 (HS.out.1.ext hS.2.2) HS.out.2.1 HS.out.2.2

set_option maxRecDepth 100000 in
set_option maxHeartbeats 40000000 in
theorem macNumbers_walk (ka kb : BitVec 64) (l : List Int) (ao : Option Addr) (len cap : Nat) (w : World) (hs : Sl w 1 ao len cap (cs i64v l)) (hr : I64s l) :
    Calls Try.prog 4 #[.agg #[u64 ka, u64 kb], .slice ao len cap] w (RetB (.bool true) w) := by
  have k0 := keep3_0 w (u64 ka) (u64 kb) 24
  by_cases hbig : 100 < len
  · clear k0 hr
    go_enter Try.func4, Try.ntmps4
    go_wp2_with fail
    refine (awake06_any _).mono ?_
    rintro e w1 ⟨rfl, hb⟩
    go_wp2
    go_ret
    exact ⟨rfl, below_step (below_alloc _ _) hb⟩
  · have HS : Hid (Sl w 1 ao len cap (cs i64v l) ∧ I64s l ∧ len ≤ 1000000) := ⟨hs, hr, by omega⟩
    have hbig' : ¬ (100 : Int) < (len : Int) := by omega
    clear hbig hs hr
    go_enter Try.func4, Try.ntmps4
    go_wp2_with fail
    go_region_held3 (fun w' => w'.cell? ⟨w.heap.size, 0, none⟩ = some (u64 ka) ∧ w'.cell? ⟨w.heap.size, 1, none⟩ = some (u64 kb) ∧ Below w.heap.size w w')
      (repeat (with_reducible first | assumption | refine keep3D ?_ | refine keep3A _ ?_ | (apply keep3; focus assumption)))
      (first
        | (go_at_call 20; (with_reducible refine (tag_k HS ?_).mono ?_); (focus assumption); rintro e w1 ⟨rfl, hb1⟩)
        | (go_at_call 21; (with_reducible refine (refTag_k HS ?_).mono ?_); (focus assumption); rintro e w1 ⟨rfl, hb1⟩)
        | (go_at_call 17; (with_reducible refine (awake06_any _).mono ?_); rintro e w1 ⟨rfl, hb1⟩))
    all_goals
      go_wp2
      go_ret
      exact ⟨rfl, by go_split_ands; assumption⟩
end Go.Proofs.Ytdgifbnnjoeddaa
