/-
  MAC, THE WALKS: MacKeys.
-/
import Derived.Test.YtdgifbnnjoeddaaProg
import Derived.Test.YtdgifbnnjoeddaaBase3
import Derived.Test.YtdgifbnnjoeddaaBase5
import Derived.Test.YtdgifbnnjoeddaaMac1
import Derived.Test.YtdgifbnnjoeddaaMac5
import Derived.Test.YtdgifbnnjoeddaaHeld
import Derived.Test.YtdgifbnnjoeddaaHeld2
import Derived.Test.YtdgifbnnjoeddaaWire6
import Derived.Test.YtdgifbnnjoeddaaBase6
import Derived.Test.YtdgifbnnjoeddaaWire2
import Derived.BigQuiet
import Derived.Laws.StructEq
import Derived.StillTailTactics
import Derived.RegionTactic
import Derived.Deep.DeepCutAuto
import Derived.Deep.QuietTactic
import Derived.WalkSpells
import Derived.WalkLawsBesides
namespace Go.Proofs.Ytdgifbnnjoeddaa
open Go.RowKit
set_option linter.unusedVariables false


theorem key_eql (x y : BitVec 64) (w' : World) : (binOp .eql 24 (.agg #[u64 x, u64 y]) (.agg #[u64 x, u64 y])).run Try.prog w' = .ok (.bool true) w' := by
  have h1 : Try.prog.underlying 24 = some (.struct (Try.prog.fieldsOf 24)) := by kernel_rfl
  have h2 : Try.prog.stoodInHeld 24 = false := by kernel_rfl
  rw [run_eql_struct, run_equalIn_agg _ _ _ _ _ h1 h2]
  unfold u64
  simp only [Program.fieldsOf, Try.underlying24]
  go_simp
theorem derive_x (ka kb : BitVec 64) (n : Int) (w : World) (hn : Hid (-9223372036854775808 ≤ n ∧ n ≤ 9223372036854775807)) :
    Calls Try.prog 22 #[.agg #[u64 ka, u64 kb], .int .i64 n] w (RetB (.agg #[u64 (sipSum ka kb (putInts [n, 0])), u64 (sipSum ka kb (putInts [n, 1]))]) w) := derive_any ka kb n w hn.out

set_option maxRecDepth 100000 in
set_option maxHeartbeats 40000000 in
theorem macKeys_walk (ka kb : BitVec 64) (n : Int) (w : World) (hn : -9223372036854775808 ≤ n ∧ n ≤ 9223372036854775807) :
    Calls Try.prog 8 #[.agg #[u64 ka, u64 kb], .int .i64 n] w (RetB (.bool true) w) := by
  have HX := Lib.hid hn
  clear hn
  go_enter Try.func8, Try.ntmps8
  go_wp2_with fail
  have k0 := keep3_0 w (u64 ka) (u64 kb) 24
  refine (derive_x ka kb n _ HX).mono ?_
  rintro e w1 ⟨rfl, hb1⟩
  have k1 := keep3 hb1 k0
  clear k0
  have k2 := keep7_1 (u64 (sipSum ka kb (putInts [n, 0]))) (u64 (sipSum ka kb (putInts [n, 1]))) 24 k1
  obtain ⟨k1a, k1b, k1c⟩ := k1
  have hEq := key_eql (sipSum ka kb (putInts [n, 0])) (sipSum ka kb (putInts [n, 1]))
  have hGd : Try.prog.eqGuardType Try.prog.depth 24 = false := by kernel_rfl
  go_wp2_with fail
  go_region_held3 (fun w' => w'.cell? ⟨w.heap.size, 0, none⟩ = some (u64 ka) ∧ w'.cell? ⟨w.heap.size, 1, none⟩ = some (u64 kb) ∧ Below w.heap.size w w' ∧ w'.cell? ⟨w1.heap.size, 0, none⟩ = some (u64 (sipSum ka kb (putInts [n, 0]))) ∧ w'.cell? ⟨w1.heap.size, 1, none⟩ = some (u64 (sipSum ka kb (putInts [n, 1]))) ∧ w'.frozen? ⟨w1.heap.size, 0, none⟩ = false ∧ w'.frozen? ⟨w1.heap.size, 1, none⟩ = false)
    (repeat (with_reducible first | assumption | refine keep7D ?_ | refine keep7A _ ?_ | (apply keep7; focus assumption)))
    (first
      | (go_at_call 20; (with_reducible refine (tag_s (y := 0) HX (by decide) ?_).mono ?_); (repeat (first | ((with_reducible refine blkNew ?_); focus (simp; done)) | (with_reducible assumption) | (with_reducible refine blkDrew ?_) | ((with_reducible apply blkBelow); focus (with_reducible assumption)) | (with_reducible refine blkOld ?_))); rintro e w1 ⟨rfl, hb1⟩)
      | (go_at_call 20; (with_reducible refine (tag_s (y := 1) HX (by decide) ?_).mono ?_); (repeat (first | ((with_reducible refine blkNew ?_); focus (simp; done)) | (with_reducible assumption) | (with_reducible refine blkDrew ?_) | ((with_reducible apply blkBelow); focus (with_reducible assumption)) | (with_reducible refine blkOld ?_))); rintro e w1 ⟨rfl, hb1⟩)
      | (go_at_call 22; (with_reducible refine (derive_x ka kb n _ HX).mono ?_); rintro e w1 ⟨rfl, hb1⟩)
      | (go_at_call 17; (with_reducible refine (awake06_any _).mono ?_); rintro e w1 ⟨rfl, hb1⟩))
  all_goals
    go_wp2
    go_ret
    exact ⟨rfl, by go_split_ands; assumption⟩
end Go.Proofs.Ytdgifbnnjoeddaa
