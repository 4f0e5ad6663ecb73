/-
  MAC, THE WALKS: Derive.
-/
import Derived.Test.YtpmjgiabedjlgaaProg
import Derived.Test.YtpmjgiabedjlgaaMac4
import Derived.Test.YtpmjgiabedjlgaaBase7
import Derived.Test.YtpmjgiabedjlgaaMac1
import Derived.Test.YtpmjgiabedjlgaaMac3
import Derived.Test.YtpmjgiabedjlgaaBase14
import Derived.Test.YtpmjgiabedjlgaaWire6
import Derived.Test.YtpmjgiabedjlgaaWire2
import Derived.BigQuiet
import Derived.StillTailTactics
import Derived.RegionTactic
import Derived.Deep.DeepCutAuto
import Derived.Deep.QuietTactic
import Derived.WalkSpells
import Derived.WalkLawsBesides
namespace Go.Proofs.Ytpmjgiabedjlgaa
open Go.RowKit
set_option linter.unusedVariables false


set_option maxRecDepth 100000 in
set_option maxHeartbeats 8000000 in
theorem derive_any (ka kb : BitVec 64) (n : Int) (w : World) (hn : -9223372036854775808 ≤ n ∧ n ≤ 9223372036854775807) :
    Calls Try.prog 46 #[.agg #[u64 ka, u64 kb], .int .i64 n] w (RetB (derived ka kb n) w) := by
  have HX := Lib.hid hn
  clear hn
  go_enter Try.func46, Try.ntmps46
  go_wp2_with fail
  go_region_held3 (fun w' => w'.cell? ⟨w.heap.size, 0, none⟩ = some (u64 ka) ∧ w'.cell? ⟨w.heap.size, 1, none⟩ = some (u64 kb) ∧ Below w.heap.size w w')
    (repeat (with_reducible first | exact keep3_0 _ _ _ _ | assumption | refine keep3D ?_ | refine keep3S ?_ | refine keep3A _ ?_ | (apply keep3; focus assumption)))
    (first
      | (go_at_call 45; refine (tag_s (y := 0) HX (by decide) ?_).mono ?_; (repeat (first | ((with_reducible refine blkNew ?_); focus (simp; done)) | (with_reducible assumption) | (with_reducible refine blkDrew ?_) | ((with_reducible apply blkBelow); focus (with_reducible assumption)) | (with_reducible refine blkOld ?_))); rintro e w1 ⟨rfl, hb1⟩; have hz1 : BlkAt w1 (w.heap.size + 1) #[.int .u64 0, .int .u64 0] := (by (repeat (first | ((with_reducible refine blkNew ?_); focus (simp; done)) | (with_reducible assumption) | (with_reducible refine blkDrew ?_) | ((with_reducible apply blkBelow); focus (with_reducible assumption)) | (with_reducible refine blkOld ?_)))); obtain ⟨z0, z1, f0, f1⟩ := two_facts hz1)
      | (go_at_call 45; refine (tag_s (y := 1) HX (by decide) ?_).mono ?_; (repeat (first | ((with_reducible refine blkNew ?_); focus (simp; done)) | (with_reducible assumption) | (with_reducible refine blkDrew ?_) | ((with_reducible apply blkBelow); focus (with_reducible assumption)) | (with_reducible refine blkOld ?_))); rintro e w1 ⟨rfl, hb1⟩; have hz1 : BlkAt w1 (w.heap.size + 1) #[.int .u64 0, .int .u64 0] := (by (repeat (first | ((with_reducible refine blkNew ?_); focus (simp; done)) | (with_reducible assumption) | (with_reducible refine blkDrew ?_) | ((with_reducible apply blkBelow); focus (with_reducible assumption)) | (with_reducible refine blkOld ?_)))); obtain ⟨z0, z1, f0, f1⟩ := two_facts hz1))
  all_goals
    obtain ⟨y0, y1, _, _⟩ := two_facts (two_set hz1 (u64 (sipSum ka kb (putInts [n, 0]))) (u64 (sipSum ka kb (putInts [n, 1]))))
    go_wp2
    (try simp only [Exit.inBlock, Exit.then])
    refine bodyPost_ret (v := derived ka kb n) ?_ rfl ⟨rfl, by go_split_ands; assumption⟩
    rw [results_cell1 rfl]
    go_simp
    rfl
end Go.Proofs.Ytpmjgiabedjlgaa
