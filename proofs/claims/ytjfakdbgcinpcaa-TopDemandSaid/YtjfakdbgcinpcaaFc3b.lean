/-
  FORECAST, THE WALKS: Expected.
-/
import Derived.Test.YtjfakdbgcinpcaaProg
import Derived.Test.YtjfakdbgcinpcaaBase7
import Derived.Test.YtjfakdbgcinpcaaDraw4
import Derived.Test.YtjfakdbgcinpcaaFcP
import Derived.Test.YtjfakdbgcinpcaaFc1
import Derived.Test.YtjfakdbgcinpcaaFc2
import Derived.Test.YtjfakdbgcinpcaaFc3
import Derived.Test.YtjfakdbgcinpcaaHeld
import Derived.BigQuiet
import Derived.Laws.StructEq
import Derived.StillTailTactics
import Derived.RegionTactic
import Derived.Deep.DeepCutAuto
import Derived.Deep.QuietTactic
import Derived.WalkSpells
import Derived.WalkLawsBesides
namespace Go.Proofs.Ytjfakdbgcinpcaa
open Go.RowKit
set_option linter.unusedVariables false

set_option maxRecDepth 100000 in
set_option maxHeartbeats 4000000 in
theorem expected_ok (st k p s sl : Int) (hn : Nat) (xs ys : List Int) (a1 : Option Addr) (l1 c1 : Nat) (a2 : Option Addr) (l2 c2 : Nat) (w : World) (H1 : Hid (Sl w 1 a1 l1 c1 (cs i64v xs))) (H2 : Hid (Sl w 1 a2 l2 c2 (cs i64v ys)))
    (HE : Hid (okC st xs ys = 0)) (T : Int × Int × Int) (HT : Hid (T = (expS xs k p s sl hn, expS ys k p s sl hn, 0))) (z0 : 1 ≤ st) (z1 : st ≤ 32) (Z2 : Hid ((xs.length : Int) = st * 168)) (Z3 : Hid ((ys.length : Int) = st * 168)) (Z4 : Hid (goodC xs)) (Z5 : Hid (goodC ys)) (HQ3 : Hid (okR k p))
    (q1 : ¬ s < 0) (q2 : ¬ st ≤ s) (q4 : ¬ sl < 0) (q5 : ¬ 168 ≤ sl) (q7 : ¬ 168 < (hn : Int)) :
    Calls Try.prog 15 #[.agg #[.int .i64 st, .slice a1 l1 c1, .slice a2 l2 c2], .int .i64 k, .int .i64 p, .int .i64 s, .int .i64 sl, .int .i64 (hn : Int)] w (RetT3 T w) := by
  have hmf : ∀ (fn : Fn) (first cap : Array Value) (w : World), (Instr.makeFunc fn first cap).run Try.prog w = .ok (.func fn first cap) w := fun _ _ _ _ => rfl
  have K1 := Lib.hid H1.out.count
  have K2 := Lib.hid H2.out.count
  have HRT := Lib.hid (rate_ok (c := 0) HQ3.out)
  have q6 : ¬ (hn : Int) < 0 := by omega
  generalize rq 0 k p = R at *
  go_enter Try.func15, Try.ntmps15
  go_wp2_with fail
  refine (check_s HE H1 H2 (below6 _ _ _ _ _ _ _)).mono ?_
  rintro er w1 ⟨rfl, hb1⟩
  obtain ⟨d0, d1, d2, d3, d4, d5, d6, d7, hB⟩ := exp_cells rfl hb1
  have HB := Lib.hid hB
  clear hb1 hB
  go_wp2_with fail
  refine (rate_any 0 k p _).mono ?_
  rw [HRT.out]
  rintro er w' ⟨rfl, rfl⟩
  have hc1 : ∀ n, Calls Try.prog 27 #[.slice a1 l1 c1, .pointer (some ⟨w.heap.size + 1 + 1 + 1 + 1 + 1, 0, none⟩), .pointer (some ⟨w.heap.size + 1 + 1 + 1, 0, none⟩), .pointer (some ⟨w.heap.size + 1 + 1 + 1 + 1, 0, none⟩), .pointer (some ⟨w.heap.size + 1, 0, none⟩), .pointer (some ⟨w.heap.size + 1 + 1, 0, none⟩)] (w'.drewN n) (fun e w'' => e = .returned (.int .i64 (expS xs k p s sl hn)) ∧ ∃ m, w'' = (w'.drewN n).drewN m) := fun n =>
    fsum_any xs k p s sl st hn a1 l1 c1 _ _ _ _ _ _ (H1.out.ext (below_drewN HB.out n)) Z4.out HQ3.out d7 d5 d6 d3 d4 (by omega) (by omega) (by omega) (by omega) (by omega) (by omega) (by have := K1.out; have := Z2.out; omega)
  have hc2 : ∀ n, Calls Try.prog 27 #[.slice a2 l2 c2, .pointer (some ⟨w.heap.size + 1 + 1 + 1 + 1 + 1, 0, none⟩), .pointer (some ⟨w.heap.size + 1 + 1 + 1, 0, none⟩), .pointer (some ⟨w.heap.size + 1 + 1 + 1 + 1, 0, none⟩), .pointer (some ⟨w.heap.size + 1, 0, none⟩), .pointer (some ⟨w.heap.size + 1 + 1, 0, none⟩)] (w'.drewN n) (fun e w'' => e = .returned (.int .i64 (expS ys k p s sl hn)) ∧ ∃ m, w'' = (w'.drewN n).drewN m) := fun n =>
    fsum_any ys k p s sl st hn a2 l2 c2 _ _ _ _ _ _ (H2.out.ext (below_drewN HB.out n)) Z5.out HQ3.out d7 d5 d6 d3 d4 (by omega) (by omega) (by omega) (by omega) (by omega) (by omega) (by have := K2.out; have := Z3.out; omega)
  have HC1 := Lib.hid hc1
  have HC2 := Lib.hid hc2
  clear hc1 hc2
  generalize expS xs k p s sl hn = X1 at *
  generalize expS ys k p s sl hn = X2 at *
  go_wp2_with fail
  go_quiet (first
    | (go_at_call 27; with_reducible exact Calls.quiet_of (HC1.out _))
    | (go_at_call 27; with_reducible exact Calls.quiet_of (HC2.out _)))
  go_wp2
  go_ret3
  exact go3 HT (below_drewN HB.out _)
end Go.Proofs.Ytjfakdbgcinpcaa
