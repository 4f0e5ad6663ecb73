/-
  TOKENS, THE WALKS: Genuine, Usable.
-/
import Derived.Test.YtpmjgiabedjlgaaProg
import Derived.Test.YtpmjgiabedjlgaaBase7
import Derived.Test.YtpmjgiabedjlgaaTokP
import Derived.Test.YtpmjgiabedjlgaaTok1
import Derived.Test.YtpmjgiabedjlgaaTok2
import Derived.Test.YtpmjgiabedjlgaaMac1
import Derived.Test.YtpmjgiabedjlgaaMac4
import Derived.Test.YtpmjgiabedjlgaaMac8
import Derived.Test.YtpmjgiabedjlgaaBase14
import Derived.Test.YtpmjgiabedjlgaaWire6
import Derived.Test.YtpmjgiabedjlgaaWire2
import Derived.BigQuiet
import Derived.StillTailTactics
import Derived.RegionTactic
import Derived.Deep.DeepCutAuto
import Derived.Deep.QuietTactic
import Derived.WalkSpells
import Derived.WalkLawsBesides
import Derived.Laws.StructEq
import Derived.BigRegion
import Derived.Deep.RegionHeld3
namespace Go.Proofs.Ytpmjgiabedjlgaa
open Go.RowKit
set_option linter.unusedVariables false


def gen (ka kb : BitVec 64) (b r d f t n : Int) (g : BitVec 64) : Bool := decide (¬ Tok.bad ⟨b, r, d, f, t, n⟩) && decide (tagOf ka kb b r d f t n = g)
theorem gen_bad {ka kb : BitVec 64} {b r d f t n : Int} {g : BitVec 64} (h : Tok.bad ⟨b, r, d, f, t, n⟩) : gen ka kb b r d f t n g = false := by unfold gen; rw [decide_eq_false (fun h' => h' h)]; rfl
theorem gen_ok {ka kb : BitVec 64} {b r d f t n : Int} {g : BitVec 64} (h : ¬ Tok.bad ⟨b, r, d, f, t, n⟩) : gen ka kb b r d f t n g = decide (tagOf ka kb b r d f t n = g) := by unfold gen; rw [decide_eq_true h]; rfl
/-- What Genuine keeps: the key's cells, the token's. -/
structure GenW (w : World) (ka kb : BitVec 64) (T : Array Value) (W : World) : Prop where
  k : BlkAt W w.heap.size #[u64 ka, u64 kb]
  t : BlkAt W (w.heap.size + 1) T
  b : Below w.heap.size w W
theorem GenW.mk0 (w : World) (ka kb : BitVec 64) (T : Array Value) (E F : TypeId) : GenW w ka kb T ((w.alloc (.cells #[u64 ka, u64 kb] E)).alloc (.cells T F)) := ⟨blkOld (blkNew rfl), blkNew (by simp), below_step (below_alloc _ _) (below_alloc _ _)⟩
theorem GenW.step {w W W' : World} {ka kb : BitVec 64} {T : Array Value} (q : GenW w ka kb T W) (hb : Below W.heap.size W W') : GenW w ka kb T W' := ⟨blkBelow hb q.k, blkBelow hb q.t, below_step q.b hb⟩

set_option maxRecDepth 100000 in
set_option maxHeartbeats 4000000 in
theorem genuine_any (ka kb : BitVec 64) (b r d f t n : Int) (g : BitVec 64) (w : World) : Calls Try.prog 63 #[.agg #[u64 ka, u64 kb], .agg #[.int .i64 b, .int .i64 r, .int .i64 d, .int .i64 f, .int .i64 t, .int .i64 n, u64 g]] w (RetB (.bool (gen ka kb b r d f t n g)) w) := by
  have HQ := Lib.hid (GenW.mk0 w ka kb #[.int .i64 b, .int .i64 r, .int .i64 d, .int .i64 f, .int .i64 t, .int .i64 n, u64 g] 32 69)
  by_cases hbad : Tok.bad ⟨b, r, d, f, t, n⟩
  · rw [gen_bad hbad]
    have HB := Lib.hid (chk_bad hbad)
    clear hbad
    go_enter Try.func63, Try.ntmps63
    go_wp2_with fail
    refine (issue_bad ka kb b r d f t n g _ HB).mono ?_
    rintro e w1 ⟨rfl, hb1⟩
    have HQ1 := Lib.hid (HQ.out.step hb1)
    clear hb1 HQ
    go_wp2
    go_ret
    exact ⟨rfl, below_step HQ1.out.b (below_alloc _ _)⟩
  · rw [gen_ok hbad]
    have HI := Lib.hid (fun w => issue_ok ka kb b r d f t n g w hbad)
    clear hbad
    generalize tagOf ka kb b r d f t n = G at *
    go_enter Try.func63, Try.ntmps63
    go_wp2_with fail
    refine (HI.out _).mono ?_
    rintro e w1 ⟨rfl, hb1⟩
    have HQ1 := Lib.hid (HQ.out.step hb1)
    obtain ⟨c0, c1, c2, c3, c4, c5, c6⟩ := tok_cells (w := w) (E := 0) HQ1.out.t
    have hz := World.block_lt_of_cell? _ _ c0
    clear hb1 HQ
    go_wp2
    go_ret
    exact ⟨rfl, below_step HQ1.out.b (below_alloc _ _)⟩

def usable (ka kb : BitVec 64) (b r d f t n : Int) (g : BitVec 64) (bike lo hi last : Int) : Int :=
  if gen ka kb b r d f t n g = false then 17 else if b ≠ bike then 7 else if n ≤ last then 20 else if lo < f then 18 else if t ≤ hi then 19 else if hi < lo then 1 else 0
/-- What Usable keeps. -/
structure UseW (w : World) (ka kb : BitVec 64) (T : Array Value) (lo hi : Int) (W : World) : Prop where
  k : BlkAt W w.heap.size #[u64 ka, u64 kb]
  t : BlkAt W (w.heap.size + 1) T
  s : BlkAt W (w.heap.size + 1 + 1) #[.int .i64 lo, .int .i64 hi]
  b : Below w.heap.size w W
theorem UseW.mk0 (w : World) (ka kb : BitVec 64) (T : Array Value) (lo hi : Int) (E F G : TypeId) : UseW w ka kb T lo hi (((w.alloc (.cells #[u64 ka, u64 kb] E)).alloc (.cells T F)).alloc (.cells #[.int .i64 lo, .int .i64 hi] G)) := ⟨blkOld (blkOld (blkNew rfl)), blkOld (blkNew (by simp)), blkNew (by simp), below_step (below_step (below_alloc _ _) (below_alloc _ _)) (below_alloc _ _)⟩
theorem UseW.step {w W W' : World} {ka kb : BitVec 64} {T : Array Value} {lo hi : Int} (q : UseW w ka kb T lo hi W) (hb : Below W.heap.size W W') : UseW w ka kb T lo hi W' := ⟨blkBelow hb q.k, blkBelow hb q.t, blkBelow hb q.s, below_step q.b hb⟩
set_option maxRecDepth 100000 in
set_option maxHeartbeats 4000000 in
theorem usable_any (ka kb : BitVec 64) (b r d f t n : Int) (g : BitVec 64) (bike lo hi last : Int) (w : World) : Calls Try.prog 49 #[.agg #[u64 ka, u64 kb], .agg #[.int .i64 b, .int .i64 r, .int .i64 d, .int .i64 f, .int .i64 t, .int .i64 n, u64 g], .int .i64 bike, .agg #[.int .i64 lo, .int .i64 hi], .int .i64 last] w (RetB (.int .i64 (usable ka kb b r d f t n g bike lo hi last)) w) := by
  have HQ := Lib.hid (UseW.mk0 w ka kb #[.int .i64 b, .int .i64 r, .int .i64 d, .int .i64 f, .int .i64 t, .int .i64 n, u64 g] lo hi 32 69 74)
  have hg := fun w => genuine_any ka kb b r d f t n g w
  obtain ⟨T, hT⟩ : ∃ T, usable ka kb b r d f t n g bike lo hi last = T := ⟨_, rfl⟩
  rw [hT]
  unfold usable at hT
  generalize gen ka kb b r d f t n g = B at *
  have HG := Lib.hid hg
  clear hg
  cases B with
  | false =>
    rw [if_pos rfl] at hT
    have HT := Lib.hid hT
    clear hT
    go_enter Try.func49, Try.ntmps49
    go_wp2_with fail
    refine (HG.out _).mono ?_
    rintro e w1 ⟨rfl, hb1⟩
    have HQ1 := Lib.hid (HQ.out.step hb1)
    obtain ⟨c0, c1, c2, c3, c4, c5, c6⟩ := tok_cells (w := w) (E := 0) HQ1.out.t
    obtain ⟨s0, s1⟩ := key_cells2 HQ1.out.s
    clear hb1 HQ
    go_wp2
    go_ret
    exact ⟨congrArg (fun b => Ending.returned (.int .i64 b)) HT.out, HQ1.out.b⟩
  | true =>
    rw [if_neg (by decide)] at hT
    by_cases q1 : b = bike
    · rw [if_neg (fun h => h q1)] at hT
      by_cases q2 : n ≤ last
      · rw [if_pos q2] at hT
        subst q1
        have HT := Lib.hid hT
        clear hT
        go_enter Try.func49, Try.ntmps49
        go_wp2_with fail
        refine (HG.out _).mono ?_
        rintro e w1 ⟨rfl, hb1⟩
        have HQ1 := Lib.hid (HQ.out.step hb1)
        obtain ⟨c0, c1, c2, c3, c4, c5, c6⟩ := tok_cells (w := w) (E := 0) HQ1.out.t
        obtain ⟨s0, s1⟩ := key_cells2 HQ1.out.s
        clear hb1 HQ
        go_wp2
        go_ret
        exact ⟨congrArg (fun b => Ending.returned (.int .i64 b)) HT.out, HQ1.out.b⟩
      · rw [if_neg q2] at hT
        by_cases q3 : lo < f
        · rw [if_pos q3] at hT
          subst q1
          have HT := Lib.hid hT
          clear hT
          go_enter Try.func49, Try.ntmps49
          go_wp2_with fail
          refine (HG.out _).mono ?_
          rintro e w1 ⟨rfl, hb1⟩
          have HQ1 := Lib.hid (HQ.out.step hb1)
          obtain ⟨c0, c1, c2, c3, c4, c5, c6⟩ := tok_cells (w := w) (E := 0) HQ1.out.t
          obtain ⟨s0, s1⟩ := key_cells2 HQ1.out.s
          clear hb1 HQ
          go_wp2
          go_ret
          exact ⟨congrArg (fun b => Ending.returned (.int .i64 b)) HT.out, HQ1.out.b⟩
        · rw [if_neg q3] at hT
          by_cases q4 : t ≤ hi
          · rw [if_pos q4] at hT
            subst q1
            have HT := Lib.hid hT
            clear hT
            go_enter Try.func49, Try.ntmps49
            go_wp2_with fail
            refine (HG.out _).mono ?_
            rintro e w1 ⟨rfl, hb1⟩
            have HQ1 := Lib.hid (HQ.out.step hb1)
            obtain ⟨c0, c1, c2, c3, c4, c5, c6⟩ := tok_cells (w := w) (E := 0) HQ1.out.t
            obtain ⟨s0, s1⟩ := key_cells2 HQ1.out.s
            clear hb1 HQ
            go_wp2
            go_ret
            exact ⟨congrArg (fun b => Ending.returned (.int .i64 b)) HT.out, HQ1.out.b⟩
          · rw [if_neg q4] at hT
            by_cases q5 : hi < lo
            · rw [if_pos q5] at hT
              subst q1
              have HT := Lib.hid hT
              clear hT
              go_enter Try.func49, Try.ntmps49
              go_wp2_with fail
              refine (HG.out _).mono ?_
              rintro e w1 ⟨rfl, hb1⟩
              have HQ1 := Lib.hid (HQ.out.step hb1)
              obtain ⟨c0, c1, c2, c3, c4, c5, c6⟩ := tok_cells (w := w) (E := 0) HQ1.out.t
              obtain ⟨s0, s1⟩ := key_cells2 HQ1.out.s
              clear hb1 HQ
              go_wp2
              go_ret
              exact ⟨congrArg (fun b => Ending.returned (.int .i64 b)) HT.out, HQ1.out.b⟩
            · rw [if_neg q5] at hT
              subst q1
              have HT := Lib.hid hT
              clear hT
              go_enter Try.func49, Try.ntmps49
              go_wp2_with fail
              refine (HG.out _).mono ?_
              rintro e w1 ⟨rfl, hb1⟩
              have HQ1 := Lib.hid (HQ.out.step hb1)
              obtain ⟨c0, c1, c2, c3, c4, c5, c6⟩ := tok_cells (w := w) (E := 0) HQ1.out.t
              obtain ⟨s0, s1⟩ := key_cells2 HQ1.out.s
              clear hb1 HQ
              go_wp2
              go_ret
              exact ⟨congrArg (fun b => Ending.returned (.int .i64 b)) HT.out, HQ1.out.b⟩
    · rw [if_pos q1] at hT
      have HT := Lib.hid hT
      clear hT
      go_enter Try.func49, Try.ntmps49
      go_wp2_with fail
      refine (HG.out _).mono ?_
      rintro e w1 ⟨rfl, hb1⟩
      have HQ1 := Lib.hid (HQ.out.step hb1)
      obtain ⟨c0, c1, c2, c3, c4, c5, c6⟩ := tok_cells (w := w) (E := 0) HQ1.out.t
      obtain ⟨s0, s1⟩ := key_cells2 HQ1.out.s
      clear hb1 HQ
      go_wp2
      go_ret
      exact ⟨congrArg (fun b => Ending.returned (.int .i64 b)) HT.out, HQ1.out.b⟩

end Go.Proofs.Ytpmjgiabedjlgaa
