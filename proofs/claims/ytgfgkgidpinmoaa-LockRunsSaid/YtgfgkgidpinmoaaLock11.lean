/-
  LOCKS, THE WALKS: the reference's Pause, Resume, Close.
-/
import Derived.Test.YtgfgkgidpinmoaaProg
import Derived.Test.YtgfgkgidpinmoaaBase3
import Derived.Test.YtgfgkgidpinmoaaBase5
import Derived.Test.YtgfgkgidpinmoaaBase6
import Derived.Test.YtgfgkgidpinmoaaBase7
import Derived.Test.YtgfgkgidpinmoaaBase14
import Derived.Test.YtgfgkgidpinmoaaTok2
import Derived.Test.YtgfgkgidpinmoaaLockP
import Derived.Test.YtgfgkgidpinmoaaLock1
import Derived.Test.YtgfgkgidpinmoaaLock2
import Derived.Test.YtgfgkgidpinmoaaLock3
import Derived.Test.YtgfgkgidpinmoaaLockQ
import Derived.Test.YtgfgkgidpinmoaaLock10
import Derived.Test.YtgfgkgidpinmoaaHeld
import Derived.BigQuiet
import Derived.Laws.StructEq
import Derived.StillTailTactics
import Derived.RegionTactic
import Derived.BigRegion
import Derived.Deep.DeepCutAuto
import Derived.Deep.QuietTactic
import Derived.WalkSpells
import Derived.WalkLawsBesides
namespace Go.Proofs.Ytgfgkgidpinmoaa
open Go.RowKit
set_option linter.unusedVariables false

theorem own_keepB {w W' : World} {B size n : Nat} {e : TypeId} {v : Value} {xs : List Value} (h : w.ownsRow B e size v n xs) (hk : ∀ k, B ≤ k → k < w.heap.size → W'.heap[k]? = w.heap[k]?) : W'.ownsRow B e size v n xs := by
  refine ⟨h.1, ?_⟩
  rcases h.2 with hn | ⟨g, cap, cur, rfl, hB, hgb, rest⟩
  · exact .inl hn
  · exact .inr ⟨g, cap, cur, rfl, hB, by rw [hk g hB (Array.getElem?_eq_some_iff.1 hgb).1]; exact hgb, rest⟩
theorem belowD {w W : World} {x0 x1 x2 x3 x4 x5 : Value} (h : Below w.heap.size w W) : Below w.heap.size w ((((((W.setCell ⟨w.heap.size + 1, 0, none⟩ x0).setCell ⟨w.heap.size + 1, 1, none⟩ x1).setCell ⟨w.heap.size + 1, 2, none⟩ x2).setCell ⟨w.heap.size + 1, 3, none⟩ x3).setCell ⟨w.heap.size + 1, 4, none⟩ x4).setCell ⟨w.heap.size + 1, 5, none⟩ x5) :=
  (((((h.setCell (by simp) _).setCell (by simp) _).setCell (by simp) _).setCell (by simp) _).setCell (by simp) _).setCell (by simp) _
theorem set6_heap {W : World} {a k : Nat} {x0 x1 x2 x3 x4 x5 : Value} (h : k ≠ a) : ((((((W.setCell ⟨a, 0, none⟩ x0).setCell ⟨a, 1, none⟩ x1).setCell ⟨a, 2, none⟩ x2).setCell ⟨a, 3, none⟩ x3).setCell ⟨a, 4, none⟩ x4).setCell ⟨a, 5, none⟩ x5).heap[k]? = W.heap[k]? := by
  rw [heap_setCell_other _ _ _ _ (by exact h), heap_setCell_other _ _ _ _ (by exact h), heap_setCell_other _ _ _ _ (by exact h), heap_setCell_other _ _ _ _ (by exact h), heap_setCell_other _ _ _ _ (by exact h), heap_setCell_other _ _ _ _ (by exact h)]
/-- What the callee returned, stored in the result. -/
theorem rfRet_wrap {rv : Value} {ra : Option Addr} {rn rc : Nat} {s : LS} {w w1 w2 W' : World} {r : LS × Int} (hle : w.heap.size ≤ w1.heap.size) (hok : r.2 = 0 → w2.ownsRow w1.heap.size 79 6 (.slice ra rn rc) r.1.reps.length (rcs r.1.reps)) (herr : r.2 ≠ 0 → r.1 = s ∧ (.slice ra rn rc) = rv)
    (hb : Below w.heap.size w W') (hk : ∀ k, w1.heap.size ≤ k → k < w2.heap.size → W'.heap[k]? = w2.heap[k]?) : RfRet rv s w r (.returned (.tuple #[rlkV r.1 (.slice ra rn rc), .int .i64 r.2])) W' :=
  ⟨ra, rn, rc, rfl, hb, fun h => ownsRow_mono (own_keepB (hok h) hk) hle, herr⟩
/-- The reference's report as the walk spells it. -/
theorem refReport_s {v : Value} {s : LS} {local_ kind place rider ride st : Int} {w : World} {B0 : Nat} {T : LS × Int} (h : Hid (w.ownsRow B0 79 6 v s.reps.length (rcs s.reps))) (hn : s.reps.length ≤ 512) (hT : Hid (s.report local_ kind place rider ride st = T)) :
    Calls Try.prog 94 #[rlkV s v, .int .i64 st, .agg #[.int .i64 0, .int .i64 local_, .int .i64 kind, .int .i64 place, .int .i64 rider, .int .i64 ride]] w (RfRet v s w T) := by
  have := refReport_any (v := v) (s := s) 0 local_ kind place rider ride st w B0 h hn
  rw [hT.out] at this
  exact this
structure DuoW (w : World) (A C : Array Value) (W : World) : Prop where
  a : BlkAt W w.heap.size A
  c : BlkAt W (w.heap.size + 1) C
  lo : Below w.heap.size w W
  sz : w.heap.size + 2 ≤ W.heap.size
theorem DuoW.mk0 (w : World) (A C : Array Value) (E F : TypeId) : DuoW w A C ((w.alloc (.cells A E)).alloc (.cells C F)) := ⟨blkOld (blkNew rfl), blkNew (by simp), below_step (below_alloc _ _) (below_alloc _ _), by simp⟩
theorem DuoW.step {w W W' : World} {A C : Array Value} (h : DuoW w A C W) (hb : Below W.heap.size W W') : DuoW w A C W' := ⟨blkBelow hb h.a, blkBelow hb h.c, below_step h.lo hb, Nat.le_trans h.sz hb.size⟩

set_option maxRecDepth 100000 in
set_option maxHeartbeats 600000 in
theorem refPause_any {v : Value} {s : LS} (loc : Int) (w : World) (B0 : Nat) (h : Hid (w.ownsRow B0 79 6 v s.reps.length (rcs s.reps))) (hn : s.reps.length ≤ 512) :
    Calls Try.prog 80 #[rlkV s v, .int .i64 loc] w (RfRet v s w (s.pause loc)) := by
  obtain ⟨T, hT⟩ : ∃ T, s.pause loc = T := ⟨_, rfl⟩
  rw [hT]
  unfold LS.pause at hT
  obtain ⟨sb, ska, skb, sst, sla, sre⟩ := s
  obtain ⟨ao, cap, hv, _⟩ := sl_of_own h.out
  subst hv
  dsimp only [rlkV] at hT h hn ⊢
  have HQ := Lib.hid (DuoW.mk0 w #[.int .i64 sb, u64 ska, u64 skb, .int .i64 sst, .int .i64 sla, .slice ao sre.length cap] #[.int .i64 0, .int .u64 0, .int .u64 0, .int .i64 0, .int .i64 0, .slice none 0 0] 63 63)
  by_cases hst : sst = 2
  · subst hst
    rw [if_neg (fun h => h rfl)] at hT
    have HT := Lib.hid hT
    clear hT
    go_enter Try.func80, Try.ntmps80
    go_wp2_with fail
    refine (refReport_s (s := ⟨sb, ska, skb, 2, sla, sre⟩) (ownsRow_ext h.out HQ.out.lo) hn HT).mono ?_
    rintro e w1 ⟨ra, rn, rc, rfl, hb1, hok, herr⟩
    have HQ1 := Lib.hid (HQ.out.step hb1)
    have HOK := Lib.hid hok
    have HERR := Lib.hid herr
    have hlt : w.heap.size + 1 < w1.heap.size := HQ1.out.sz
    obtain ⟨z0, z1, z2, z3, z4, z5⟩ := six_cells HQ1.out.c
    have e0 := blkX_frozen (i := 0) HQ1.out.c
    have e1 := blkX_frozen (i := 1) HQ1.out.c
    have e2 := blkX_frozen (i := 2) HQ1.out.c
    have e3 := blkX_frozen (i := 3) HQ1.out.c
    have e4 := blkX_frozen (i := 4) HQ1.out.c
    have e5 := blkX_frozen (i := 5) HQ1.out.c
    clear hb1 hok herr
    obtain ⟨⟨tb, tka, tkb, tst, tla, tre⟩, te⟩ := T
    go_wp2
    refine bodyPost_ret (v := .tuple #[rlkV ⟨tb, tka, tkb, tst, tla, tre⟩ (.slice ra rn rc), .int .i64 te]) ?_ rfl (rfRet_wrap (w1 := (w.alloc (.cells #[.int .i64 sb, u64 ska, u64 skb, .int .i64 2, .int .i64 sla, .slice ao sre.length cap] 63)).alloc (.cells #[.int .i64 0, .int .u64 0, .int .u64 0, .int .i64 0, .int .i64 0, .slice none 0 0] 63)) (w2 := w1) HQ.out.lo.size HOK.out HERR.out ?_ ?_)
    · rw [results_cell_tmp rfl]
      go_simp
    · exact belowD HQ1.out.lo
    · exact fun k hk _ => set6_heap (by simp at hk; omega)
  · rw [if_pos hst] at hT
    have HT := Lib.hid hT
    clear hT
    go_enter Try.func80, Try.ntmps80
    go_wp2
    refine bodyPost_ret (v := .tuple #[rlkV ⟨sb, ska, skb, sst, sla, sre⟩ (.slice ao sre.length cap), .int .i64 12]) ?_ rfl (rfRet_err HT.out (by decide) ?_)
    · rw [results_cell_tmp rfl]
      go_simp
    · exact below_step (below_alloc _ _) (below_alloc _ _)

set_option maxRecDepth 100000 in
set_option maxHeartbeats 600000 in
theorem refResume_any {v : Value} {s : LS} (loc : Int) (w : World) (B0 : Nat) (h : Hid (w.ownsRow B0 79 6 v s.reps.length (rcs s.reps))) (hn : s.reps.length ≤ 512) :
    Calls Try.prog 81 #[rlkV s v, .int .i64 loc] w (RfRet v s w (s.resume loc)) := by
  obtain ⟨T, hT⟩ : ∃ T, s.resume loc = T := ⟨_, rfl⟩
  rw [hT]
  unfold LS.resume at hT
  obtain ⟨sb, ska, skb, sst, sla, sre⟩ := s
  obtain ⟨ao, cap, hv, _⟩ := sl_of_own h.out
  subst hv
  dsimp only [rlkV] at hT h hn ⊢
  have HQ := Lib.hid (DuoW.mk0 w #[.int .i64 sb, u64 ska, u64 skb, .int .i64 sst, .int .i64 sla, .slice ao sre.length cap] #[.int .i64 0, .int .u64 0, .int .u64 0, .int .i64 0, .int .i64 0, .slice none 0 0] 63 63)
  by_cases hst : sst = 3
  · subst hst
    rw [if_neg (fun h => h rfl)] at hT
    have HT := Lib.hid hT
    clear hT
    go_enter Try.func81, Try.ntmps81
    go_wp2_with fail
    refine (refReport_s (s := ⟨sb, ska, skb, 3, sla, sre⟩) (ownsRow_ext h.out HQ.out.lo) hn HT).mono ?_
    rintro e w1 ⟨ra, rn, rc, rfl, hb1, hok, herr⟩
    have HQ1 := Lib.hid (HQ.out.step hb1)
    have HOK := Lib.hid hok
    have HERR := Lib.hid herr
    have hlt : w.heap.size + 1 < w1.heap.size := HQ1.out.sz
    obtain ⟨z0, z1, z2, z3, z4, z5⟩ := six_cells HQ1.out.c
    have e0 := blkX_frozen (i := 0) HQ1.out.c
    have e1 := blkX_frozen (i := 1) HQ1.out.c
    have e2 := blkX_frozen (i := 2) HQ1.out.c
    have e3 := blkX_frozen (i := 3) HQ1.out.c
    have e4 := blkX_frozen (i := 4) HQ1.out.c
    have e5 := blkX_frozen (i := 5) HQ1.out.c
    clear hb1 hok herr
    obtain ⟨⟨tb, tka, tkb, tst, tla, tre⟩, te⟩ := T
    go_wp2
    refine bodyPost_ret (v := .tuple #[rlkV ⟨tb, tka, tkb, tst, tla, tre⟩ (.slice ra rn rc), .int .i64 te]) ?_ rfl (rfRet_wrap (w1 := (w.alloc (.cells #[.int .i64 sb, u64 ska, u64 skb, .int .i64 3, .int .i64 sla, .slice ao sre.length cap] 63)).alloc (.cells #[.int .i64 0, .int .u64 0, .int .u64 0, .int .i64 0, .int .i64 0, .slice none 0 0] 63)) (w2 := w1) HQ.out.lo.size HOK.out HERR.out ?_ ?_)
    · rw [results_cell_tmp rfl]
      go_simp
    · exact belowD HQ1.out.lo
    · exact fun k hk _ => set6_heap (by simp at hk; omega)
  · rw [if_pos hst] at hT
    have HT := Lib.hid hT
    clear hT
    go_enter Try.func81, Try.ntmps81
    go_wp2
    refine bodyPost_ret (v := .tuple #[rlkV ⟨sb, ska, skb, sst, sla, sre⟩ (.slice ao sre.length cap), .int .i64 12]) ?_ rfl (rfRet_err HT.out (by decide) ?_)
    · rw [results_cell_tmp rfl]
      go_simp
    · exact below_step (below_alloc _ _) (below_alloc _ _)

set_option maxRecDepth 100000 in
set_option maxHeartbeats 600000 in
theorem refClose_any {v : Value} {s : LS} (place loc : Int) (w : World) (B0 : Nat) (h : Hid (w.ownsRow B0 79 6 v s.reps.length (rcs s.reps))) (hn : s.reps.length ≤ 512) :
    Calls Try.prog 82 #[rlkV s v, .int .i64 place, .int .i64 loc] w (RfRet v s w (s.close place loc)) := by
  obtain ⟨T, hT⟩ : ∃ T, s.close place loc = T := ⟨_, rfl⟩
  rw [hT]
  unfold LS.close at hT
  obtain ⟨sb, ska, skb, sst, sla, sre⟩ := s
  obtain ⟨ao, cap, hv, _⟩ := sl_of_own h.out
  subst hv
  dsimp only [rlkV] at hT h hn ⊢
  have HQ := Lib.hid (DuoW.mk0 w #[.int .i64 sb, u64 ska, u64 skb, .int .i64 sst, .int .i64 sla, .slice ao sre.length cap] #[.int .i64 0, .int .u64 0, .int .u64 0, .int .i64 0, .int .i64 0, .slice none 0 0] 63 63)
  by_cases hst : sst = 2
  · subst hst
    rw [if_neg (fun h => h rfl)] at hT
    by_cases q1 : place < 0
    · rw [if_pos (.inl q1)] at hT
      have HT := Lib.hid hT
      clear hT
      go_enter Try.func82, Try.ntmps82
      go_wp2
      refine bodyPost_ret (v := .tuple #[rlkV ⟨sb, ska, skb, 2, sla, sre⟩ (.slice ao sre.length cap), .int .i64 1]) ?_ rfl (rfRet_err HT.out (by decide) ?_)
      · rw [results_cell_tmp rfl]
        go_simp
      · exact below_step (below_alloc _ _) (below_alloc _ _)
    · by_cases q2 : 64 ≤ place
      · rw [if_pos (.inr q2)] at hT
        have HT := Lib.hid hT
        clear hT
        go_enter Try.func82, Try.ntmps82
        go_wp2
        refine bodyPost_ret (v := .tuple #[rlkV ⟨sb, ska, skb, 2, sla, sre⟩ (.slice ao sre.length cap), .int .i64 1]) ?_ rfl (rfRet_err HT.out (by decide) ?_)
        · rw [results_cell_tmp rfl]
          go_simp
        · exact below_step (below_alloc _ _) (below_alloc _ _)
      · rw [if_neg (fun h => h.elim q1 q2)] at hT
        have HT := Lib.hid hT
        clear hT
        go_enter Try.func82, Try.ntmps82
        go_wp2_with fail
        refine (refReport_s (s := ⟨sb, ska, skb, 2, sla, sre⟩) (ownsRow_ext h.out HQ.out.lo) hn HT).mono ?_
        rintro e w1 ⟨ra, rn, rc, rfl, hb1, hok, herr⟩
        have HQ1 := Lib.hid (HQ.out.step hb1)
        have HOK := Lib.hid hok
        have HERR := Lib.hid herr
        have hlt : w.heap.size + 1 < w1.heap.size := HQ1.out.sz
        obtain ⟨z0, z1, z2, z3, z4, z5⟩ := six_cells HQ1.out.c
        have e0 := blkX_frozen (i := 0) HQ1.out.c
        have e1 := blkX_frozen (i := 1) HQ1.out.c
        have e2 := blkX_frozen (i := 2) HQ1.out.c
        have e3 := blkX_frozen (i := 3) HQ1.out.c
        have e4 := blkX_frozen (i := 4) HQ1.out.c
        have e5 := blkX_frozen (i := 5) HQ1.out.c
        clear hb1 hok herr
        obtain ⟨⟨tb, tka, tkb, tst, tla, tre⟩, te⟩ := T
        go_wp2
        refine bodyPost_ret (v := .tuple #[rlkV ⟨tb, tka, tkb, tst, tla, tre⟩ (.slice ra rn rc), .int .i64 te]) ?_ rfl (rfRet_wrap (w1 := (w.alloc (.cells #[.int .i64 sb, u64 ska, u64 skb, .int .i64 2, .int .i64 sla, .slice ao sre.length cap] 63)).alloc (.cells #[.int .i64 0, .int .u64 0, .int .u64 0, .int .i64 0, .int .i64 0, .slice none 0 0] 63)) (w2 := w1) HQ.out.lo.size HOK.out HERR.out ?_ ?_)
        · rw [results_cell_tmp rfl]
          go_simp
        · exact belowD HQ1.out.lo
        · exact fun k hk _ => set6_heap (by simp at hk; omega)
  · rw [if_pos hst] at hT
    have HT := Lib.hid hT
    clear hT
    go_enter Try.func82, Try.ntmps82
    go_wp2
    refine bodyPost_ret (v := .tuple #[rlkV ⟨sb, ska, skb, sst, sla, sre⟩ (.slice ao sre.length cap), .int .i64 12]) ?_ rfl (rfRet_err HT.out (by decide) ?_)
    · rw [results_cell_tmp rfl]
      go_simp
    · exact below_step (below_alloc _ _) (below_alloc _ _)
set_option maxRecDepth 100000 in
set_option maxHeartbeats 1000000 in
theorem refNew_ok (bike : Int) (ka kb : BitVec 64) (w : World) (h0 : 0 ≤ bike) (h1 : bike < 128) : Calls Try.prog 42 #[.int .i64 bike, .agg #[u64 ka, u64 kb]] w (RetB (.tuple #[rlkV ⟨bike, ka, kb, 1, 0, []⟩ (.slice none 0 0), .int .i64 0]) w) := by
  have h0' : ¬ bike < 0 := by omega
  have h1' : ¬ 128 ≤ bike := by omega
  go_enter Try.func42, Try.ntmps42
  go_wp2
  refine bodyPost_ret (v := .tuple #[rlkV ⟨bike, ka, kb, 1, 0, []⟩ (.slice none 0 0), .int .i64 0]) ?_ rfl ⟨rfl, ?_⟩
  · rw [results_cell_tmp rfl]
    go_simp
  · exact below_step (below_alloc _ _) (below_alloc _ _)
set_option maxRecDepth 100000 in
set_option maxHeartbeats 1000000 in
theorem refNew_bad (bike : Int) (ka kb : BitVec 64) (w : World) (h : bike < 0 ∨ 128 ≤ bike) : Calls Try.prog 42 #[.int .i64 bike, .agg #[u64 ka, u64 kb]] w (RetB (.tuple #[.agg #[.int .i64 0, .int .u64 0, .int .u64 0, .int .i64 0, .int .i64 0, .slice none 0 0], .int .i64 1]) w) := by
  by_cases h0 : bike < 0
  · clear h
    go_enter Try.func42, Try.ntmps42
    go_wp2
    refine bodyPost_ret (v := .tuple #[.agg #[.int .i64 0, .int .u64 0, .int .u64 0, .int .i64 0, .int .i64 0, .slice none 0 0], .int .i64 1]) ?_ rfl ⟨rfl, ?_⟩
    · rw [results_cell_tmp rfl]
      go_simp
    · exact below_step (below_alloc _ _) (below_alloc _ _)
  · have h1 : 128 ≤ bike := by omega
    clear h
    go_enter Try.func42, Try.ntmps42
    go_wp2
    refine bodyPost_ret (v := .tuple #[.agg #[.int .i64 0, .int .u64 0, .int .u64 0, .int .i64 0, .int .i64 0, .slice none 0 0], .int .i64 1]) ?_ rfl ⟨rfl, ?_⟩
    · rw [results_cell_tmp rfl]
      go_simp
    · exact below_step (below_alloc _ _) (below_alloc _ _)
end Go.Proofs.Ytgfgkgidpinmoaa
