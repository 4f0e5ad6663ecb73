/-
  LOCKS, THE WALKS: the reference's Unlock.
-/
import Derived.Test.YtgfgkgidpinmoaaProg
import Derived.Test.YtgfgkgidpinmoaaBase3
import Derived.Test.YtgfgkgidpinmoaaBase5
import Derived.Test.YtgfgkgidpinmoaaBase6
import Derived.Test.YtgfgkgidpinmoaaBase7
import Derived.Test.YtgfgkgidpinmoaaBase14
import Derived.Test.YtgfgkgidpinmoaaTok1
import Derived.Test.YtgfgkgidpinmoaaTok2
import Derived.Test.YtgfgkgidpinmoaaTok3
import Derived.Test.YtgfgkgidpinmoaaLockP
import Derived.Test.YtgfgkgidpinmoaaLock1
import Derived.Test.YtgfgkgidpinmoaaLock2
import Derived.Test.YtgfgkgidpinmoaaLock4
import Derived.Test.YtgfgkgidpinmoaaLockQ
import Derived.Test.YtgfgkgidpinmoaaLock10
import Derived.Test.YtgfgkgidpinmoaaLock11
import Derived.Test.YtgfgkgidpinmoaaHeld
import Derived.BigQuiet
import Derived.Laws.StructEq
import Derived.StillTailTactics
import Derived.RegionTactic
import Derived.BigRegion
import Derived.Deep.DeepCutAuto
import Derived.Deep.QuietTactic
import Derived.WalkSpells
import Derived.WalkLawsBesides
namespace Go.Proofs.Ytgfgkgidpinmoaa
open Go.RowKit
set_option linter.unusedVariables false

structure QuadW (w : World) (A T S R : Array Value) (W : World) : Prop where
  a : BlkAt W w.heap.size A
  t : BlkAt W (w.heap.size + 1) T
  s : BlkAt W (w.heap.size + 1 + 1) S
  r : BlkAt W (w.heap.size + 1 + 1 + 1) R
  lo : Below w.heap.size w W
  sz : w.heap.size + 4 ≤ W.heap.size
theorem QuadW.mk0 (w : World) (A T S R : Array Value) (E F G H : TypeId) : QuadW w A T S R ((((w.alloc (.cells A E)).alloc (.cells T F)).alloc (.cells S G)).alloc (.cells R H)) :=
  ⟨blkOld (blkOld (blkOld (blkNew rfl))), blkOld (blkOld (blkNew (by simp))), blkOld (blkNew (by simp)), blkNew (by simp), below_step (below_step (below_step (below_alloc _ _) (below_alloc _ _)) (below_alloc _ _)) (below_alloc _ _), by simp⟩
theorem QuadW.step {w W W' : World} {A T S R : Array Value} (h : QuadW w A T S R W) (hb : Below W.heap.size W W') : QuadW w A T S R W' :=
  ⟨blkBelow hb h.a, blkBelow hb h.t, blkBelow hb h.s, blkBelow hb h.r, below_step h.lo hb, Nat.le_trans h.sz hb.size⟩
theorem belowE {w W : World} {x0 x1 x2 x3 x4 x5 : Value} (h : Below w.heap.size w W) : Below w.heap.size w ((((((W.setCell ⟨w.heap.size + 1 + 1 + 1, 0, none⟩ x0).setCell ⟨w.heap.size + 1 + 1 + 1, 1, none⟩ x1).setCell ⟨w.heap.size + 1 + 1 + 1, 2, none⟩ x2).setCell ⟨w.heap.size + 1 + 1 + 1, 3, none⟩ x3).setCell ⟨w.heap.size + 1 + 1 + 1, 4, none⟩ x4).setCell ⟨w.heap.size + 1 + 1 + 1, 5, none⟩ x5) :=
  (((((h.setCell (by simp; omega) _).setCell (by simp; omega) _).setCell (by simp; omega) _).setCell (by simp; omega) _).setCell (by simp; omega) _).setCell (by simp; omega) _

set_option maxRecDepth 100000 in
set_option maxHeartbeats 600000 in
theorem refUnlock_any {v : Value} {s : LS} (b r d f t n : Int) (tag : BitVec 64) (lo hi loc : Int) (w : World) (B0 : Nat) (h : Hid (w.ownsRow B0 79 6 v s.reps.length (rcs s.reps))) (hn : s.reps.length ≤ 512) :
    Calls Try.prog 79 #[rlkV s v, .agg #[.int .i64 b, .int .i64 r, .int .i64 d, .int .i64 f, .int .i64 t, .int .i64 n, u64 tag], .agg #[.int .i64 lo, .int .i64 hi], .int .i64 loc] w (RfRet v s w (s.unlock b r d f t n tag lo hi loc)) := by
  obtain ⟨T, hT⟩ : ∃ T, s.unlock b r d f t n tag lo hi loc = T := ⟨_, rfl⟩
  rw [hT]
  unfold LS.unlock at hT
  obtain ⟨sb, ska, skb, sst, sla, sre⟩ := s
  obtain ⟨ao, cap, hv, _⟩ := sl_of_own h.out
  subst hv
  dsimp only [rlkV] at hT h hn ⊢
  have HQ := Lib.hid (QuadW.mk0 w #[.int .i64 sb, u64 ska, u64 skb, .int .i64 sst, .int .i64 sla, .slice ao sre.length cap] #[.int .i64 b, .int .i64 r, .int .i64 d, .int .i64 f, .int .i64 t, .int .i64 n, u64 tag] #[.int .i64 lo, .int .i64 hi] #[.int .i64 0, .int .u64 0, .int .u64 0, .int .i64 0, .int .i64 0, .slice none 0 0] 63 36 43 63)
  by_cases hst : sst = 1
  · subst hst
    rw [if_neg (fun h => h rfl)] at hT
    obtain ⟨U, hU⟩ : ∃ U, usable ska skb b r d f t n tag sb lo hi sla = U := ⟨_, rfl⟩
    rw [hU] at hT
    have huse := fun w => refUsable_any ska skb b r d f t n tag sb lo hi sla w
    rw [hU] at huse
    have HUSE := Lib.hid huse
    clear huse hU
    obtain ⟨⟨⟨tb, tka, tkb, tst, tla, tre⟩, te⟩, hR⟩ : ∃ R, LS.report ⟨sb, ska, skb, 1, sla, sre⟩ loc 3 0 r d 2 = R := ⟨_, rfl⟩
    rw [hR] at hT
    have HRP := Lib.hid hR
    have HT := Lib.hid hT
    clear hT hR
    go_enter Try.func79, Try.ntmps79
    go_wp2_with fail
    refine (HUSE.out _).mono ?_
    rintro e w1 ⟨rfl, hb1⟩
    have HQ1 := Lib.hid (HQ.out.step hb1)
    clear hb1 HQ
    obtain ⟨c0, c1, c2, c3, c4, c5⟩ := six_cells HQ1.out.a
    obtain ⟨k0, k1, k2, k3, k4, k5, k6⟩ := tok_cells (w := w) (E := 0) HQ1.out.t
    by_cases hU0 : U = 0
    · subst hU0
      go_wp2_with fail
      refine (refReport_s (s := ⟨sb, ska, skb, 1, sla, sre⟩) (ownsRow_ext h.out HQ1.out.lo) hn HRP).mono ?_
      rintro e w2 ⟨ra, rn, rc, rfl, hb2, hok, herr⟩
      have HQ2 := Lib.hid (HQ1.out.step hb2)
      have HOK := Lib.hid hok
      have hsz : w.heap.size + 1 + 1 + 1 < w2.heap.size := HQ2.out.sz
      have hsz1 : w.heap.size + 1 < w2.heap.size := by omega
      have hsz0 : w.heap.size < w2.heap.size := by omega
      have hne : ¬ w2.heap.size = w.heap.size + 1 + 1 + 1 := by omega
      have hne' : ¬ w.heap.size + 1 + 1 + 1 = w2.heap.size := by omega
      have hne1 : ¬ w2.heap.size = w.heap.size + 1 := by omega
      have hne1' : ¬ w.heap.size + 1 = w2.heap.size := by omega
      have hne0 : ¬ w2.heap.size = w.heap.size := by omega
      have hne0' : ¬ w.heap.size = w2.heap.size := by omega
      clear hb2 hok herr c0 c1 c2 c3 c4 c5 k0 k1 k2 k3 k4 k5 k6
      obtain ⟨c0, c1, c2, c3, c4, c5⟩ := six_cells HQ2.out.a
      obtain ⟨k0, k1, k2, k3, k4, k5, k6⟩ := tok_cells (w := w) (E := 0) HQ2.out.t
      obtain ⟨z0, z1, z2, z3, z4, z5⟩ := six_cells HQ2.out.r
      have e0 := blkX_frozen (i := 0) HQ2.out.r
      have e1 := blkX_frozen (i := 1) HQ2.out.r
      have e2 := blkX_frozen (i := 2) HQ2.out.r
      have e3 := blkX_frozen (i := 3) HQ2.out.r
      have e4 := blkX_frozen (i := 4) HQ2.out.r
      have e5 := blkX_frozen (i := 5) HQ2.out.r
      by_cases he : te = 0
      · subst he
        have hT' := HT.out
        rw [if_neg (fun h : (0 : Int) ≠ 0 => h rfl), if_neg (fun h : (0 : Int) ≠ 0 => h rfl)] at hT'
        have HT2 := Lib.hid hT'
        clear hT'
        go_upto_region 10 with (fail)
        have hworld : Hid (QuadW w #[.int .i64 sb, u64 ska, u64 skb, .int .i64 1, .int .i64 sla, .slice ao sre.length cap] #[.int .i64 b, .int .i64 r, .int .i64 d, .int .i64 f, .int .i64 t, .int .i64 n, u64 tag] #[.int .i64 lo, .int .i64 hi] #[.int .i64 0, .int .u64 0, .int .u64 0, .int .i64 0, .int .i64 0, .slice none 0 0] (w2.alloc (.cells #[.int .i64 tb, u64 tka, u64 tkb, .int .i64 tst, .int .i64 n, .slice ra rn rc] 63)) ∧ BlkAt (w2.alloc (.cells #[.int .i64 tb, u64 tka, u64 tkb, .int .i64 tst, .int .i64 n, .slice ra rn rc] 63)) w2.heap.size #[.int .i64 tb, u64 tka, u64 tkb, .int .i64 tst, .int .i64 n, .slice ra rn rc] ∧ ∀ k, k < w2.heap.size → (w2.alloc (.cells #[.int .i64 tb, u64 tka, u64 tkb, .int .i64 tst, .int .i64 n, .slice ra rn rc] 63)).heap[k]? = w2.heap[k]?) := ⟨HQ2.out.step (below_alloc _ _), blkNew rfl, fun k hk => Below.heap_alloc w2 _ k hk⟩
        generalize w2.alloc (.cells #[.int .i64 tb, u64 tka, u64 tkb, .int .i64 tst, .int .i64 n, .slice ra rn rc] 63) = W at *
        clear c0 c1 c2 c3 c4 c5 k0 k1 k2 k3 k4 k5 k6 z0 z1 z2 z3 z4 z5 e0 e1 e2 e3 e4 e5
        obtain ⟨c0, c1, c2, c3, c4, c5⟩ := six_cells hworld.out.1.a
        obtain ⟨d0, d1, d2, d3, d4, d5⟩ := six_cells hworld.out.2.1
        obtain ⟨z0, z1, z2, z3, z4, z5⟩ := six_cells hworld.out.1.r
        have e0 := blkX_frozen (i := 0) hworld.out.1.r
        have e1 := blkX_frozen (i := 1) hworld.out.1.r
        have e2 := blkX_frozen (i := 2) hworld.out.1.r
        have e3 := blkX_frozen (i := 3) hworld.out.1.r
        have e4 := blkX_frozen (i := 4) hworld.out.1.r
        have e5 := blkX_frozen (i := 5) hworld.out.1.r
        go_wp2
        refine bodyPost_ret (v := .tuple #[rlkV ⟨tb, tka, tkb, tst, n, tre⟩ (.slice ra rn rc), .int .i64 0]) ?_ rfl (rfRet_ok HT2.out ?_ ?_)
        · rw [results_cell_tmp rfl]
          go_simp
        · exact belowE hworld.out.1.lo
        · exact ownsRow_mono (own_keepB (HOK.out (by first | rfl | trivial)) (fun k hk hk2 => by have := HQ1.out.sz; rw [set6_heap (by omega)]; exact hworld.out.2.2 k hk2)) HQ1.out.lo.size
      · have hT' := HT.out
        rw [if_neg (fun h : (0 : Int) ≠ 0 => h rfl), if_pos he] at hT'
        have HT2 := Lib.hid hT'
        clear hT'
        go_upto_region 8 with (fail)
        have hworld : Hid (QuadW w #[.int .i64 sb, u64 ska, u64 skb, .int .i64 1, .int .i64 sla, .slice ao sre.length cap] #[.int .i64 b, .int .i64 r, .int .i64 d, .int .i64 f, .int .i64 t, .int .i64 n, u64 tag] #[.int .i64 lo, .int .i64 hi] #[.int .i64 0, .int .u64 0, .int .u64 0, .int .i64 0, .int .i64 0, .slice none 0 0] (w2.alloc (.cells #[.int .i64 tb, u64 tka, u64 tkb, .int .i64 tst, .int .i64 tla, .slice ra rn rc] 63)) ∧ BlkAt (w2.alloc (.cells #[.int .i64 tb, u64 tka, u64 tkb, .int .i64 tst, .int .i64 tla, .slice ra rn rc] 63)) w2.heap.size #[.int .i64 tb, u64 tka, u64 tkb, .int .i64 tst, .int .i64 tla, .slice ra rn rc] ∧ ∀ k, k < w2.heap.size → (w2.alloc (.cells #[.int .i64 tb, u64 tka, u64 tkb, .int .i64 tst, .int .i64 tla, .slice ra rn rc] 63)).heap[k]? = w2.heap[k]?) := ⟨HQ2.out.step (below_alloc _ _), blkNew rfl, fun k hk => Below.heap_alloc w2 _ k hk⟩
        generalize w2.alloc (.cells #[.int .i64 tb, u64 tka, u64 tkb, .int .i64 tst, .int .i64 tla, .slice ra rn rc] 63) = W at *
        clear c0 c1 c2 c3 c4 c5 k0 k1 k2 k3 k4 k5 k6 z0 z1 z2 z3 z4 z5 e0 e1 e2 e3 e4 e5
        obtain ⟨c0, c1, c2, c3, c4, c5⟩ := six_cells hworld.out.1.a
        obtain ⟨d0, d1, d2, d3, d4, d5⟩ := six_cells hworld.out.2.1
        obtain ⟨z0, z1, z2, z3, z4, z5⟩ := six_cells hworld.out.1.r
        have e0 := blkX_frozen (i := 0) hworld.out.1.r
        have e1 := blkX_frozen (i := 1) hworld.out.1.r
        have e2 := blkX_frozen (i := 2) hworld.out.1.r
        have e3 := blkX_frozen (i := 3) hworld.out.1.r
        have e4 := blkX_frozen (i := 4) hworld.out.1.r
        have e5 := blkX_frozen (i := 5) hworld.out.1.r
        go_wp2
        refine bodyPost_ret (v := .tuple #[rlkV ⟨sb, ska, skb, 1, sla, sre⟩ (.slice ao sre.length cap), .int .i64 te]) ?_ rfl (rfRet_err HT2.out he ?_)
        · rw [results_cell_tmp rfl]
          go_simp
        · exact belowE hworld.out.1.lo
    · have hT' := HT.out
      rw [if_pos hU0] at hT'
      have HT2 := Lib.hid hT'
      clear hT'
      obtain ⟨z0, z1, z2, z3, z4, z5⟩ := six_cells HQ1.out.r
      have e0 := blkX_frozen (i := 0) HQ1.out.r
      have e1 := blkX_frozen (i := 1) HQ1.out.r
      have e2 := blkX_frozen (i := 2) HQ1.out.r
      have e3 := blkX_frozen (i := 3) HQ1.out.r
      have e4 := blkX_frozen (i := 4) HQ1.out.r
      have e5 := blkX_frozen (i := 5) HQ1.out.r
      go_wp2
      refine bodyPost_ret (v := .tuple #[rlkV ⟨sb, ska, skb, 1, sla, sre⟩ (.slice ao sre.length cap), .int .i64 U]) ?_ rfl (rfRet_err HT2.out hU0 ?_)
      · rw [results_cell_tmp rfl]
        go_simp
      · exact belowE HQ1.out.lo
  · rw [if_pos hst] at hT
    have HT := Lib.hid hT
    clear hT
    go_enter Try.func79, Try.ntmps79
    go_wp2
    refine bodyPost_ret (v := .tuple #[rlkV ⟨sb, ska, skb, sst, sla, sre⟩ (.slice ao sre.length cap), .int .i64 12]) ?_ rfl (rfRet_err HT.out (by decide) ?_)
    · rw [results_cell_tmp rfl]
      go_simp
    · exact below_step (below_step (below_step (below_alloc _ _) (below_alloc _ _)) (below_alloc _ _)) (below_alloc _ _)
end Go.Proofs.Ytgfgkgidpinmoaa
