/-
  LOCKS, THE WALKS: a call of the reference.
-/
import Derived.Test.YtgfgkgidpinmoaaProg
import Derived.Test.YtgfgkgidpinmoaaBase3
import Derived.Test.YtgfgkgidpinmoaaBase5
import Derived.Test.YtgfgkgidpinmoaaBase6
import Derived.Test.YtgfgkgidpinmoaaBase7
import Derived.Test.YtgfgkgidpinmoaaBase14
import Derived.Test.YtgfgkgidpinmoaaTok1
import Derived.Test.YtgfgkgidpinmoaaTok2
import Derived.Test.YtgfgkgidpinmoaaLockP
import Derived.Test.YtgfgkgidpinmoaaLock1
import Derived.Test.YtgfgkgidpinmoaaLock2
import Derived.Test.YtgfgkgidpinmoaaLock3
import Derived.Test.YtgfgkgidpinmoaaLock4
import Derived.Test.YtgfgkgidpinmoaaLockQ
import Derived.Test.YtgfgkgidpinmoaaLock9
import Derived.Test.YtgfgkgidpinmoaaLock10
import Derived.Test.YtgfgkgidpinmoaaLock11
import Derived.Test.YtgfgkgidpinmoaaLock12
import Derived.Test.YtgfgkgidpinmoaaHeld
import Derived.BigQuiet
import Derived.Laws.StructEq
import Derived.StillTailTactics
import Derived.RegionTactic
import Derived.BigRegion
import Derived.Deep.RegionHeld3
import Derived.Deep.DeepCutAuto
import Derived.Deep.QuietTactic
import Derived.WalkSpells
import Derived.WalkLawsBesides
namespace Go.Proofs.Ytgfgkgidpinmoaa
open Go.RowKit
set_option linter.unusedVariables false


set_option maxRecDepth 100000 in
set_option maxHeartbeats 600000 in
theorem plain_any {v : Value} {s : LS} (o : OpL) (w : World) (B0 : Nat) (h : Hid (w.ownsRow B0 79 6 v s.reps.length (rcs s.reps))) (hn : s.reps.length ≤ 512) :
    Calls Try.prog 47 #[rlkV s v, .agg (opA o)] w (RfRet v s w (s.turn o)) := by
  obtain ⟨T, hT⟩ : ∃ T, s.turn o = T := ⟨_, rfl⟩
  rw [hT]
  unfold LS.turn at hT
  obtain ⟨c, b, r, d, f, t, n, tag, lo, hi, place, loc⟩ := o
  obtain ⟨sb, ska, skb, sst, sla, sre⟩ := s
  obtain ⟨ao, cap, hv, _⟩ := sl_of_own h.out
  subst hv
  dsimp only at hT h hn
  dsimp only [rlkV, opA]
  have HQ := Lib.hid (RefW.mk0 w #[.int .i64 sb, u64 ska, u64 skb, .int .i64 sst, .int .i64 sla, .slice ao sre.length cap] #[b8 c, .int .i64 b, .int .i64 r, .int .i64 d, .int .i64 f, .int .i64 t, .int .i64 n, u64 tag, .int .i64 lo, .int .i64 hi, .int .i64 place, .int .i64 loc] #[.int .i64 0, .int .u64 0, .int .u64 0, .int .i64 0, .int .i64 0, .slice none 0 0] 63 74 63)
  by_cases q0 : c = 0
  · have q0' : (c.toNat : Int) = 0 := by subst q0; rfl
    rw [if_pos q0] at hT
    clear q0
    have hcall := fun w B0 h => refUnlock_any (v := .slice ao sre.length cap) (s := ⟨sb, ska, skb, sst, sla, sre⟩) b r d f t n tag lo hi loc w B0 h hn
    rw [hT] at hcall
    have HC := Lib.hid hcall
    clear hT hcall
    go_enter Try.func47, Try.ntmps47
    go_wp2_with fail
    refine (HC.out _ B0 (ownsRow_ext h.out HQ.out.lo)).mono ?_
    rintro e w1 ⟨ra, rn, rc, rfl, hb1, hok, herr⟩
    have HQ1 := Lib.hid (HQ.out.step (hb1.mono HQ.out.sz))
    have HOK := Lib.hid hok
    have HERR := Lib.hid herr
    have hlt : w.heap.size + 1 + 1 < w1.heap.size := HQ1.out.sz
    obtain ⟨z0, z1, z2, z3, z4, z5⟩ := six_cells HQ1.out.c
    have e0 := blkX_frozen (i := 0) HQ1.out.c
    have e1 := blkX_frozen (i := 1) HQ1.out.c
    have e2 := blkX_frozen (i := 2) HQ1.out.c
    have e3 := blkX_frozen (i := 3) HQ1.out.c
    have e4 := blkX_frozen (i := 4) HQ1.out.c
    have e5 := blkX_frozen (i := 5) HQ1.out.c
    clear hb1 hok herr
    obtain ⟨⟨tb, tka, tkb, tst, tla, tre⟩, te⟩ := T
    go_wp2
    refine bodyPost_ret (v := .tuple #[rlkV ⟨tb, tka, tkb, tst, tla, tre⟩ (.slice ra rn rc), .int .i64 te]) ?_ rfl (rfRet_wrap (w1 := ((w.alloc (.cells #[.int .i64 sb, u64 ska, u64 skb, .int .i64 sst, .int .i64 sla, .slice ao sre.length cap] 63)).alloc (.cells #[b8 c, .int .i64 b, .int .i64 r, .int .i64 d, .int .i64 f, .int .i64 t, .int .i64 n, u64 tag, .int .i64 lo, .int .i64 hi, .int .i64 place, .int .i64 loc] 74)).alloc (.cells #[.int .i64 0, .int .u64 0, .int .u64 0, .int .i64 0, .int .i64 0, .slice none 0 0] 63)) (w2 := w1) HQ.out.lo.size HOK.out HERR.out ?_ ?_)
    · rw [results_cell_tmp rfl]
      go_simp
    · exact belowC HQ1.out.lo
    · exact fun k hk _ => set6_heap (by simp at hk; omega)
  · have q0' : ¬ (c.toNat : Int) = 0 := fun e => q0 (kind_eq e)
    rw [if_neg q0] at hT
    by_cases q1 : c = 1
    · have q1' : (c.toNat : Int) = 1 := by subst q1; rfl
      rw [if_pos q1] at hT
      clear q1
      have hcall := fun w B0 h => refPause_any (v := .slice ao sre.length cap) (s := ⟨sb, ska, skb, sst, sla, sre⟩) loc w B0 h hn
      rw [hT] at hcall
      have HC := Lib.hid hcall
      clear hT hcall
      go_enter Try.func47, Try.ntmps47
      go_wp2_with fail
      refine (HC.out _ B0 (ownsRow_ext h.out HQ.out.lo)).mono ?_
      rintro e w1 ⟨ra, rn, rc, rfl, hb1, hok, herr⟩
      have HQ1 := Lib.hid (HQ.out.step (hb1.mono HQ.out.sz))
      have HOK := Lib.hid hok
      have HERR := Lib.hid herr
      have hlt : w.heap.size + 1 + 1 < w1.heap.size := HQ1.out.sz
      obtain ⟨z0, z1, z2, z3, z4, z5⟩ := six_cells HQ1.out.c
      have e0 := blkX_frozen (i := 0) HQ1.out.c
      have e1 := blkX_frozen (i := 1) HQ1.out.c
      have e2 := blkX_frozen (i := 2) HQ1.out.c
      have e3 := blkX_frozen (i := 3) HQ1.out.c
      have e4 := blkX_frozen (i := 4) HQ1.out.c
      have e5 := blkX_frozen (i := 5) HQ1.out.c
      clear hb1 hok herr
      obtain ⟨⟨tb, tka, tkb, tst, tla, tre⟩, te⟩ := T
      go_wp2
      refine bodyPost_ret (v := .tuple #[rlkV ⟨tb, tka, tkb, tst, tla, tre⟩ (.slice ra rn rc), .int .i64 te]) ?_ rfl (rfRet_wrap (w1 := ((w.alloc (.cells #[.int .i64 sb, u64 ska, u64 skb, .int .i64 sst, .int .i64 sla, .slice ao sre.length cap] 63)).alloc (.cells #[b8 c, .int .i64 b, .int .i64 r, .int .i64 d, .int .i64 f, .int .i64 t, .int .i64 n, u64 tag, .int .i64 lo, .int .i64 hi, .int .i64 place, .int .i64 loc] 74)).alloc (.cells #[.int .i64 0, .int .u64 0, .int .u64 0, .int .i64 0, .int .i64 0, .slice none 0 0] 63)) (w2 := w1) HQ.out.lo.size HOK.out HERR.out ?_ ?_)
      · rw [results_cell_tmp rfl]
        go_simp
      · exact belowC HQ1.out.lo
      · exact fun k hk _ => set6_heap (by simp at hk; omega)
    · have q1' : ¬ (c.toNat : Int) = 1 := fun e => q1 (kind_eq e)
      rw [if_neg q1] at hT
      by_cases q2 : c = 2
      · have q2' : (c.toNat : Int) = 2 := by subst q2; rfl
        rw [if_pos q2] at hT
        clear q2
        have hcall := fun w B0 h => refResume_any (v := .slice ao sre.length cap) (s := ⟨sb, ska, skb, sst, sla, sre⟩) loc w B0 h hn
        rw [hT] at hcall
        have HC := Lib.hid hcall
        clear hT hcall
        go_enter Try.func47, Try.ntmps47
        go_wp2_with fail
        refine (HC.out _ B0 (ownsRow_ext h.out HQ.out.lo)).mono ?_
        rintro e w1 ⟨ra, rn, rc, rfl, hb1, hok, herr⟩
        have HQ1 := Lib.hid (HQ.out.step (hb1.mono HQ.out.sz))
        have HOK := Lib.hid hok
        have HERR := Lib.hid herr
        have hlt : w.heap.size + 1 + 1 < w1.heap.size := HQ1.out.sz
        obtain ⟨z0, z1, z2, z3, z4, z5⟩ := six_cells HQ1.out.c
        have e0 := blkX_frozen (i := 0) HQ1.out.c
        have e1 := blkX_frozen (i := 1) HQ1.out.c
        have e2 := blkX_frozen (i := 2) HQ1.out.c
        have e3 := blkX_frozen (i := 3) HQ1.out.c
        have e4 := blkX_frozen (i := 4) HQ1.out.c
        have e5 := blkX_frozen (i := 5) HQ1.out.c
        clear hb1 hok herr
        obtain ⟨⟨tb, tka, tkb, tst, tla, tre⟩, te⟩ := T
        go_wp2
        refine bodyPost_ret (v := .tuple #[rlkV ⟨tb, tka, tkb, tst, tla, tre⟩ (.slice ra rn rc), .int .i64 te]) ?_ rfl (rfRet_wrap (w1 := ((w.alloc (.cells #[.int .i64 sb, u64 ska, u64 skb, .int .i64 sst, .int .i64 sla, .slice ao sre.length cap] 63)).alloc (.cells #[b8 c, .int .i64 b, .int .i64 r, .int .i64 d, .int .i64 f, .int .i64 t, .int .i64 n, u64 tag, .int .i64 lo, .int .i64 hi, .int .i64 place, .int .i64 loc] 74)).alloc (.cells #[.int .i64 0, .int .u64 0, .int .u64 0, .int .i64 0, .int .i64 0, .slice none 0 0] 63)) (w2 := w1) HQ.out.lo.size HOK.out HERR.out ?_ ?_)
        · rw [results_cell_tmp rfl]
          go_simp
        · exact belowC HQ1.out.lo
        · exact fun k hk _ => set6_heap (by simp at hk; omega)
      · have q2' : ¬ (c.toNat : Int) = 2 := fun e => q2 (kind_eq e)
        rw [if_neg q2] at hT
        have hcall := fun w B0 h => refClose_any (v := .slice ao sre.length cap) (s := ⟨sb, ska, skb, sst, sla, sre⟩) place loc w B0 h hn
        rw [hT] at hcall
        have HC := Lib.hid hcall
        clear hT hcall
        go_enter Try.func47, Try.ntmps47
        go_wp2_with fail
        refine (HC.out _ B0 (ownsRow_ext h.out HQ.out.lo)).mono ?_
        rintro e w1 ⟨ra, rn, rc, rfl, hb1, hok, herr⟩
        have HQ1 := Lib.hid (HQ.out.step (hb1.mono HQ.out.sz))
        have HOK := Lib.hid hok
        have HERR := Lib.hid herr
        have hlt : w.heap.size + 1 + 1 < w1.heap.size := HQ1.out.sz
        obtain ⟨z0, z1, z2, z3, z4, z5⟩ := six_cells HQ1.out.c
        have e0 := blkX_frozen (i := 0) HQ1.out.c
        have e1 := blkX_frozen (i := 1) HQ1.out.c
        have e2 := blkX_frozen (i := 2) HQ1.out.c
        have e3 := blkX_frozen (i := 3) HQ1.out.c
        have e4 := blkX_frozen (i := 4) HQ1.out.c
        have e5 := blkX_frozen (i := 5) HQ1.out.c
        clear hb1 hok herr
        obtain ⟨⟨tb, tka, tkb, tst, tla, tre⟩, te⟩ := T
        go_wp2
        refine bodyPost_ret (v := .tuple #[rlkV ⟨tb, tka, tkb, tst, tla, tre⟩ (.slice ra rn rc), .int .i64 te]) ?_ rfl (rfRet_wrap (w1 := ((w.alloc (.cells #[.int .i64 sb, u64 ska, u64 skb, .int .i64 sst, .int .i64 sla, .slice ao sre.length cap] 63)).alloc (.cells #[b8 c, .int .i64 b, .int .i64 r, .int .i64 d, .int .i64 f, .int .i64 t, .int .i64 n, u64 tag, .int .i64 lo, .int .i64 hi, .int .i64 place, .int .i64 loc] 74)).alloc (.cells #[.int .i64 0, .int .u64 0, .int .u64 0, .int .i64 0, .int .i64 0, .slice none 0 0] 63)) (w2 := w1) HQ.out.lo.size HOK.out HERR.out ?_ ?_)
        · rw [results_cell_tmp rfl]
          go_simp
        · exact belowC HQ1.out.lo
        · exact fun k hk _ => set6_heap (by simp at hk; omega)
end Go.Proofs.Ytgfgkgidpinmoaa
