/-
  LOCKS, THE LAWS: LockRuns.
-/
import Derived.Test.YtgfgkgidpinmoaaProg
import Derived.Test.YtgfgkgidpinmoaaBase3
import Derived.Test.YtgfgkgidpinmoaaBase5
import Derived.Test.YtgfgkgidpinmoaaBase6
import Derived.Test.YtgfgkgidpinmoaaBase7
import Derived.Test.YtgfgkgidpinmoaaBase14
import Derived.Test.YtgfgkgidpinmoaaTok1
import Derived.Test.YtgfgkgidpinmoaaTok3
import Derived.Test.YtgfgkgidpinmoaaLockP
import Derived.Test.YtgfgkgidpinmoaaLock1
import Derived.Test.YtgfgkgidpinmoaaLock2
import Derived.Test.YtgfgkgidpinmoaaLock3
import Derived.Test.YtgfgkgidpinmoaaLock4
import Derived.Test.YtgfgkgidpinmoaaLock5
import Derived.Test.YtgfgkgidpinmoaaLock6
import Derived.Test.YtgfgkgidpinmoaaLock8
import Derived.Deep.DrawnRows
import Derived.Test.YtgfgkgidpinmoaaLock9
import Derived.Test.YtgfgkgidpinmoaaLockQ
import Derived.Test.YtgfgkgidpinmoaaTok2
import Derived.Test.YtgfgkgidpinmoaaLock10
import Derived.Test.YtgfgkgidpinmoaaLock11
import Derived.Test.YtgfgkgidpinmoaaLock15
import Derived.Test.YtgfgkgidpinmoaaLock17
import Derived.Test.YtgfgkgidpinmoaaHeld
import Derived.BigQuiet
import Derived.Laws.StructEq
import Derived.StillTailTactics
import Derived.RegionTactic
import Derived.BigRegion
import Derived.Deep.RegionHeld3
import Derived.Deep.DeepCutAuto
import Derived.Deep.QuietTactic
import Derived.WalkSpells
import Derived.WalkLawsBesides
namespace Go.Proofs.Ytgfgkgidpinmoaa
open Go.RowKit
set_option linter.unusedVariables false

attribute [local go_sem ↓] Go.wp_at_zero Go.wp_at_succ
theorem keepT {w w1 w2 : World} {a b c : Addr} {x y z : Value} (hb : Below w1.heap.size w1 w2) (h : w1.cell? a = some x ∧ w1.cell? b = some y ∧ w1.cell? c = some z ∧ Below w.heap.size w w1) :
    w2.cell? a = some x ∧ w2.cell? b = some y ∧ w2.cell? c = some z ∧ Below w.heap.size w w2 := ⟨cell_keep hb h.1, cell_keep hb h.2.1, cell_keep hb h.2.2.1, below_step h.2.2.2 hb⟩
theorem keepTD {w w1 : World} {a b c : Addr} {x y z : Value} (h : w1.cell? a = some x ∧ w1.cell? b = some y ∧ w1.cell? c = some z ∧ Below w.heap.size w w1) :
    w1.drew.cell? a = some x ∧ w1.drew.cell? b = some y ∧ w1.drew.cell? c = some z ∧ Below w.heap.size w w1.drew := ⟨h.1, h.2.1, h.2.2.1, below_drew h.2.2.2⟩
theorem keepTA {w w1 : World} {a b c : Addr} {x y z : Value} (o : Obj) (h : w1.cell? a = some x ∧ w1.cell? b = some y ∧ w1.cell? c = some z ∧ Below w.heap.size w w1) :
    (w1.alloc o).cell? a = some x ∧ (w1.alloc o).cell? b = some y ∧ (w1.alloc o).cell? c = some z ∧ Below w.heap.size w (w1.alloc o) := keepT (below_alloc _ _) h
theorem rwCells {w W : World} {g xb mb : Nat} {X : Array Value} {s : LS} {v : Value} {ra : Option Addr} {rn rc : Nat} (h : Hid (RunW w g xb mb X s v ra rn rc W)) : W.cell? ⟨mb, 3, none⟩ = some (.int .i64 s.state) ∧ W.cell? ⟨mb, 4, none⟩ = some (.int .i64 s.last) ∧ W.cell? ⟨mb, 5, none⟩ = some (.slice ra rn rc) ∧ Below w.heap.size w W := by
  obtain ⟨c0, c1, c2, c3, c4, c5⟩ := six_cells h.out.m
  exact ⟨c3, c4, c5, h.out.lo⟩
theorem nb_facts {w W : World} {g xb mb : Nat} {X : Array Value} {s : LS} {v : Value} {ra : Option Addr} {rn rc : Nat} (h : Hid (RunW w g xb mb X s v ra rn rc W)) : mb < W.heap.size ∧ some W.heap.size ≠ v.ownBlock := ⟨blk_lt h.out.m, fun e => by have := h.out.l.lt.2 _ e.symm; omega⟩
theorem sl_noneK {w : World} {cap : Nat} {xs : List Value} {len : Nat} (h : Sl w 12 none len cap xs) : len = 0 := by
  have := h.hbare rfl
  have := h.hle
  omega
set_option maxRecDepth 100000 in
set_option maxHeartbeats 2000000 in
theorem lockRuns_long (bk : Int) (x y : BitVec 64) (a : Option Addr) (len cap : Nat) (w : World) (h : (60 : Int) < (len : Int)) : Calls Try.prog 11 #[.agg #[.int .i64 bk, u64 x, u64 y, .slice a len cap]] w (RetB (.bool true) w) := by
  go_enter Try.func11, Try.ntmps11
  go_wp2_with fail
  refine (awake16_any _).mono ?_
  rintro e w1 ⟨rfl, hb1⟩
  have HB1 := Lib.hid (below_step (below_alloc _ _) hb1)
  clear hb1
  go_wp2
  go_ret
  exact ⟨rfl, HB1.out⟩
set_option maxRecDepth 100000 in
set_option maxHeartbeats 2000000 in
theorem lockRuns_bad (bk : Int) (x y : BitVec 64) (a : Option Addr) (len cap : Nat) (w : World) (h : ¬ (60 : Int) < (len : Int)) (hb : Hid (bk < 0 ∨ 128 ≤ bk)) : Calls Try.prog 11 #[.agg #[.int .i64 bk, u64 x, u64 y, .slice a len cap]] w (RetB (.bool true) w) := by
  have HQ : Hid (BlkAt (w.alloc (.cells #[.int .i64 bk, u64 x, u64 y, .slice a len cap] 71)) w.heap.size #[.int .i64 bk, u64 x, u64 y, .slice a len cap] ∧ Below w.heap.size w (w.alloc (.cells #[.int .i64 bk, u64 x, u64 y, .slice a len cap] 71))) := ⟨blkNew rfl, below_alloc _ _⟩
  go_enter Try.func11, Try.ntmps11
  go_wp2_with fail
  refine (new_bad bk x y _ hb.out).mono ?_
  rintro e w1 ⟨rfl, hb1⟩
  have HQ1 : Hid (BlkAt w1 w.heap.size #[.int .i64 bk, u64 x, u64 y, .slice a len cap] ∧ Below w.heap.size w w1) := ⟨blkBelow hb1 HQ.out.1, below_step HQ.out.2 hb1⟩
  obtain ⟨c0, c1, c2, c3⟩ := four_cells HQ1.out.1
  clear hb1 HQ
  go_wp2_with fail
  refine (refNew_bad bk x y _ hb.out).mono ?_
  rintro e w2 ⟨rfl, hb2⟩
  clear c0 c1 c2 c3
  go_upto_region 8 with (fail)
  have HQ2 : Hid (BlkAt (w2.alloc (.cells #[.int .i64 0, .int .u64 0, .int .u64 0, .int .i64 0, .int .i64 0, .slice none 0 0] 63)) w.heap.size #[.int .i64 bk, u64 x, u64 y, .slice a len cap] ∧ Below w.heap.size w (w2.alloc (.cells #[.int .i64 0, .int .u64 0, .int .u64 0, .int .i64 0, .int .i64 0, .slice none 0 0] 63))) := ⟨blkOld (blkBelow hb2 HQ1.out.1), below_step (below_step HQ1.out.2 hb2) (below_alloc _ _)⟩
  generalize w2.alloc (.cells #[.int .i64 0, .int .u64 0, .int .u64 0, .int .i64 0, .int .i64 0, .slice none 0 0] 63) = W at *
  clear hb2 HQ1
  go_loopw [7] (fun i wr => i = .int .i64 0 ∧ Hid (BlkAt wr w.heap.size #[.int .i64 bk, u64 x, u64 y, .slice a len cap] ∧ Below w.heap.size w wr)) (fun _ _ => 0)
  case atStart => exact ⟨rfl, HQ2⟩
  case round =>
    obtain ⟨rfl, HR⟩ := hrel
    obtain ⟨c0, c1, c2, c3⟩ := four_cells HR.out.1
    by_cases h0 : (0 : Int) < (len : Int)
    · go_wp2_with fail
      refine (awake16_any _).mono ?_
      rintro e w3 ⟨rfl, hb3⟩
      have HB3 := Lib.hid (below_step HR.out.2 hb3)
      clear hb3
      go_wp2
      go_ret
      exact ⟨rfl, HB3.out⟩
    · go_wp2_with fail
      refine (awake16_any _).mono ?_
      rintro e w3 ⟨rfl, hb3⟩
      have HB3 := Lib.hid (below_step HR.out.2 hb3)
      clear hb3
      go_wp2
      go_ret
      exact ⟨rfl, HB3.out⟩
set_option maxRecDepth 100000 in
set_option maxHeartbeats 1000000 in
theorem lockRuns_ok (bk : Int) (x y : BitVec 64) (a : Option Addr) (len cap : Nat) (l : List OpL) (w : World) (h : ¬ (60 : Int) < (len : Int)) (hbk : 0 ≤ bk ∧ bk < 128) (hl : l.length = len) (hs : Sl w 12 a len cap (ocs l)) : Calls Try.prog 11 #[.agg #[.int .i64 bk, u64 x, u64 y, .slice a len cap]] w (RetB (.bool true) w) := by
  have HQ : Hid (BlkAt (w.alloc (.cells #[.int .i64 bk, u64 x, u64 y, .slice a len cap] 71)) w.heap.size #[.int .i64 bk, u64 x, u64 y, .slice a len cap] ∧ Below w.heap.size w (w.alloc (.cells #[.int .i64 bk, u64 x, u64 y, .slice a len cap] 71))) := ⟨blkNew rfl, below_alloc _ _⟩
  have hnew := fun W => new_ok bk x y W hbk.1 hbk.2
  have hrnew := fun W => refNew_ok bk x y W hbk.1 hbk.2
  have HNEW := Lib.hid hnew
  have HRNEW := Lib.hid hrnew
  have HS := Lib.hid hs
  have HL := Lib.hid hl
  clear hnew hrnew hs hl hbk
  go_enter Try.func11, Try.ntmps11
  go_wp2_with fail
  refine (HNEW.out _).mono ?_
  rintro e w1 ⟨rfl, hl1, hb1⟩
  have hsz : (w.alloc (.cells #[.int .i64 bk, u64 x, u64 y, .slice a len cap] 71)).heap.size = w.heap.size + 1 := by simp
  rw [hsz] at hl1 ⊢
  have HQ1 : Hid (BlkAt w1 w.heap.size #[.int .i64 bk, u64 x, u64 y, .slice a len cap] ∧ Below w.heap.size w w1 ∧ w.heap.size + 1 + 1 < w1.heap.size) := ⟨blkBelow hb1 HQ.out.1, below_step HQ.out.2 hb1, hl1.out.lt.1⟩
  obtain ⟨c0, c1, c2, c3⟩ := four_cells HQ1.out.1
  clear hb1 HQ hsz
  obtain ⟨g, hg⟩ : ∃ g, g = w.heap.size + 1 + 1 := ⟨_, rfl⟩
  rw [← hg] at hl1 ⊢
  have HG := Lib.hid hg
  clear hg
  go_wp2_with fail
  refine (HRNEW.out _).mono ?_
  rintro e w2 ⟨rfl, hb2⟩
  clear c0 c1 c2 c3
  go_upto_region 8 with (fail)
  have HQ2 : Hid (RunW w g w.heap.size w2.heap.size #[.int .i64 bk, u64 x, u64 y, .slice a len cap] ⟨bk, x, y, 1, 0, []⟩ (.slice none 0 0) none 0 0 (w2.alloc (.cells #[.int .i64 bk, u64 x, u64 y, .int .i64 1, .int .i64 0, .slice none 0 0] 63))) := by
    have hg := HG.out
    have hq := HQ1.out.2.2
    have hz := hb2.size
    exact ⟨(hl1.out.below hb2).below (below_alloc _ _), blkOld (blkBelow hb2 HQ1.out.1), blkNew rfl, World.ownsRow_nil _ _ _ _, below_step (below_step HQ1.out.2.1 hb2) (below_alloc _ _), by omega, by omega, by omega, by simp [Value.ownBlock], by simp [Value.ownBlock], by simp⟩
  generalize w2.alloc (.cells #[.int .i64 bk, u64 x, u64 y, .int .i64 1, .int .i64 0, .slice none 0 0] 63) = W at *
  generalize w2.heap.size = mb at *
  clear hb2 HQ1 hl1
  go_loopw [7] (fun i wr => ∃ k : Nat, k ≤ len ∧ i = .int .i64 k ∧ ∃ v ra rn rc, Hid (RunW w g w.heap.size mb #[.int .i64 bk, u64 x, u64 y, .slice a len cap] (LS.run ⟨bk, x, y, 1, 0, []⟩ (l.take k)) v ra rn rc wr)) (fun i _ => len - (intOf i).toNat)
  case atStart => exact ⟨0, by omega, rfl, _, _, _, _, HQ2⟩
  case round =>
    obtain ⟨k, hk, rfl, v, ra, rn, rc, HR⟩ := hrel
    clear HQ2
    by_cases hkl : k < len
    · have hkl' : (k : Int) < (len : Int) := by omega
      have hk0 : (0 : Int) ≤ (k : Int) := by omega
      have hnext := run_snoc ⟨bk, x, y, 1, 0, []⟩ l k (by have := HL.out; omega)
      obtain ⟨b, o, e, hc0⟩ := sl_op HS.out HL.out k hkl
      subst e
      generalize l.getD k OpL.zero = ob at *
      generalize LS.run ⟨bk, x, y, 1, 0, []⟩ (l.take k) = s at *
      have hlen := turn_len (s := s) (o := ob) HR.out.hn
      obtain ⟨⟨s', e'⟩, hr⟩ : ∃ r, s.turn ob = r := ⟨_, rfl⟩
      rw [hr] at hnext hlen
      dsimp only at hnext hlen
      have HN := Lib.hid hnext
      have HLEN := Lib.hid hlen
      obtain ⟨c, tb, tr, td, tf, tt, tn, tag, lo, hi, place, loc⟩ := ob
      have HPL : Hid (∀ W, Hid (RunW w g w.heap.size mb #[.int .i64 bk, Ytgfgkgidpinmoaa.u64 x, Ytgfgkgidpinmoaa.u64 y, .slice (some ⟨b, o, none⟩) len cap] s v ra rn rc W) → Calls Try.prog 47 #[.agg #[.int .i64 s.bike, Ytgfgkgidpinmoaa.u64 s.ka, Ytgfgkgidpinmoaa.u64 s.kb, .int .i64 s.state, .int .i64 s.last, .slice ra rn rc], .agg #[b8 c, .int .i64 tb, .int .i64 tr, .int .i64 td, .int .i64 tf, .int .i64 tt, .int .i64 tn, Ytgfgkgidpinmoaa.u64 tag, .int .i64 lo, .int .i64 hi, .int .i64 place, .int .i64 loc]] W (fun e W' => ∃ ra' rn' rc', e = .returned (.tuple #[.agg #[.int .i64 s'.bike, Ytgfgkgidpinmoaa.u64 s'.ka, Ytgfgkgidpinmoaa.u64 s'.kb, .int .i64 s'.state, .int .i64 s'.last, .slice ra' rn' rc'], .int .i64 e']) ∧ Hid (RunW w g w.heap.size mb #[.int .i64 bk, Ytgfgkgidpinmoaa.u64 x, Ytgfgkgidpinmoaa.u64 y, .slice (some ⟨b, o, none⟩) len cap] s v ra rn rc W') ∧ Hid (NewW g mb v ra rn rc s (s', e') ra' rn' rc' W') ∧ Hid (MemW ra rn rc ra' rn' rc' W W'))) := by
        intro W hW
        have := plain_rw (o := ⟨c, tb, tr, td, tf, tt, tn, tag, lo, hi, place, loc⟩) hW
        rw [hr] at this
        exact this
      have HDO : Hid (∀ W, Hid (LockAt W g v s) → Calls Try.prog 48 #[.pointer (some ⟨g, 0, none⟩), .agg #[b8 c, .int .i64 tb, .int .i64 tr, .int .i64 td, .int .i64 tf, .int .i64 tt, .int .i64 tn, Ytgfgkgidpinmoaa.u64 tag, .int .i64 lo, .int .i64 hi, .int .i64 place, .int .i64 loc]] W (LkRet g v W (s', e'))) := by
        intro W hW
        have := do_any (s := s) ⟨c, tb, tr, td, tf, tt, tn, tag, lo, hi, place, loc⟩ W hW HR.out.hn
        rw [hr] at this
        exact this
      have HC := Lib.hid hc0
      clear hr hnext hlen hc0
      obtain ⟨c0, c1, c2, c3⟩ := four_cells HR.out.x
      obtain ⟨m0, m1, m2, m3, m4, m5⟩ := six_cells HR.out.m
      have hcc : ∀ j u, (opA ⟨c, tb, tr, td, tf, tt, tn, tag, lo, hi, place, loc⟩)[j]? = some u → wr.cell? ⟨b, o + k * 12 + j, none⟩ = some u := fun j u hj => cell_keep HR.out.lo (HC.out j u hj)
      have p0 : wr.cell? ⟨b, o + k * 12, none⟩ = some (b8 c) := hcc 0 _ rfl
      have p1 : wr.cell? ⟨b, o + k * 12 + 1, none⟩ = some (.int .i64 tb) := hcc 1 _ rfl
      have p2 : wr.cell? ⟨b, o + k * 12 + 2, none⟩ = some (.int .i64 tr) := hcc 2 _ rfl
      have p3 : wr.cell? ⟨b, o + k * 12 + 3, none⟩ = some (.int .i64 td) := hcc 3 _ rfl
      have p4 : wr.cell? ⟨b, o + k * 12 + 4, none⟩ = some (.int .i64 tf) := hcc 4 _ rfl
      have p5 : wr.cell? ⟨b, o + k * 12 + 5, none⟩ = some (.int .i64 tt) := hcc 5 _ rfl
      have p6 : wr.cell? ⟨b, o + k * 12 + 6, none⟩ = some (.int .i64 tn) := hcc 6 _ rfl
      have p7 : wr.cell? ⟨b, o + k * 12 + 7, none⟩ = some (Ytgfgkgidpinmoaa.u64 tag) := hcc 7 _ rfl
      have p8 : wr.cell? ⟨b, o + k * 12 + 8, none⟩ = some (.int .i64 lo) := hcc 8 _ rfl
      have p9 : wr.cell? ⟨b, o + k * 12 + 9, none⟩ = some (.int .i64 hi) := hcc 9 _ rfl
      have p10 : wr.cell? ⟨b, o + k * 12 + 10, none⟩ = some (.int .i64 place) := hcc 10 _ rfl
      have p11 : wr.cell? ⟨b, o + k * 12 + 11, none⟩ = some (.int .i64 loc) := hcc 11 _ rfl
      clear hcc
      have hz1 := World.block_lt_of_cell? _ _ c0
      have hz2 := World.block_lt_of_cell? _ _ m0
      have hz3 := World.block_lt_of_cell? _ _ p0
      go_upto_region 10 with (fail)
      go_cut [8, 9] (fun p q wx => ∃ nb ra' rn' rc', p = .pointer (some ⟨nb, 0, none⟩) ∧ q = .int .i64 e' ∧ Hid (RunW w g w.heap.size mb #[.int .i64 bk, Ytgfgkgidpinmoaa.u64 x, Ytgfgkgidpinmoaa.u64 y, .slice (some ⟨b, o, none⟩) len cap] s v ra rn rc wx) ∧ Hid (NewW g mb v ra rn rc s (s', e') ra' rn' rc' wx) ∧ Hid (BlkAt wx nb #[.int .i64 s'.bike, Ytgfgkgidpinmoaa.u64 s'.ka, Ytgfgkgidpinmoaa.u64 s'.kb, .int .i64 s'.state, .int .i64 s'.last, .slice ra' rn' rc'] ∧ mb < nb ∧ some nb ≠ v.ownBlock))
      case first =>
        go_region_with (first
          | (go_at_call 47; (with_reducible refine (HPL.out _ ?_).mono ?_); (repeat (first | (with_reducible assumption) | (with_reducible refine rwDrew ?_) | (with_reducible refine rwAlloc ?_))); rintro e w4 ⟨ra', rn', rc', rfl, hrw4, hnw4, hme4⟩; (try (have hz4 := blkBelow hme4.out.b (show BlkAt _ wr.heap.size #[.int .i64 0, .int .u64 0, .int .u64 0, .int .i64 0, .int .i64 0, .slice none 0 0] from (blkNew rfl : BlkAt (wr.alloc (.cells #[.int .i64 0, .int .u64 0, .int .u64 0, .int .i64 0, .int .i64 0, .slice none 0 0] 63)) wr.heap.size #[.int .i64 0, .int .u64 0, .int .u64 0, .int .i64 0, .int .i64 0, .slice none 0 0])); obtain ⟨z0, z1, z2, z3, z4, z5⟩ := six_cells hz4; have y0 := blkX_frozen (i := 0) hz4; have y1 := blkX_frozen (i := 1) hz4; have y2 := blkX_frozen (i := 2) hz4; have y3 := blkX_frozen (i := 3) hz4; have y4 := blkX_frozen (i := 4) hz4; have y5 := blkX_frozen (i := 5) hz4; have HZ4 := Lib.hid hz4; clear hz4))))
        all_goals
          go_wp2_with fail
          go_meet
          first
            | exact ⟨_, ra', rn', rc', rfl, rfl, (by first | exact rwAlloc hrw4 | exact rwDrew (rwAlloc hrw4) | exact rwAlloc (rwDrew hrw4)), (by first | exact nwBelow (below_alloc _ _) hnw4 | exact nwDrew (nwBelow (below_alloc _ _) hnw4) | exact nwBelow (below_alloc _ _) (nwDrew hnw4)), (by first | exact blkNew rfl | exact blkDrew (blkNew rfl)), (nb_facts hrw4).1, (nb_facts hrw4).2⟩
            | (obtain ⟨q1, q2, q3, q4⟩ := nb_before HR hme4 (by simp)
               exact ⟨_, ra', rn', rc', rfl, rfl, rw_set6 hrw4 q1 q2 q3, nw_set6 hnw4 q4, blkX_set (blkX_set (blkX_set (blkX_set (blkX_set (blkX_set HZ4.out))))), q1, q2⟩)
            | fail "leaf"
      case rest =>
        obtain ⟨nb, ra', rn', rc', rfl, rfl, HR1, HN1, HB1⟩ := hcut
        obtain ⟨W1, hW1⟩ : ∃ W, W = wc := ⟨_, rfl⟩
        subst hW1
        clear HR HPL hz1 hz2 hz3 c0 c1 c2 c3 m0 m1 m2 m3 m4 m5 p0 p1 p2 p3 p4 p5 p6 p7 p8 p9 p10 p11
        obtain ⟨c0, c1, c2, c3⟩ := four_cells HR1.out.x
        have hcc : ∀ j u, (opA ⟨c, tb, tr, td, tf, tt, tn, tag, lo, hi, place, loc⟩)[j]? = some u → W1.cell? ⟨b, o + k * 12 + j, none⟩ = some u := fun j u hj => cell_keep HR1.out.lo (HC.out j u hj)
        have p0 : W1.cell? ⟨b, o + k * 12, none⟩ = some (b8 c) := hcc 0 _ rfl
        have p1 : W1.cell? ⟨b, o + k * 12 + 1, none⟩ = some (.int .i64 tb) := hcc 1 _ rfl
        have p2 : W1.cell? ⟨b, o + k * 12 + 2, none⟩ = some (.int .i64 tr) := hcc 2 _ rfl
        have p3 : W1.cell? ⟨b, o + k * 12 + 3, none⟩ = some (.int .i64 td) := hcc 3 _ rfl
        have p4 : W1.cell? ⟨b, o + k * 12 + 4, none⟩ = some (.int .i64 tf) := hcc 4 _ rfl
        have p5 : W1.cell? ⟨b, o + k * 12 + 5, none⟩ = some (.int .i64 tt) := hcc 5 _ rfl
        have p6 : W1.cell? ⟨b, o + k * 12 + 6, none⟩ = some (.int .i64 tn) := hcc 6 _ rfl
        have p7 : W1.cell? ⟨b, o + k * 12 + 7, none⟩ = some (Ytgfgkgidpinmoaa.u64 tag) := hcc 7 _ rfl
        have p8 : W1.cell? ⟨b, o + k * 12 + 8, none⟩ = some (.int .i64 lo) := hcc 8 _ rfl
        have p9 : W1.cell? ⟨b, o + k * 12 + 9, none⟩ = some (.int .i64 hi) := hcc 9 _ rfl
        have p10 : W1.cell? ⟨b, o + k * 12 + 10, none⟩ = some (.int .i64 place) := hcc 10 _ rfl
        have p11 : W1.cell? ⟨b, o + k * 12 + 11, none⟩ = some (.int .i64 loc) := hcc 11 _ rfl
        clear hcc
        go_wp2_with fail
        refine (HDO.out _ HR1.out.l).mono ?_
        rintro e w3 ⟨rfl, v', h1, h2, h3, h4⟩
        have hml := HB1.out.2.1
        have hgm := HR1.out.hm
        have hnb := h2.blk HB1.out.1 (by omega) HB1.out.2.2
        have hmb := h2.blk HR1.out.m (by omega) HR1.out.hv
        have HNX := rw_next (r := (s', e')) HR1 HN1 h1 h2 h3 h4 HLEN.out
        clear h1 h2 h3 h4 c0 c1 c2 c3 p0 p1 p2 p3 p4 p5 p6 p7 p8 p9 p10 p11
        obtain ⟨n0, n1, n2, n3, n4, n5⟩ := six_cells hnb
        obtain ⟨m0, m1, m2, m3, m4, m5⟩ := six_cells hmb
        have e0 := blkX_frozen (i := 0) hmb
        have e1 := blkX_frozen (i := 1) hmb
        have e2 := blkX_frozen (i := 2) hmb
        have e3 := blkX_frozen (i := 3) hmb
        have e4 := blkX_frozen (i := 4) hmb
        have e5 := blkX_frozen (i := 5) hmb
        clear hnb hmb
        go_upto_region 14 with (fail)
        generalize (((((w3.setCell ⟨mb, 0, none⟩ (.int .i64 s'.bike)).setCell ⟨mb, 1, none⟩ (Ytgfgkgidpinmoaa.u64 s'.ka)).setCell ⟨mb, 2, none⟩ (Ytgfgkgidpinmoaa.u64 s'.kb)).setCell ⟨mb, 3, none⟩ (.int .i64 s'.state)).setCell ⟨mb, 4, none⟩ (.int .i64 s'.last)).setCell ⟨mb, 5, none⟩ (.slice ra' rn' rc') = W2 at *
        clear n0 n1 n2 n3 n4 n5 m0 m1 m2 m3 m4 m5 e0 e1 e2 e3 e4 e5 HR1 HN1 HB1 hml hgm
        have hk9 := rwCells HNX
        go_cut [91] (fun c wx => c = .bool false ∧ Hid (RunW w g w.heap.size mb #[.int .i64 bk, Ytgfgkgidpinmoaa.u64 x, Ytgfgkgidpinmoaa.u64 y, .slice (some ⟨b, o, none⟩) len cap] s' v' ra' rn' rc' wx))
        case first =>
          go_region_held3 (fun w9 => w9.cell? ⟨mb, 3, none⟩ = some (.int .i64 s'.state) ∧ w9.cell? ⟨mb, 4, none⟩ = some (.int .i64 s'.last) ∧ w9.cell? ⟨mb, 5, none⟩ = some (.slice ra' rn' rc') ∧ Below w.heap.size w w9)
            (repeat (with_reducible first | assumption | refine keepTD ?_ | refine keepTA _ ?_ | (apply rwCells; focus assumption)))
            (first
              | (go_at_call 45; (with_reducible refine (state_rw (w := w) (X := #[.int .i64 bk, Ytgfgkgidpinmoaa.u64 x, Ytgfgkgidpinmoaa.u64 y, .slice (some ⟨b, o, none⟩) len cap]) (g := g) (xb := w.heap.size) (mb := mb) (s := s') (v := v') (ra := ra') (rn := rn') (rc := rc') ?_).mono ?_); (repeat (first | (with_reducible assumption) | (with_reducible refine rwDrew ?_) | (with_reducible refine rwAlloc ?_))); rintro e w5 ⟨rfl, rfl⟩)
              | (go_at_call 43; (with_reducible refine (last_rw (w := w) (X := #[.int .i64 bk, Ytgfgkgidpinmoaa.u64 x, Ytgfgkgidpinmoaa.u64 y, .slice (some ⟨b, o, none⟩) len cap]) (g := g) (xb := w.heap.size) (mb := mb) (s := s') (v := v') (ra := ra') (rn := rn') (rc := rc') ?_).mono ?_); (repeat (first | (with_reducible assumption) | (with_reducible refine rwDrew ?_) | (with_reducible refine rwAlloc ?_))); rintro e w5 ⟨rfl, rfl⟩)
              | (go_at_call 44; (with_reducible refine (reports_rw (w := w) (X := #[.int .i64 bk, Ytgfgkgidpinmoaa.u64 x, Ytgfgkgidpinmoaa.u64 y, .slice (some ⟨b, o, none⟩) len cap]) (g := g) (xb := w.heap.size) (mb := mb) (s := s') (v := v') (ra := ra') (rn := rn') (rc := rc') ?_).mono ?_); (repeat (first | (with_reducible assumption) | (with_reducible refine rwDrew ?_) | (with_reducible refine rwAlloc ?_))); rintro e w5 ⟨a5, n5, c5, rfl, hs5, hr5⟩)
              | (go_at_call 49; (with_reducible refine (same_rw (w := w) (X := #[.int .i64 bk, Ytgfgkgidpinmoaa.u64 x, Ytgfgkgidpinmoaa.u64 y, .slice (some ⟨b, o, none⟩) len cap]) (g := g) (xb := w.heap.size) (mb := mb) (s := s') (v := v') (ra := ra') (rn := rn') (rc := rc') ?_ ?_).mono ?_); (repeat (first | (with_reducible assumption) | (with_reducible refine rwDrew ?_) | (with_reducible refine rwAlloc ?_) | (with_reducible refine slpDrew ?_))); rintro e w5 ⟨rfl, hr6⟩))
          all_goals
            go_wp2_with fail
            go_meet
            exact ⟨rfl, by first | assumption | exact rwDrew (by assumption)⟩
        case rest =>
          clear hk9 HNX
          obtain ⟨rfl, hcut⟩ := hcut
          obtain ⟨W3, hW3⟩ : ∃ W, W = wc := ⟨_, rfl⟩
          subst hW3
          go_wp2
          go_roundw
          case rel => exact ⟨k + 1, by omega, by go_num, v', ra', rn', rc', by rw [HN.out]; exact hcut⟩
          case measure => simp [intOf]; omega
    · have hkl' : ¬ (k : Int) < (len : Int) := by omega
      obtain ⟨c0, c1, c2, c3⟩ := four_cells HR.out.x
      go_wp2_with fail
      refine (awake16_any _).mono ?_
      rintro e w3 ⟨rfl, hb3⟩
      have HB3 := Lib.hid (below_step HR.out.lo hb3)
      clear hb3
      go_wp2
      go_ret
      exact ⟨rfl, HB3.out⟩
theorem lockRuns_walk (bk : Int) (x y : BitVec 64) (a : Option Addr) (len cap : Nat) (l : List OpL) (w : World) (hl : l.length = len) (hs : Sl w 12 a len cap (ocs l)) : Calls Try.prog 11 #[.agg #[.int .i64 bk, Ytgfgkgidpinmoaa.u64 x, Ytgfgkgidpinmoaa.u64 y, .slice a len cap]] w (RetB (.bool true) w) := by
  by_cases h : (60 : Int) < (len : Int)
  · exact lockRuns_long bk x y a len cap w h
  · by_cases hb : bk < 0 ∨ 128 ≤ bk
    · exact lockRuns_bad bk x y a len cap w h hb
    · exact lockRuns_ok bk x y a len cap l w h (by omega) hl hs
end Go.Proofs.Ytgfgkgidpinmoaa
