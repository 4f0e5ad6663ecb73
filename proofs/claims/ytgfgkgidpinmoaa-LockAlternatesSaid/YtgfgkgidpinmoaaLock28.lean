/-
  LOCKS, THE LAWS: LockAlternates.
-/
import Derived.Test.YtgfgkgidpinmoaaProg
import Derived.Test.YtgfgkgidpinmoaaBase3
import Derived.Test.YtgfgkgidpinmoaaBase5
import Derived.Test.YtgfgkgidpinmoaaBase6
import Derived.Test.YtgfgkgidpinmoaaBase7
import Derived.Test.YtgfgkgidpinmoaaBase14
import Derived.Test.YtgfgkgidpinmoaaTok1
import Derived.Test.YtgfgkgidpinmoaaTok3
import Derived.Test.YtgfgkgidpinmoaaTok2
import Derived.Test.YtgfgkgidpinmoaaLockP
import Derived.Test.YtgfgkgidpinmoaaLock1
import Derived.Test.YtgfgkgidpinmoaaLock2
import Derived.Test.YtgfgkgidpinmoaaLock3
import Derived.Test.YtgfgkgidpinmoaaLock4
import Derived.Test.YtgfgkgidpinmoaaLock5
import Derived.Test.YtgfgkgidpinmoaaLock6
import Derived.Test.YtgfgkgidpinmoaaLockQ
import Derived.Test.YtgfgkgidpinmoaaLock9
import Derived.Test.YtgfgkgidpinmoaaLock15
import Derived.Test.YtgfgkgidpinmoaaLock19
import Derived.Test.YtgfgkgidpinmoaaLock27
import Derived.Test.YtgfgkgidpinmoaaHeld
import Derived.BigQuiet
import Derived.Laws.StructEq
import Derived.StillTailTactics
import Derived.RegionTactic
import Derived.BigRegion
import Derived.Deep.RegionHeld3
import Derived.Deep.DeepCutAuto
import Derived.Deep.DrawnRows
import Derived.Deep.QuietTactic
import Derived.WalkSpells
import Derived.WalkLawsBesides
namespace Go.Proofs.Ytgfgkgidpinmoaa
open Go.RowKit
set_option linter.unusedVariables false

section
variable {w w1 w2 : World} {a1 a2 a3 a4 a5 a6 a7 a8 a9 a10 a11 a12 a13 : Addr} {v1 v2 v3 v4 v5 v6 v7 v8 v9 v10 v11 v12 v13 : Value}
theorem keepG (hb : Below w1.heap.size w1 w2) (h : w1.cell? a1 = some v1 ∧ w1.cell? a2 = some v2 ∧ w1.cell? a3 = some v3 ∧ w1.cell? a4 = some v4 ∧ w1.cell? a5 = some v5 ∧ w1.cell? a6 = some v6 ∧ w1.cell? a7 = some v7 ∧ w1.cell? a8 = some v8 ∧ w1.cell? a9 = some v9 ∧ w1.cell? a10 = some v10 ∧ w1.cell? a11 = some v11 ∧ w1.cell? a12 = some v12 ∧ w1.cell? a13 = some v13 ∧ Below w.heap.size w w1) : w2.cell? a1 = some v1 ∧ w2.cell? a2 = some v2 ∧ w2.cell? a3 = some v3 ∧ w2.cell? a4 = some v4 ∧ w2.cell? a5 = some v5 ∧ w2.cell? a6 = some v6 ∧ w2.cell? a7 = some v7 ∧ w2.cell? a8 = some v8 ∧ w2.cell? a9 = some v9 ∧ w2.cell? a10 = some v10 ∧ w2.cell? a11 = some v11 ∧ w2.cell? a12 = some v12 ∧ w2.cell? a13 = some v13 ∧ Below w.heap.size w w2 := ⟨cell_keep hb h.1, cell_keep hb h.2.1, cell_keep hb h.2.2.1, cell_keep hb h.2.2.2.1, cell_keep hb h.2.2.2.2.1, cell_keep hb h.2.2.2.2.2.1, cell_keep hb h.2.2.2.2.2.2.1, cell_keep hb h.2.2.2.2.2.2.2.1, cell_keep hb h.2.2.2.2.2.2.2.2.1, cell_keep hb h.2.2.2.2.2.2.2.2.2.1, cell_keep hb h.2.2.2.2.2.2.2.2.2.2.1, cell_keep hb h.2.2.2.2.2.2.2.2.2.2.2.1, cell_keep hb h.2.2.2.2.2.2.2.2.2.2.2.2.1, below_step h.2.2.2.2.2.2.2.2.2.2.2.2.2 hb⟩
theorem keepGD (h : w1.cell? a1 = some v1 ∧ w1.cell? a2 = some v2 ∧ w1.cell? a3 = some v3 ∧ w1.cell? a4 = some v4 ∧ w1.cell? a5 = some v5 ∧ w1.cell? a6 = some v6 ∧ w1.cell? a7 = some v7 ∧ w1.cell? a8 = some v8 ∧ w1.cell? a9 = some v9 ∧ w1.cell? a10 = some v10 ∧ w1.cell? a11 = some v11 ∧ w1.cell? a12 = some v12 ∧ w1.cell? a13 = some v13 ∧ Below w.heap.size w w1) : w1.drew.cell? a1 = some v1 ∧ w1.drew.cell? a2 = some v2 ∧ w1.drew.cell? a3 = some v3 ∧ w1.drew.cell? a4 = some v4 ∧ w1.drew.cell? a5 = some v5 ∧ w1.drew.cell? a6 = some v6 ∧ w1.drew.cell? a7 = some v7 ∧ w1.drew.cell? a8 = some v8 ∧ w1.drew.cell? a9 = some v9 ∧ w1.drew.cell? a10 = some v10 ∧ w1.drew.cell? a11 = some v11 ∧ w1.drew.cell? a12 = some v12 ∧ w1.drew.cell? a13 = some v13 ∧ Below w.heap.size w w1.drew := ⟨h.1, h.2.1, h.2.2.1, h.2.2.2.1, h.2.2.2.2.1, h.2.2.2.2.2.1, h.2.2.2.2.2.2.1, h.2.2.2.2.2.2.2.1, h.2.2.2.2.2.2.2.2.1, h.2.2.2.2.2.2.2.2.2.1, h.2.2.2.2.2.2.2.2.2.2.1, h.2.2.2.2.2.2.2.2.2.2.2.1, h.2.2.2.2.2.2.2.2.2.2.2.2.1, below_drew h.2.2.2.2.2.2.2.2.2.2.2.2.2⟩
theorem keepGA (o : Obj) (h : w1.cell? a1 = some v1 ∧ w1.cell? a2 = some v2 ∧ w1.cell? a3 = some v3 ∧ w1.cell? a4 = some v4 ∧ w1.cell? a5 = some v5 ∧ w1.cell? a6 = some v6 ∧ w1.cell? a7 = some v7 ∧ w1.cell? a8 = some v8 ∧ w1.cell? a9 = some v9 ∧ w1.cell? a10 = some v10 ∧ w1.cell? a11 = some v11 ∧ w1.cell? a12 = some v12 ∧ w1.cell? a13 = some v13 ∧ Below w.heap.size w w1) : (w1.alloc o).cell? a1 = some v1 ∧ (w1.alloc o).cell? a2 = some v2 ∧ (w1.alloc o).cell? a3 = some v3 ∧ (w1.alloc o).cell? a4 = some v4 ∧ (w1.alloc o).cell? a5 = some v5 ∧ (w1.alloc o).cell? a6 = some v6 ∧ (w1.alloc o).cell? a7 = some v7 ∧ (w1.alloc o).cell? a8 = some v8 ∧ (w1.alloc o).cell? a9 = some v9 ∧ (w1.alloc o).cell? a10 = some v10 ∧ (w1.alloc o).cell? a11 = some v11 ∧ (w1.alloc o).cell? a12 = some v12 ∧ (w1.alloc o).cell? a13 = some v13 ∧ Below w.heap.size w (w1.alloc o) := keepG (below_alloc _ _) h
end
theorem lwDrewN {w W : World} {g xb : Nat} {X : Array Value} {s : LS} {v : Value} (n : Nat) (h : Hid (LkW w g xb X s v W)) : Hid (LkW w g xb X s v (W.drewN n)) :=
  ⟨⟨h.out.l.1.elim fun E e => ⟨E, e⟩, ⟨h.out.l.2.1, h.out.l.2.2⟩⟩, h.out.x.elim fun E e => ⟨E, e⟩, below_drewN h.out.lo n, h.out.hg, h.out.hx, h.out.hn⟩
attribute [local go_sem ↓] Go.wp_at_zero Go.wp_at_succ
set_option maxRecDepth 100000 in
set_option maxHeartbeats 1000000 in
theorem lockAlt_long (bk : Int) (x y : BitVec 64) (a : Option Addr) (len cap : Nat) (w : World) (h : (60 : Int) < (len : Int)) : Calls Try.prog 12 #[.agg #[.int .i64 bk, u64 x, u64 y, .slice a len cap]] w (RetB (.bool true) w) := by
  go_enter Try.func12, Try.ntmps12
  go_wp2_with fail
  refine (awake16_any _).mono ?_
  rintro e wz ⟨rfl, hbz⟩
  have HBZ := Lib.hid (below_step (below_alloc _ _) hbz)
  clear hbz
  go_wp2
  go_ret
  exact ⟨rfl, HBZ.out⟩
set_option maxRecDepth 100000 in
set_option maxHeartbeats 1000000 in
theorem lockAlt_bad (bk : Int) (x y : BitVec 64) (a : Option Addr) (len cap : Nat) (w : World) (h : ¬ (60 : Int) < (len : Int)) (hb : Hid (bk < 0 ∨ 128 ≤ bk)) : Calls Try.prog 12 #[.agg #[.int .i64 bk, u64 x, u64 y, .slice a len cap]] w (RetB (.bool true) w) := by
  have HQ := Lib.hid (below_alloc w (.cells #[.int .i64 bk, u64 x, u64 y, .slice a len cap] 71))
  go_enter Try.func12, Try.ntmps12
  go_wp2_with fail
  refine (new_bad bk x y _ hb.out).mono ?_
  rintro e w1 ⟨rfl, hb1⟩
  have HQ1 := Lib.hid (below_step HQ.out hb1)
  clear hb1 HQ
  go_wp2_with fail
  refine (awake16_any _).mono ?_
  rintro e wz ⟨rfl, hbz⟩
  have HBZ := Lib.hid (below_step HQ1.out hbz)
  clear hbz
  go_wp2
  go_ret
  exact ⟨rfl, HBZ.out⟩
set_option maxRecDepth 100000 in
set_option maxHeartbeats 2000000 in
theorem lockAlt_ok (bk : Int) (x y : BitVec 64) (a : Option Addr) (len cap : Nat) (l : List OpL) (w : World) (h : ¬ (60 : Int) < (len : Int)) (hbk : 0 ≤ bk ∧ bk < 128) (hl : l.length = len) (hs : Sl w 12 a len cap (ocs l)) : Calls Try.prog 12 #[.agg #[.int .i64 bk, u64 x, u64 y, .slice a len cap]] w (RetB (.bool true) w) := by
  have HQ : Hid (BlkAt (w.alloc (.cells #[.int .i64 bk, u64 x, u64 y, .slice a len cap] 71)) w.heap.size #[.int .i64 bk, u64 x, u64 y, .slice a len cap] ∧ Below w.heap.size w (w.alloc (.cells #[.int .i64 bk, u64 x, u64 y, .slice a len cap] 71))) := ⟨blkNew rfl, below_alloc _ _⟩
  have hnew := fun W => new_ok bk x y W hbk.1 hbk.2
  have HNEW := Lib.hid hnew
  have HS := Lib.hid hs
  have HL := Lib.hid hl
  clear hnew hs hl hbk
  go_enter Try.func12, Try.ntmps12
  go_wp2_with fail
  refine (HNEW.out _).mono ?_
  rintro e w1 ⟨rfl, hl1, hb1⟩
  have hsz : (w.alloc (.cells #[.int .i64 bk, u64 x, u64 y, .slice a len cap] 71)).heap.size = w.heap.size + 1 := by simp
  rw [hsz] at hl1 ⊢
  have HQ1 : Hid (LkW w (w.heap.size + 1 + 1) w.heap.size #[.int .i64 bk, u64 x, u64 y, .slice a len cap] ⟨bk, x, y, 1, 0, []⟩ (.slice none 0 0) w1) := ⟨hl1.out, blkBelow hb1 HQ.out.1, below_step HQ.out.2 hb1, by omega, by omega, by simp⟩
  clear hb1 HQ hsz hl1
  generalize w.heap.size + 1 + 1 = g at *
  go_upto_region 8 with (fail)
  go_loopw [5, 6, 7, 8, 9] (fun n la nn lo i wr => ∃ (k : Nat) (s : LS) (v : Value) (m : Nat) (lk no lc : Int), k ≤ len ∧ i = .int .i64 k ∧ LS.run ⟨bk, x, y, 1, 0, []⟩ (l.take k) = s ∧ n = .int .i64 m ∧ la = .int .i64 lk ∧ nn = .int .i64 no ∧ lo = .int .i64 lc ∧ Hid (LkW w g w.heap.size #[.int .i64 bk, u64 x, u64 y, .slice a len cap] s v wr) ∧ Hid (AltS bk x y s ∧ s.reps.length = m ∧ lastKind s.reps = lk ∧ s.last = no ∧ lastLocal s.reps = lc)) (fun _ _ _ _ i _ => len - (intOf i).toNat)
  case atStart => exact ⟨0, _, _, 0, 0, 0, 0, by omega, rfl, rfl, rfl, rfl, rfl, rfl, HQ1, alt_new bk x y, rfl, rfl, rfl, rfl⟩
  case round =>
    obtain ⟨k, s, v, m, lk, no, lc, hk, rfl, hrun, rfl, rfl, rfl, rfl, HR, HAL⟩ := hrel
    clear HQ1
    have HM := Lib.hid HAL.out.2.1
    have HLK := Lib.hid HAL.out.2.2.1
    have HNO := Lib.hid HAL.out.2.2.2.1
    have HLOC := Lib.hid HAL.out.2.2.2.2
    have hm60 : (m : Int) ≤ 512 := by have := HM.out; have := HR.out.hn; omega
    by_cases hkl : k < len
    · have hkl' : (k : Int) < (len : Int) := by omega
      have hk0 : (0 : Int) ≤ (k : Int) := by omega
      have hm0 : (0 : Int) ≤ (m : Int) := by omega
      have hnext := run_snoc ⟨bk, x, y, 1, 0, []⟩ l k (by have := HL.out; omega)
      rw [hrun] at hnext
      clear hrun
      obtain ⟨b, o, e, hc0⟩ := sl_op HS.out HL.out k hkl
      subst e
      generalize l.getD k OpL.zero = ob at *
      have halt := fun h => alt_ok (o := ob) HAL.out.1 h
      have herr := turn_err (s := s) (o := ob)
      obtain ⟨⟨s', e'⟩, hr⟩ : ∃ r, s.turn ob = r := ⟨_, rfl⟩
      rw [hr] at hnext herr halt
      dsimp only at hnext herr halt
      have HN := Lib.hid hnext
      have HE := Lib.hid herr
      have HALT := Lib.hid halt
      obtain ⟨c, tb, tr, td, tf, tt, tn, tag, lo, hi, place, loc⟩ := ob
      have HDO : Hid (∀ W, Hid (LkW w g w.heap.size #[.int .i64 bk, Ytgfgkgidpinmoaa.u64 x, Ytgfgkgidpinmoaa.u64 y, .slice (some ⟨b, o, none⟩) len cap] s v W) → Calls Try.prog 48 #[.pointer (some ⟨g, 0, none⟩), .agg #[b8 c, .int .i64 tb, .int .i64 tr, .int .i64 td, .int .i64 tf, .int .i64 tt, .int .i64 tn, Ytgfgkgidpinmoaa.u64 tag, .int .i64 lo, .int .i64 hi, .int .i64 place, .int .i64 loc]] W (fun e W' => e = .returned (.int .i64 e') ∧ ∃ v', Hid (LkW w g w.heap.size #[.int .i64 bk, Ytgfgkgidpinmoaa.u64 x, Ytgfgkgidpinmoaa.u64 y, .slice (some ⟨b, o, none⟩) len cap] s' v' W') ∧ Hid (Fr g v W W' ∧ Fresh W v v' ∧ (e' ≠ 0 → Below W.heap.size W W')))) := by
        intro W hW
        have := do_lw (o := ⟨c, tb, tr, td, tf, tt, tn, tag, lo, hi, place, loc⟩) hW
        rw [hr] at this
        exact this
      have HC := Lib.hid hc0
      clear hr hnext hc0 herr halt
      obtain ⟨c0, c1, c2, c3⟩ := four_cells HR.out.x
      have hcc : ∀ j u, (opA ⟨c, tb, tr, td, tf, tt, tn, tag, lo, hi, place, loc⟩)[j]? = some u → wr.cell? ⟨b, o + k * 12 + j, none⟩ = some u := fun j u hj => cell_keep HR.out.lo (HC.out j u hj)
      have p0 : wr.cell? ⟨b, o + k * 12, none⟩ = some (b8 c) := hcc 0 _ rfl
      have p1 : wr.cell? ⟨b, o + k * 12 + 1, none⟩ = some (.int .i64 tb) := hcc 1 _ rfl
      have p2 : wr.cell? ⟨b, o + k * 12 + 2, none⟩ = some (.int .i64 tr) := hcc 2 _ rfl
      have p3 : wr.cell? ⟨b, o + k * 12 + 3, none⟩ = some (.int .i64 td) := hcc 3 _ rfl
      have p4 : wr.cell? ⟨b, o + k * 12 + 4, none⟩ = some (.int .i64 tf) := hcc 4 _ rfl
      have p5 : wr.cell? ⟨b, o + k * 12 + 5, none⟩ = some (.int .i64 tt) := hcc 5 _ rfl
      have p6 : wr.cell? ⟨b, o + k * 12 + 6, none⟩ = some (.int .i64 tn) := hcc 6 _ rfl
      have p7 : wr.cell? ⟨b, o + k * 12 + 7, none⟩ = some (Ytgfgkgidpinmoaa.u64 tag) := hcc 7 _ rfl
      have p8 : wr.cell? ⟨b, o + k * 12 + 8, none⟩ = some (.int .i64 lo) := hcc 8 _ rfl
      have p9 : wr.cell? ⟨b, o + k * 12 + 9, none⟩ = some (.int .i64 hi) := hcc 9 _ rfl
      have p10 : wr.cell? ⟨b, o + k * 12 + 10, none⟩ = some (.int .i64 place) := hcc 10 _ rfl
      have p11 : wr.cell? ⟨b, o + k * 12 + 11, none⟩ = some (.int .i64 loc) := hcc 11 _ rfl
      clear hcc
      go_upto_region 11 with (fail)
      have HR1 := lwAlloc (o := .cells #[b8 c, .int .i64 tb, .int .i64 tr, .int .i64 td, .int .i64 tf, .int .i64 tt, .int .i64 tn, Ytgfgkgidpinmoaa.u64 tag, .int .i64 lo, .int .i64 hi, .int .i64 place, .int .i64 loc] 74) HR
      have HO1 : Hid (BlkAt (wr.alloc (.cells #[b8 c, .int .i64 tb, .int .i64 tr, .int .i64 td, .int .i64 tf, .int .i64 tt, .int .i64 tn, Ytgfgkgidpinmoaa.u64 tag, .int .i64 lo, .int .i64 hi, .int .i64 place, .int .i64 loc] 74)) wr.heap.size #[b8 c, .int .i64 tb, .int .i64 tr, .int .i64 td, .int .i64 tf, .int .i64 tt, .int .i64 tn, Ytgfgkgidpinmoaa.u64 tag, .int .i64 lo, .int .i64 hi, .int .i64 place, .int .i64 loc]) := blkNew rfl
      have hob : wr.heap.size ≠ g ∧ some wr.heap.size ≠ v.ownBlock := ⟨by have := HR.out.l.lt.1; omega, fun e => by have := HR.out.l.lt.2 _ e.symm; omega⟩
      generalize wr.alloc (.cells #[b8 c, .int .i64 tb, .int .i64 tr, .int .i64 td, .int .i64 tf, .int .i64 tt, .int .i64 tn, Ytgfgkgidpinmoaa.u64 tag, .int .i64 lo, .int .i64 hi, .int .i64 place, .int .i64 loc] 74) = W1 at *
      generalize wr.heap.size = ob at *
      have HOB := Lib.hid hob
      clear HR c0 c1 c2 c3 p0 p1 p2 p3 p4 p5 p6 p7 p8 p9 p10 p11 hob
      obtain ⟨p0, p1, p2, p3, p4, p5, p6, p7, p8, p9, p10, p11⟩ := op_cells HO1.out
      go_wp2_with fail
      refine (HDO.out _ HR1).mono ?_
      rintro e w3 ⟨rfl, v', HR3, HF3⟩
      have HO3 := Lib.hid (HF3.out.1.blk HO1.out HOB.out.1 HOB.out.2)
      clear p0 p1 p2 p3 p4 p5 p6 p7 p8 p9 p10 p11 HDO HR1 HO1 HOB
      go_wp2_with fail
      refine (reports_lw HR3).mono ?_
      rintro e w4 ⟨a4, n4, t4, rfl, HS4, _, HR4, HB4⟩
      have HOB4 := Lib.hid (blkBelow HB4.out HO3.out)
      have hn4 := HS4.out.2
      clear HO3 HR3 HB4
      by_cases he : e' = 0
      · subst he
        obtain ⟨kind, place, rider, ride, hT⟩ := HALT.out (by first | rfl | trivial)
        have HT := Lib.hid hT
        clear hT HE HF3 HALT
        have hn5 : n4 = m + 1 := by rw [← hn4, HT.out.reps, ← HM.out]; simp
        subst hn5
        clear hn4
        obtain ⟨st', hst'⟩ : ∃ st', s'.state = st' := ⟨_, rfl⟩
        have HST := Lib.hid hst'
        clear hst'
        have HLK' := Lib.hid (show lastKind s'.reps = kind by rw [HT.out.reps]; exact lastKind_snoc _ _)
        have hmm : ((m + 1 : Nat) : Int) = (m : Int) + 1 := by omega
        have hmm1 : (m : Int) + 1 - 1 = (m : Int) := by omega
        obtain ⟨b4, o4, e4, hc4⟩ := sl_rep HS4.out.1 HS4.out.2 m (by omega)
        subst e4
        have hy : s'.reps.getD m (0, 0, 0, 0, 0, 0) = ((m : Int) + 1, loc, kind, place, rider, ride) := by
          rw [HT.out.reps, ← HM.out]
          simp [List.getD]
        rw [hy] at hc4
        have y0 : w4.cell? ⟨b4, o4 + m * 6, none⟩ = some (.int .i64 ((m : Int) + 1)) := hc4 0 _ rfl
        have y1 : w4.cell? ⟨b4, o4 + m * 6 + 1, none⟩ = some (.int .i64 loc) := hc4 1 _ rfl
        have y2 : w4.cell? ⟨b4, o4 + m * 6 + 2, none⟩ = some (.int .i64 kind) := hc4 2 _ rfl
        have y3 : w4.cell? ⟨b4, o4 + m * 6 + 3, none⟩ = some (.int .i64 place) := hc4 3 _ rfl
        have y4 : w4.cell? ⟨b4, o4 + m * 6 + 4, none⟩ = some (.int .i64 rider) := hc4 4 _ rfl
        have y5 : w4.cell? ⟨b4, o4 + m * 6 + 5, none⟩ = some (.int .i64 ride) := hc4 5 _ rfl
        clear hc4 hy
        go_upto_region 20 with (fail)
        have HR5 := lwAlloc (o := .cells #[.int .i64 ((m : Int) + 1), .int .i64 loc, .int .i64 kind, .int .i64 place, .int .i64 rider, .int .i64 ride] 79) HR4
        have HO5 := Lib.hid (blkOld (o := .cells #[.int .i64 ((m : Int) + 1), .int .i64 loc, .int .i64 kind, .int .i64 place, .int .i64 rider, .int .i64 ride] 79) HOB4.out)
        have HY5 : Hid (BlkAt (w4.alloc (.cells #[.int .i64 ((m : Int) + 1), .int .i64 loc, .int .i64 kind, .int .i64 place, .int .i64 rider, .int .i64 ride] 79)) w4.heap.size #[.int .i64 ((m : Int) + 1), .int .i64 loc, .int .i64 kind, .int .i64 place, .int .i64 rider, .int .i64 ride]) := blkNew rfl
        generalize w4.alloc (.cells #[.int .i64 ((m : Int) + 1), .int .i64 loc, .int .i64 kind, .int .i64 place, .int .i64 rider, .int .i64 ride] 79) = W5 at *
        generalize w4.heap.size = yb at *
        clear y0 y1 y2 y3 y4 y5 HR4 HOB4 HS4
        obtain ⟨y0, y1, y2, y3, y4, y5⟩ := six_cells HY5.out
        obtain ⟨p0, p1, p2, p3, p4, p5, p6, p7, p8, p9, p10, p11⟩ := op_cells HO5.out
        have hord := HT.out.ord
        rw [HLOC.out] at hord
        have hfol : ∀ W, Calls Try.prog 50 #[.int .i64 lk, .int .i64 kind] W (fun e W' => e = .returned (.bool true) ∧ W' = W) := fun W => by have := HT.out.fo; rw [HLK.out] at this; exact follows_any this W
        have haft : ∀ W, Calls Try.prog 51 #[.int .i64 kind] W (fun e W' => e = .returned (.int .i64 st') ∧ W' = W) := fun W => by have := HT.out.alt.af; rw [HLK'.out, HST.out] at this; exact after_any this W
        have hsta : ∀ W, Hid (LkW w g w.heap.size #[.int .i64 bk, Ytgfgkgidpinmoaa.u64 x, Ytgfgkgidpinmoaa.u64 y, .slice (some ⟨b, o, none⟩) len cap] s' v' W) → Calls Try.prog 45 #[.pointer (some ⟨g, 0, none⟩)] W (fun e W' => e = .returned (.int .i64 st') ∧ W' = W) := fun W hW => by have := state_lw hW; rw [HST.out] at this; exact this
        have HFOL := Lib.hid hfol
        have HAFT := Lib.hid haft
        have HSTA := Lib.hid hsta
        clear hfol haft hsta
        go_cut [107] (fun q wx => q = .bool false ∧ Hid (Below W5.heap.size W5 wx))
        case first =>
          go_quiet (first
            | (go_at_call 50; exact Calls.quiet_of_same (HFOL.out _))
            | (go_at_call 45; exact Calls.quiet_of_same (HSTA.out _ (by first | exact HR5 | exact lwDrew HR5 | exact lwDrewN _ HR5)))
            | (go_at_call 51; exact Calls.quiet_of_same (HAFT.out _)))
          all_goals
            go_wp2_with fail
            go_meet
            exact ⟨rfl, by first | exact below_drewN (Below.refl _ _) _ | exact Below.refl _ _⟩
        case rest =>
          obtain ⟨rfl, hcut⟩ := hcut
          obtain ⟨W6, hW6⟩ : ∃ W, W = wc := ⟨_, rfl⟩
          subst hW6
          have HR6 := lwBelow hcut.out HR5
          have HO6 := Lib.hid (blkBelow hcut.out HO5.out)
          have HY6 := Lib.hid (blkBelow hcut.out HY5.out)
          clear y0 y1 y2 y3 y4 y5 p0 p1 p2 p3 p4 p5 p6 p7 p8 p9 p10 p11 HR5 HO5 HY5 hcut HFOL HAFT HSTA hord
          clear W5
          obtain ⟨y0, y1, y2, y3, y4, y5⟩ := six_cells HY6.out
          by_cases hk3 : kind = 3
          · subst hk3
            obtain ⟨s1, s2, s3, s4, s5, s6, s7⟩ := HT.out.start rfl
            dsimp only at s1 s2 s3 s4 s5 s6 s7
            have s5 := s5.symm
            have s6 := s6.symm
            subst s5
            subst s6
            rw [HNO.out] at s2
            have hc0 : (c.toNat : Int) = 0 := by rw [s1]; rfl
            have hnn : ¬ tn ≤ no := by omega
            have hgen : ∀ W, Calls Try.prog 31 #[.agg #[Ytgfgkgidpinmoaa.u64 x, Ytgfgkgidpinmoaa.u64 y], .agg #[.int .i64 tb, .int .i64 tr, .int .i64 td, .int .i64 tf, .int .i64 tt, .int .i64 tn, Ytgfgkgidpinmoaa.u64 tag]] W (RetB (.bool true) W) := fun W => by have := refGenuine_any x y tb tr td tf tt tn tag W; rw [s3] at this; exact this
            have hlas : ∀ W, Hid (LkW w g w.heap.size #[.int .i64 bk, Ytgfgkgidpinmoaa.u64 x, Ytgfgkgidpinmoaa.u64 y, .slice (some ⟨b, o, none⟩) len cap] s' v' W) → Calls Try.prog 43 #[.pointer (some ⟨g, 0, none⟩)] W (fun e W' => e = .returned (.int .i64 tn) ∧ W' = W) := fun W hW => by have := last_lw hW; rw [s7] at this; exact this
            have HGEN := Lib.hid hgen
            have HLAS := Lib.hid hlas
            have HS7 := Lib.hid s7
            have htb := s4.symm
            clear s1 s2 s3 s7 hgen hlas
            subst htb
            clear y0 y1 y3
            go_upto_region 23 with (fail)
            obtain ⟨p0, p1, p2, p3, p4, p5, p6, p7, p8, p9, p10, p11⟩ := op_cells HO6.out
            obtain ⟨c0, c1, c2, c3⟩ := four_cells HR6.out.x
            have hS0 : W6.cell? ⟨ob, 0, none⟩ = some (b8 c) ∧ W6.cell? ⟨ob, 1, none⟩ = some (.int .i64 bk) ∧ W6.cell? ⟨ob, 2, none⟩ = some (.int .i64 tr) ∧ W6.cell? ⟨ob, 3, none⟩ = some (.int .i64 td) ∧ W6.cell? ⟨ob, 4, none⟩ = some (.int .i64 tf) ∧ W6.cell? ⟨ob, 5, none⟩ = some (.int .i64 tt) ∧ W6.cell? ⟨ob, 6, none⟩ = some (.int .i64 tn) ∧ W6.cell? ⟨ob, 7, none⟩ = some (Ytgfgkgidpinmoaa.u64 tag) ∧ W6.cell? ⟨yb, 4, none⟩ = some (.int .i64 tr) ∧ W6.cell? ⟨yb, 5, none⟩ = some (.int .i64 td) ∧ W6.cell? ⟨w.heap.size, 0, none⟩ = some (.int .i64 bk) ∧ W6.cell? ⟨w.heap.size, 1, none⟩ = some (Ytgfgkgidpinmoaa.u64 x) ∧ W6.cell? ⟨w.heap.size, 2, none⟩ = some (Ytgfgkgidpinmoaa.u64 y) ∧ Below W6.heap.size W6 W6 := ⟨p0, p1, p2, p3, p4, p5, p6, p7, y4, y5, c0, c1, c2, Below.refl _ _⟩
            clear p0 p1 p2 p3 p4 p5 p6 p7 p8 p9 p10 p11 c0 c1 c2 c3 y2 y4 y5
            go_cut [160] (fun q wx => q = .bool false ∧ Hid (Below W6.heap.size W6 wx))
            case first =>
              go_region_held3 (fun w9 => w9.cell? ⟨ob, 0, none⟩ = some (b8 c) ∧ w9.cell? ⟨ob, 1, none⟩ = some (.int .i64 bk) ∧ w9.cell? ⟨ob, 2, none⟩ = some (.int .i64 tr) ∧ w9.cell? ⟨ob, 3, none⟩ = some (.int .i64 td) ∧ w9.cell? ⟨ob, 4, none⟩ = some (.int .i64 tf) ∧ w9.cell? ⟨ob, 5, none⟩ = some (.int .i64 tt) ∧ w9.cell? ⟨ob, 6, none⟩ = some (.int .i64 tn) ∧ w9.cell? ⟨ob, 7, none⟩ = some (Ytgfgkgidpinmoaa.u64 tag) ∧ w9.cell? ⟨yb, 4, none⟩ = some (.int .i64 tr) ∧ w9.cell? ⟨yb, 5, none⟩ = some (.int .i64 td) ∧ w9.cell? ⟨w.heap.size, 0, none⟩ = some (.int .i64 bk) ∧ w9.cell? ⟨w.heap.size, 1, none⟩ = some (Ytgfgkgidpinmoaa.u64 x) ∧ w9.cell? ⟨w.heap.size, 2, none⟩ = some (Ytgfgkgidpinmoaa.u64 y) ∧ Below W6.heap.size W6 w9)
                (repeat (with_reducible first | assumption | refine keepGD ?_ | refine keepGA _ ?_ | (apply keepG; focus assumption)))
                (first
                  | (go_at_call 31; (with_reducible refine (HGEN.out _).mono ?_); rintro e w8 ⟨rfl, hb8⟩)
                  | (go_at_call 43; (with_reducible refine (HLAS.out _ ?_).mono ?_); (repeat (first | (with_reducible assumption) | (with_reducible refine lwDrew ?_) | (with_reducible refine lwAlloc ?_) | ((with_reducible apply lwBelow); focus (with_reducible assumption)))); rintro e w8 ⟨rfl, rfl⟩))
              all_goals
                go_wp2_with fail
                go_meet
                exact ⟨rfl, by go_split_ands; assumption⟩
            case rest =>
              obtain ⟨rfl, hcut⟩ := hcut
              obtain ⟨W7, hW7⟩ : ∃ W, W = wc := ⟨_, rfl⟩
              subst hW7
              have HR7 := lwBelow hcut.out HR6
              have HO7 := Lib.hid (blkBelow hcut.out HO6.out)
              have HY7 := Lib.hid (blkBelow hcut.out HY6.out)
              clear hcut hS0 HR6 HO6 HY6 HGEN HLAS
              obtain ⟨p0, p1, p2, p3, p4, p5, p6, p7, p8, p9, p10, p11⟩ := op_cells HO7.out
              obtain ⟨y0, y1, y2, y3, y4, y5⟩ := six_cells HY7.out
              go_wp2
              go_quiet (fail)
              go_wp2
              go_roundw
              case rel => exact ⟨k + 1, s', v', m + 1, 3, tn, loc, by omega, by go_num, HN.out, by go_num, rfl, rfl, rfl, by first | exact HR7 | exact lwDrew HR7 | exact lwBelow (below_drewN (Below.refl _ _) _) HR7, ⟨HT.out.alt, by rw [HT.out.reps, ← HM.out]; simp, HLK'.out, HS7.out, by rw [HT.out.reps]; exact lastLoc_snoc _ _⟩⟩
              case measure => simp [intOf]; omega
          · have hoth := HT.out.other hk3
            rw [HNO.out] at hoth
            have HOT := Lib.hid hoth
            clear hoth
            go_wp2
            go_quiet (fail)
            go_wp2
            go_roundw
            case rel => exact ⟨k + 1, s', v', m + 1, kind, no, loc, by omega, by go_num, HN.out, by go_num, rfl, rfl, rfl, by first | exact HR6 | exact lwDrew HR6 | exact lwBelow (below_drewN (Below.refl _ _) _) HR6, ⟨HT.out.alt, by rw [HT.out.reps, ← HM.out]; simp, HLK'.out, HOT.out, by rw [HT.out.reps]; exact lastLoc_snoc _ _⟩⟩
            case measure => simp [intOf]; omega
      · have hss := HE.out he
        subst hss
        have hn5 : n4 = m := by rw [← hn4]; exact HM.out
        subst hn5
        clear hn4 HE HF3 HALT HS4
        go_wp2
        go_roundw
        case rel => exact ⟨k + 1, s', v', n4, lk, no, lc, by omega, by go_num, HN.out, rfl, rfl, rfl, rfl, HR4, HAL⟩
        case measure => simp [intOf]; omega
    · have hkl' : ¬ (k : Int) < (len : Int) := by omega
      obtain ⟨c0, c1, c2, c3⟩ := four_cells HR.out.x
      have haft : ∀ W, Calls Try.prog 51 #[.int .i64 lk] W (fun e W' => e = .returned (.int .i64 s.state) ∧ W' = W) := fun W => by have := HAL.out.1.af; rw [HLK.out] at this; exact after_any this W
      have hlas : ∀ W, Hid (LkW w g w.heap.size #[.int .i64 bk, Ytgfgkgidpinmoaa.u64 x, Ytgfgkgidpinmoaa.u64 y, .slice a len cap] s v W) → Calls Try.prog 43 #[.pointer (some ⟨g, 0, none⟩)] W (fun e W' => e = .returned (.int .i64 no) ∧ W' = W) := fun W hW => by have := last_lw hW; rw [HNO.out] at this; exact this
      have HAFT := Lib.hid haft
      have HLAS := Lib.hid hlas
      clear haft hlas
      go_wp2_with fail
      refine (state_lw HR).mono ?_
      rintro e w2 ⟨rfl, hw⟩
      subst w2
      clear c0 c1 c2 c3
      go_wp2_with fail
      refine (HAFT.out _).mono ?_
      rintro e w2 ⟨rfl, hw⟩
      subst w2
      go_wp2_with fail
      refine (HLAS.out _ HR).mono ?_
      rintro e w2 ⟨rfl, hw⟩
      subst w2
      go_wp2_with fail
      refine (awake16_any _).mono ?_
      rintro e wz ⟨rfl, hbz⟩
      have HBZ := Lib.hid (below_step HR.out.lo hbz)
      clear hbz
      go_wp2
      go_ret
      exact ⟨rfl, HBZ.out⟩
theorem lockAlt_walk (bk : Int) (x y : BitVec 64) (a : Option Addr) (len cap : Nat) (l : List OpL) (w : World) (hl : l.length = len) (hs : Sl w 12 a len cap (ocs l)) : Calls Try.prog 12 #[.agg #[.int .i64 bk, Ytgfgkgidpinmoaa.u64 x, Ytgfgkgidpinmoaa.u64 y, .slice a len cap]] w (RetB (.bool true) w) := by
  by_cases h : (60 : Int) < (len : Int)
  · exact lockAlt_long bk x y a len cap w h
  · by_cases hb : bk < 0 ∨ 128 ≤ bk
    · exact lockAlt_bad bk x y a len cap w h hb
    · exact lockAlt_ok bk x y a len cap l w h (by omega) hl hs
end Go.Proofs.Ytgfgkgidpinmoaa
