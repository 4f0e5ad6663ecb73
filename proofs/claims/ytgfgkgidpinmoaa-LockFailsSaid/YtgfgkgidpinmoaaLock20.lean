/-
  LOCKS, THE LAWS: LockFails.
-/
import Derived.Test.YtgfgkgidpinmoaaProg
import Derived.Test.YtgfgkgidpinmoaaBase3
import Derived.Test.YtgfgkgidpinmoaaBase5
import Derived.Test.YtgfgkgidpinmoaaBase6
import Derived.Test.YtgfgkgidpinmoaaBase7
import Derived.Test.YtgfgkgidpinmoaaBase14
import Derived.Test.YtgfgkgidpinmoaaTok1
import Derived.Test.YtgfgkgidpinmoaaTok3
import Derived.Test.YtgfgkgidpinmoaaLockP
import Derived.Test.YtgfgkgidpinmoaaLock1
import Derived.Test.YtgfgkgidpinmoaaLock2
import Derived.Test.YtgfgkgidpinmoaaLock3
import Derived.Test.YtgfgkgidpinmoaaLock4
import Derived.Test.YtgfgkgidpinmoaaLock5
import Derived.Test.YtgfgkgidpinmoaaLock6
import Derived.Test.YtgfgkgidpinmoaaLockQ
import Derived.Test.YtgfgkgidpinmoaaLock9
import Derived.Test.YtgfgkgidpinmoaaLock15
import Derived.Test.YtgfgkgidpinmoaaLock19
import Derived.Test.YtgfgkgidpinmoaaHeld
import Derived.BigQuiet
import Derived.Laws.StructEq
import Derived.StillTailTactics
import Derived.RegionTactic
import Derived.BigRegion
import Derived.Deep.RegionHeld3
import Derived.Deep.DeepCutAuto
import Derived.Deep.QuietTactic
import Derived.WalkSpells
import Derived.WalkLawsBesides
namespace Go.Proofs.Ytgfgkgidpinmoaa
open Go.RowKit
set_option linter.unusedVariables false

set_option maxRecDepth 100000 in
set_option maxHeartbeats 1000000 in
theorem lockFails_long (bk : Int) (x y : BitVec 64) (a : Option Addr) (len cap : Nat) (w : World) (h : (60 : Int) < (len : Int)) : Calls Try.prog 13 #[.agg #[.int .i64 bk, u64 x, u64 y, .slice a len cap]] w (RetB (.bool true) w) := by
  go_enter Try.func13, Try.ntmps13
  go_wp2_with fail
  refine (awake16_any _).mono ?_
  rintro e wz ⟨rfl, hbz⟩
  have HBZ := Lib.hid (below_step (below_alloc _ _) hbz)
  clear hbz
  go_wp2
  go_ret
  exact ⟨rfl, HBZ.out⟩
set_option maxRecDepth 100000 in
set_option maxHeartbeats 1000000 in
theorem lockFails_bad (bk : Int) (x y : BitVec 64) (a : Option Addr) (len cap : Nat) (w : World) (h : ¬ (60 : Int) < (len : Int)) (hb : Hid (bk < 0 ∨ 128 ≤ bk)) : Calls Try.prog 13 #[.agg #[.int .i64 bk, u64 x, u64 y, .slice a len cap]] w (RetB (.bool true) w) := by
  have HQ := Lib.hid (below_alloc w (.cells #[.int .i64 bk, u64 x, u64 y, .slice a len cap] 71))
  go_enter Try.func13, Try.ntmps13
  go_wp2_with fail
  refine (new_bad bk x y _ hb.out).mono ?_
  rintro e w1 ⟨rfl, hb1⟩
  have HQ1 := Lib.hid (below_step HQ.out hb1)
  clear hb1 HQ
  go_wp2_with fail
  refine (awake16_any _).mono ?_
  rintro e wz ⟨rfl, hbz⟩
  have HBZ := Lib.hid (below_step HQ1.out hbz)
  clear hbz
  go_wp2
  go_ret
  exact ⟨rfl, HBZ.out⟩
set_option maxRecDepth 100000 in
set_option maxHeartbeats 1000000 in
theorem lockFails_ok (bk : Int) (x y : BitVec 64) (a : Option Addr) (len cap : Nat) (l : List OpL) (w : World) (h : ¬ (60 : Int) < (len : Int)) (hbk : 0 ≤ bk ∧ bk < 128) (hl : l.length = len) (hs : Sl w 12 a len cap (ocs l)) : Calls Try.prog 13 #[.agg #[.int .i64 bk, u64 x, u64 y, .slice a len cap]] w (RetB (.bool true) w) := by
  have HQ : Hid (BlkAt (w.alloc (.cells #[.int .i64 bk, u64 x, u64 y, .slice a len cap] 71)) w.heap.size #[.int .i64 bk, u64 x, u64 y, .slice a len cap] ∧ Below w.heap.size w (w.alloc (.cells #[.int .i64 bk, u64 x, u64 y, .slice a len cap] 71))) := ⟨blkNew rfl, below_alloc _ _⟩
  have hnew := fun W => new_ok bk x y W hbk.1 hbk.2
  have HNEW := Lib.hid hnew
  have HS := Lib.hid hs
  have HL := Lib.hid hl
  clear hnew hs hl hbk
  go_enter Try.func13, Try.ntmps13
  go_wp2_with fail
  refine (HNEW.out _).mono ?_
  rintro e w1 ⟨rfl, hl1, hb1⟩
  have hsz : (w.alloc (.cells #[.int .i64 bk, u64 x, u64 y, .slice a len cap] 71)).heap.size = w.heap.size + 1 := by simp
  rw [hsz] at hl1 ⊢
  have HQ1 : Hid (LkW w (w.heap.size + 1 + 1) w.heap.size #[.int .i64 bk, u64 x, u64 y, .slice a len cap] ⟨bk, x, y, 1, 0, []⟩ (.slice none 0 0) w1) := ⟨hl1.out, blkBelow hb1 HQ.out.1, below_step HQ.out.2 hb1, by omega, by omega, by simp⟩
  clear hb1 HQ hsz hl1
  generalize w.heap.size + 1 + 1 = g at *
  go_upto_region 7 with (fail)
  go_loopw [5] (fun i wr => ∃ k : Nat, k ≤ len ∧ i = .int .i64 k ∧ ∃ v, Hid (LkW w g w.heap.size #[.int .i64 bk, u64 x, u64 y, .slice a len cap] (LS.run ⟨bk, x, y, 1, 0, []⟩ (l.take k)) v wr)) (fun i _ => len - (intOf i).toNat)
  case atStart => exact ⟨0, by omega, rfl, _, HQ1⟩
  case round =>
    obtain ⟨k, hk, rfl, v, HR⟩ := hrel
    clear HQ1
    by_cases hkl : k < len
    · have hkl' : (k : Int) < (len : Int) := by omega
      have hk0 : (0 : Int) ≤ (k : Int) := by omega
      have hnext := run_snoc ⟨bk, x, y, 1, 0, []⟩ l k (by have := HL.out; omega)
      obtain ⟨b, o, e, hc0⟩ := sl_op HS.out HL.out k hkl
      subst e
      generalize l.getD k OpL.zero = ob at *
      generalize LS.run ⟨bk, x, y, 1, 0, []⟩ (l.take k) = s at *
      have herr := turn_err (s := s) (o := ob)
      obtain ⟨⟨s', e'⟩, hr⟩ : ∃ r, s.turn ob = r := ⟨_, rfl⟩
      rw [hr] at hnext herr
      dsimp only at hnext herr
      have HN := Lib.hid hnext
      have HE := Lib.hid herr
      obtain ⟨c, tb, tr, td, tf, tt, tn, tag, lo, hi, place, loc⟩ := ob
      have HDO : Hid (∀ W, Hid (LkW w g w.heap.size #[.int .i64 bk, Ytgfgkgidpinmoaa.u64 x, Ytgfgkgidpinmoaa.u64 y, .slice (some ⟨b, o, none⟩) len cap] s v W) → Calls Try.prog 48 #[.pointer (some ⟨g, 0, none⟩), .agg #[b8 c, .int .i64 tb, .int .i64 tr, .int .i64 td, .int .i64 tf, .int .i64 tt, .int .i64 tn, Ytgfgkgidpinmoaa.u64 tag, .int .i64 lo, .int .i64 hi, .int .i64 place, .int .i64 loc]] W (fun e W' => e = .returned (.int .i64 e') ∧ ∃ v', Hid (LkW w g w.heap.size #[.int .i64 bk, Ytgfgkgidpinmoaa.u64 x, Ytgfgkgidpinmoaa.u64 y, .slice (some ⟨b, o, none⟩) len cap] s' v' W') ∧ Hid (Fr g v W W' ∧ Fresh W v v' ∧ (e' ≠ 0 → Below W.heap.size W W')))) := by
        intro W hW
        have := do_lw (o := ⟨c, tb, tr, td, tf, tt, tn, tag, lo, hi, place, loc⟩) hW
        rw [hr] at this
        exact this
      have HC := Lib.hid hc0
      clear hr hnext hc0 herr
      obtain ⟨c0, c1, c2, c3⟩ := four_cells HR.out.x
      go_wp2_with fail
      refine (state_lw HR).mono ?_
      rintro e w2 ⟨rfl, hw⟩
      subst w2
      go_wp2_with fail
      refine (last_lw HR).mono ?_
      rintro e w2 ⟨rfl, hw⟩
      subst w2
      go_wp2_with fail
      refine (reports_lw HR).mono ?_
      rintro e w2 ⟨a2, n2, t2, rfl, HS2, _, HR2, _⟩
      clear c0 c1 c2 c3
      obtain ⟨c0, c1, c2, c3⟩ := four_cells HR2.out.x
      have hcc : ∀ j u, (opA ⟨c, tb, tr, td, tf, tt, tn, tag, lo, hi, place, loc⟩)[j]? = some u → w2.cell? ⟨b, o + k * 12 + j, none⟩ = some u := fun j u hj => cell_keep HR2.out.lo (HC.out j u hj)
      have p0 : w2.cell? ⟨b, o + k * 12, none⟩ = some (b8 c) := hcc 0 _ rfl
      have p1 : w2.cell? ⟨b, o + k * 12 + 1, none⟩ = some (.int .i64 tb) := hcc 1 _ rfl
      have p2 : w2.cell? ⟨b, o + k * 12 + 2, none⟩ = some (.int .i64 tr) := hcc 2 _ rfl
      have p3 : w2.cell? ⟨b, o + k * 12 + 3, none⟩ = some (.int .i64 td) := hcc 3 _ rfl
      have p4 : w2.cell? ⟨b, o + k * 12 + 4, none⟩ = some (.int .i64 tf) := hcc 4 _ rfl
      have p5 : w2.cell? ⟨b, o + k * 12 + 5, none⟩ = some (.int .i64 tt) := hcc 5 _ rfl
      have p6 : w2.cell? ⟨b, o + k * 12 + 6, none⟩ = some (.int .i64 tn) := hcc 6 _ rfl
      have p7 : w2.cell? ⟨b, o + k * 12 + 7, none⟩ = some (Ytgfgkgidpinmoaa.u64 tag) := hcc 7 _ rfl
      have p8 : w2.cell? ⟨b, o + k * 12 + 8, none⟩ = some (.int .i64 lo) := hcc 8 _ rfl
      have p9 : w2.cell? ⟨b, o + k * 12 + 9, none⟩ = some (.int .i64 hi) := hcc 9 _ rfl
      have p10 : w2.cell? ⟨b, o + k * 12 + 10, none⟩ = some (.int .i64 place) := hcc 10 _ rfl
      have p11 : w2.cell? ⟨b, o + k * 12 + 11, none⟩ = some (.int .i64 loc) := hcc 11 _ rfl
      clear hcc
      go_wp2_with fail
      refine (HDO.out _ HR2).mono ?_
      rintro e w3 ⟨rfl, v', HR3, HF3⟩
      clear c0 c1 c2 c3 p0 p1 p2 p3 p4 p5 p6 p7 p8 p9 p10 p11 HDO
      by_cases he : e' = 0
      · subst he
        clear HE HF3 HS2
        go_wp2
        go_roundw
        case rel => exact ⟨k + 1, by omega, by go_num, v', by rw [HN.out]; exact HR3⟩
        case measure => simp [intOf]; omega
      · have hss := HE.out he
        subst hss
        have HS3 := rsBelow (HF3.out.2.2 he) HS2
        clear HE HF3 HS2
        go_wp2_with fail
        refine (state_lw HR3).mono ?_
        rintro e w4 ⟨rfl, hw⟩
        subst w4
        go_wp2_with fail
        refine (last_lw HR3).mono ?_
        rintro e w4 ⟨rfl, hw⟩
        subst w4
        go_wp2_with fail
        refine (reports_lw HR3).mono ?_
        rintro e w4 ⟨a4, n4, t4, rfl, HS4, _, HR4, HB4⟩
        have HS5 := rsBelow HB4.out HS3
        go_wp2_with fail
        refine (same_lw HS4 HS5 HR4.out.hn).mono ?_
        rintro e w5 ⟨rfl, HB5⟩
        have HR5 := lwBelow HB5.out HR4
        go_wp2
        go_roundw
        case rel => exact ⟨k + 1, by omega, by go_num, v', by rw [HN.out]; exact HR5⟩
        case measure => simp [intOf]; omega
    · have hkl' : ¬ (k : Int) < (len : Int) := by omega
      obtain ⟨c0, c1, c2, c3⟩ := four_cells HR.out.x
      go_wp2_with fail
      refine (awake16_any _).mono ?_
      rintro e wz ⟨rfl, hbz⟩
      have HBZ := Lib.hid (below_step HR.out.lo hbz)
      clear hbz
      go_wp2
      go_ret
      exact ⟨rfl, HBZ.out⟩
theorem lockFails_walk (bk : Int) (x y : BitVec 64) (a : Option Addr) (len cap : Nat) (l : List OpL) (w : World) (hl : l.length = len) (hs : Sl w 12 a len cap (ocs l)) : Calls Try.prog 13 #[.agg #[.int .i64 bk, u64 x, u64 y, .slice a len cap]] w (RetB (.bool true) w) := by
  by_cases h : (60 : Int) < (len : Int)
  · exact lockFails_long bk x y a len cap w h
  · by_cases hb : bk < 0 ∨ 128 ≤ bk
    · exact lockFails_bad bk x y a len cap w h hb
    · exact lockFails_ok bk x y a len cap l w h (by omega) hl hs
end Go.Proofs.Ytgfgkgidpinmoaa
