/-
  LOCKS, THE LAWS: LockApart.
-/
import Derived.Test.YtgfgkgidpinmoaaProg
import Derived.Test.YtgfgkgidpinmoaaBase3
import Derived.Test.YtgfgkgidpinmoaaBase5
import Derived.Test.YtgfgkgidpinmoaaBase6
import Derived.Test.YtgfgkgidpinmoaaBase7
import Derived.Test.YtgfgkgidpinmoaaBase14
import Derived.Test.YtgfgkgidpinmoaaTok1
import Derived.Test.YtgfgkgidpinmoaaTok3
import Derived.Test.YtgfgkgidpinmoaaLockP
import Derived.Test.YtgfgkgidpinmoaaLock1
import Derived.Test.YtgfgkgidpinmoaaLock2
import Derived.Test.YtgfgkgidpinmoaaLock3
import Derived.Test.YtgfgkgidpinmoaaLock4
import Derived.Test.YtgfgkgidpinmoaaLock5
import Derived.Test.YtgfgkgidpinmoaaLock6
import Derived.Test.YtgfgkgidpinmoaaLockQ
import Derived.Test.YtgfgkgidpinmoaaLock9
import Derived.Test.YtgfgkgidpinmoaaLock15
import Derived.Test.YtgfgkgidpinmoaaLock19
import Derived.Test.YtgfgkgidpinmoaaLock25
import Derived.Test.YtgfgkgidpinmoaaHeld
import Derived.BigQuiet
import Derived.Laws.StructEq
import Derived.StillTailTactics
import Derived.RegionTactic
import Derived.BigRegion
import Derived.Deep.RegionHeld3
import Derived.Deep.DeepCutAuto
import Derived.Deep.QuietTactic
import Derived.WalkSpells
import Derived.WalkLawsBesides
namespace Go.Proofs.Ytgfgkgidpinmoaa
open Go.RowKit
set_option linter.unusedVariables false

set_option maxRecDepth 100000 in
set_option maxHeartbeats 1000000 in
theorem lockApart_long (bk : Int) (x y : BitVec 64) (a : Option Addr) (len cap : Nat) (w : World) (h : (60 : Int) < (len : Int)) : Calls Try.prog 17 #[.agg #[.int .i64 bk, u64 x, u64 y, .slice a len cap]] w (RetB (.bool true) w) := by
  go_enter Try.func17, Try.ntmps17
  go_wp2_with fail
  refine (awake16_any _).mono ?_
  rintro e wz ⟨rfl, hbz⟩
  have HBZ := Lib.hid (below_step (below_alloc _ _) hbz)
  clear hbz
  go_wp2
  go_ret
  exact ⟨rfl, HBZ.out⟩
set_option maxRecDepth 100000 in
set_option maxHeartbeats 1000000 in
theorem lockApart_bad (bk : Int) (x y : BitVec 64) (a : Option Addr) (len cap : Nat) (w : World) (h : ¬ (60 : Int) < (len : Int)) (hb : Hid (bk < 0 ∨ 128 ≤ bk)) : Calls Try.prog 17 #[.agg #[.int .i64 bk, u64 x, u64 y, .slice a len cap]] w (RetB (.bool true) w) := by
  have HQ := Lib.hid (below_alloc w (.cells #[.int .i64 bk, u64 x, u64 y, .slice a len cap] 71))
  go_enter Try.func17, Try.ntmps17
  go_wp2_with fail
  refine (new_bad bk x y _ hb.out).mono ?_
  rintro e w1 ⟨rfl, hb1⟩
  have HQ1 := Lib.hid (below_step HQ.out hb1)
  clear hb1 HQ
  go_wp2_with fail
  refine (awake16_any _).mono ?_
  rintro e wz ⟨rfl, hbz⟩
  have HBZ := Lib.hid (below_step HQ1.out hbz)
  clear hbz
  go_wp2
  go_ret
  exact ⟨rfl, HBZ.out⟩
set_option maxRecDepth 100000 in
set_option maxHeartbeats 2000000 in
theorem lockApart_ok (bk : Int) (x y : BitVec 64) (a : Option Addr) (len cap : Nat) (l : List OpL) (w : World) (h : ¬ (60 : Int) < (len : Int)) (hbk : 0 ≤ bk ∧ bk < 128) (hl : l.length = len) (hs : Sl w 12 a len cap (ocs l)) : Calls Try.prog 17 #[.agg #[.int .i64 bk, u64 x, u64 y, .slice a len cap]] w (RetB (.bool true) w) := by
  have HQ : Hid (BlkAt (w.alloc (.cells #[.int .i64 bk, u64 x, u64 y, .slice a len cap] 71)) w.heap.size #[.int .i64 bk, u64 x, u64 y, .slice a len cap] ∧ Below w.heap.size w (w.alloc (.cells #[.int .i64 bk, u64 x, u64 y, .slice a len cap] 71))) := ⟨blkNew rfl, below_alloc _ _⟩
  have hnew := fun W => new_ok bk x y W hbk.1 hbk.2
  have HNEW := Lib.hid hnew
  have HS := Lib.hid hs
  have HL := Lib.hid hl
  clear hnew hs hl hbk
  obtain ⟨H, hH⟩ : ∃ H : Nat, H = len / 2 := ⟨_, rfl⟩
  have hq2 : (len : Int).tdiv 2 = (H : Int) := by rw [Int.tdiv_eq_ediv_of_nonneg (by omega)]; omega
  have HH := Lib.hid (show H ≤ len by omega)
  have hH60 : (H : Int) ≤ 30 := by omega
  have hwH : wrap64 (H : Int) = (H : Int) := by have := IntKind.wrap_i64 (H : Int); first | (unfold wrap64; omega) | omega
  clear hH
  go_enter Try.func17, Try.ntmps17
  go_wp2_with fail
  refine (HNEW.out _).mono ?_
  rintro e w1 ⟨rfl, hl1, hb1⟩
  have hsz : (w.alloc (.cells #[.int .i64 bk, u64 x, u64 y, .slice a len cap] 71)).heap.size = w.heap.size + 1 := by simp
  rw [hsz] at hl1 ⊢
  have HQ1 : Hid (LkW w (w.heap.size + 1 + 1) w.heap.size #[.int .i64 bk, u64 x, u64 y, .slice a len cap] ⟨bk, x, y, 1, 0, []⟩ (.slice none 0 0) w1) := ⟨hl1.out, blkBelow hb1 HQ.out.1, below_step HQ.out.2 hb1, by omega, by omega, by simp⟩
  clear hb1 HQ hsz hl1
  generalize w.heap.size + 1 + 1 = g at *
  obtain ⟨c0, c1, c2, c3⟩ := four_cells HQ1.out.x
  go_upto_region 8 with (fail)
  clear c0 c1 c2 c3
  go_loopw [6] (fun i wr => ∃ k : Nat, k ≤ H ∧ i = .int .i64 k ∧ ∃ v, Hid (LkW w g w.heap.size #[.int .i64 bk, u64 x, u64 y, .slice a len cap] (LS.run ⟨bk, x, y, 1, 0, []⟩ (l.take k)) v wr) ∧ Hid (SeqOk (LS.run ⟨bk, x, y, 1, 0, []⟩ (l.take k)).reps ∧ True)) (fun i _ => H - (intOf i).toNat)
  case atStart => exact ⟨0, by omega, rfl, _, HQ1, ⟨fun i hi => absurd hi (by simp [LS.run]), trivial⟩⟩
  case round =>
    obtain ⟨k, hk, rfl, v, HR, HQS⟩ := hrel
    clear HQ1
    by_cases hkH : k < H
    · have hkl : k < len := by have := HH.out; omega
      have hkH' : (k : Int) < (H : Int) := by omega
      have hkl' : (k : Int) < (len : Int) := by omega
      have hk0 : (0 : Int) ≤ (k : Int) := by omega
      have hnext := run_snoc ⟨bk, x, y, 1, 0, []⟩ l k (by have := HL.out; omega)
      obtain ⟨b, o, e, hc0⟩ := sl_op HS.out HL.out k hkl
      subst e
      have hseq := turn_seq (o := l.getD k OpL.zero) HQS.out.1
      have hgrow := turn_grow (LS.run ⟨bk, x, y, 1, 0, []⟩ (l.take k)) (l.getD k OpL.zero)
      generalize l.getD k OpL.zero = ob at *
      generalize LS.run ⟨bk, x, y, 1, 0, []⟩ (l.take k) = s at *
      obtain ⟨⟨s', e'⟩, hr⟩ : ∃ r, s.turn ob = r := ⟨_, rfl⟩
      rw [hr] at hnext hseq hgrow
      dsimp only at hnext hseq hgrow
      have HN := Lib.hid hnext
      have HSEQ := Lib.hid hseq
      have HG := Lib.hid hgrow
      obtain ⟨c, tb, tr, td, tf, tt, tn, tag, lo, hi, place, loc⟩ := ob
      have HDO : Hid (∀ W, Hid (LkW w g w.heap.size #[.int .i64 bk, Ytgfgkgidpinmoaa.u64 x, Ytgfgkgidpinmoaa.u64 y, .slice (some ⟨b, o, none⟩) len cap] s v W) → Calls Try.prog 48 #[.pointer (some ⟨g, 0, none⟩), .agg #[b8 c, .int .i64 tb, .int .i64 tr, .int .i64 td, .int .i64 tf, .int .i64 tt, .int .i64 tn, Ytgfgkgidpinmoaa.u64 tag, .int .i64 lo, .int .i64 hi, .int .i64 place, .int .i64 loc]] W (fun e W' => e = .returned (.int .i64 e') ∧ ∃ v', Hid (LkW w g w.heap.size #[.int .i64 bk, Ytgfgkgidpinmoaa.u64 x, Ytgfgkgidpinmoaa.u64 y, .slice (some ⟨b, o, none⟩) len cap] s' v' W') ∧ Hid (Fr g v W W' ∧ Fresh W v v' ∧ (e' ≠ 0 → Below W.heap.size W W')))) := by
        intro W hW
        have := do_lw (o := ⟨c, tb, tr, td, tf, tt, tn, tag, lo, hi, place, loc⟩) hW
        rw [hr] at this
        exact this
      have HC := Lib.hid hc0
      clear hr hnext hc0 hseq hgrow
      obtain ⟨c0, c1, c2, c3⟩ := four_cells HR.out.x
      have hcc : ∀ j u, (opA ⟨c, tb, tr, td, tf, tt, tn, tag, lo, hi, place, loc⟩)[j]? = some u → wr.cell? ⟨b, o + k * 12 + j, none⟩ = some u := fun j u hj => cell_keep HR.out.lo (HC.out j u hj)
      have p0 : wr.cell? ⟨b, o + k * 12, none⟩ = some (b8 c) := hcc 0 _ rfl
      have p1 : wr.cell? ⟨b, o + k * 12 + 1, none⟩ = some (.int .i64 tb) := hcc 1 _ rfl
      have p2 : wr.cell? ⟨b, o + k * 12 + 2, none⟩ = some (.int .i64 tr) := hcc 2 _ rfl
      have p3 : wr.cell? ⟨b, o + k * 12 + 3, none⟩ = some (.int .i64 td) := hcc 3 _ rfl
      have p4 : wr.cell? ⟨b, o + k * 12 + 4, none⟩ = some (.int .i64 tf) := hcc 4 _ rfl
      have p5 : wr.cell? ⟨b, o + k * 12 + 5, none⟩ = some (.int .i64 tt) := hcc 5 _ rfl
      have p6 : wr.cell? ⟨b, o + k * 12 + 6, none⟩ = some (.int .i64 tn) := hcc 6 _ rfl
      have p7 : wr.cell? ⟨b, o + k * 12 + 7, none⟩ = some (Ytgfgkgidpinmoaa.u64 tag) := hcc 7 _ rfl
      have p8 : wr.cell? ⟨b, o + k * 12 + 8, none⟩ = some (.int .i64 lo) := hcc 8 _ rfl
      have p9 : wr.cell? ⟨b, o + k * 12 + 9, none⟩ = some (.int .i64 hi) := hcc 9 _ rfl
      have p10 : wr.cell? ⟨b, o + k * 12 + 10, none⟩ = some (.int .i64 place) := hcc 10 _ rfl
      have p11 : wr.cell? ⟨b, o + k * 12 + 11, none⟩ = some (.int .i64 loc) := hcc 11 _ rfl
      clear hcc
      go_wp2_with fail
      refine (HDO.out _ HR).mono ?_
      rintro e w3 ⟨rfl, v', HR3, HF3⟩
      clear c0 c1 c2 c3 p0 p1 p2 p3 p4 p5 p6 p7 p8 p9 p10 p11 HDO
      go_wp2
      go_roundw
      case rel => exact ⟨k + 1, by omega, by go_num, v', by rw [HN.out]; exact HR3, by rw [HN.out]; exact ⟨HSEQ.out, trivial⟩⟩
      case measure => simp [intOf]; omega
    · have hkH' : ¬ (k : Int) < (H : Int) := by omega
      have HKH := Lib.hid (show k = H by omega)
      obtain ⟨s1, hs1⟩ : ∃ s1, LS.run ⟨bk, x, y, 1, 0, []⟩ (l.take k) = s1 := ⟨_, rfl⟩
      have HR0 := HR
      rw [hs1] at HR
      have HS1 := Lib.hid hs1
      clear hs1
      obtain ⟨wo, hwo⟩ : ∃ wo : World, wo = wr := ⟨_, rfl⟩
      subst hwo
      go_wp2_with fail
      refine (reports_rb HR).mono ?_
      rintro e w2 ⟨a1, n1, t1, rfl, HA, HR2, _⟩
      go_wp2_with fail
      refine (reports_rb HR2).mono ?_
      rintro e w3 ⟨a2, n2, t2, rfl, HA2, HR3, HB3⟩
      have HA3 := rbBelow HB3.out (Lib.hid HA.out.1)
      have HA23 := Lib.hid HA2.out.1
      clear HA HA2 HB3 HR2 HR
      go_upto_region 13 with (fail)
      go_loopw [9] (fun i wr => ∃ j : Nat, H ≤ j ∧ j ≤ len ∧ i = .int .i64 j ∧ ∃ v, Hid (LkW w g w.heap.size #[.int .i64 bk, Ytgfgkgidpinmoaa.u64 x, Ytgfgkgidpinmoaa.u64 y, .slice a len cap] (LS.run ⟨bk, x, y, 1, 0, []⟩ (l.take j)) v wr) ∧ Hid (SeqOk (LS.run ⟨bk, x, y, 1, 0, []⟩ (l.take j)).reps ∧ ∃ t, (LS.run ⟨bk, x, y, 1, 0, []⟩ (l.take j)).reps = s1.reps ++ t) ∧ Hid (RepB w g w.heap.size v a1 n1 t1 s1.reps wr) ∧ Hid (RepB w g w.heap.size v a2 n2 t2 s1.reps wr)) (fun i _ => len - (intOf i).toNat)
      case atStart => exact ⟨H, Nat.le_refl _, HH.out, rfl, v, by rw [← HKH.out, HS1.out]; exact HR3, ⟨by rw [← HKH.out]; exact HQS.out.1, [], by rw [← HKH.out, HS1.out]; simp⟩, HA3, HA23⟩
      case round =>
        obtain ⟨j, hkj, hj, rfl, v, HR, HQS, HA, HA2⟩ := hrel
        clear HR3 HA3 HA23 HR0 HS1
        by_cases hkl : j < len
        · have hkl' : (j : Int) < (len : Int) := by omega
          have hk0 : (0 : Int) ≤ (j : Int) := by omega
          have hnext := run_snoc ⟨bk, x, y, 1, 0, []⟩ l j (by have := HL.out; omega)
          obtain ⟨b, o, e, hc0⟩ := sl_op HS.out HL.out j hkl
          subst e
          have hseq := turn_seq (o := l.getD j OpL.zero) HQS.out.1
          have hgrow := turn_grow (LS.run ⟨bk, x, y, 1, 0, []⟩ (l.take j)) (l.getD j OpL.zero)
          generalize l.getD j OpL.zero = ob at *
          generalize LS.run ⟨bk, x, y, 1, 0, []⟩ (l.take j) = s at *
          obtain ⟨⟨s', e'⟩, hr⟩ : ∃ r, s.turn ob = r := ⟨_, rfl⟩
          rw [hr] at hnext hseq hgrow
          dsimp only at hnext hseq hgrow
          have HN := Lib.hid hnext
          have HSEQ := Lib.hid hseq
          have HG := Lib.hid hgrow
          obtain ⟨c, tb, tr, td, tf, tt, tn, tag, lo, hi, place, loc⟩ := ob
          have HDO : Hid (∀ W, Hid (LkW w g w.heap.size #[.int .i64 bk, Ytgfgkgidpinmoaa.u64 x, Ytgfgkgidpinmoaa.u64 y, .slice (some ⟨b, o, none⟩) len cap] s v W) → Calls Try.prog 48 #[.pointer (some ⟨g, 0, none⟩), .agg #[b8 c, .int .i64 tb, .int .i64 tr, .int .i64 td, .int .i64 tf, .int .i64 tt, .int .i64 tn, Ytgfgkgidpinmoaa.u64 tag, .int .i64 lo, .int .i64 hi, .int .i64 place, .int .i64 loc]] W (fun e W' => e = .returned (.int .i64 e') ∧ ∃ v', Hid (LkW w g w.heap.size #[.int .i64 bk, Ytgfgkgidpinmoaa.u64 x, Ytgfgkgidpinmoaa.u64 y, .slice (some ⟨b, o, none⟩) len cap] s' v' W') ∧ Hid (Fr g v W W' ∧ Fresh W v v' ∧ (e' ≠ 0 → Below W.heap.size W W')))) := by
            intro W hW
            have := do_lw (o := ⟨c, tb, tr, td, tf, tt, tn, tag, lo, hi, place, loc⟩) hW
            rw [hr] at this
            exact this
          have HC := Lib.hid hc0
          clear hr hnext hc0 hseq hgrow
          obtain ⟨c0, c1, c2, c3⟩ := four_cells HR.out.x
          have hcc : ∀ q u, (opA ⟨c, tb, tr, td, tf, tt, tn, tag, lo, hi, place, loc⟩)[q]? = some u → wr.cell? ⟨b, o + j * 12 + q, none⟩ = some u := fun q u hq => cell_keep HR.out.lo (HC.out q u hq)
          have p0 : wr.cell? ⟨b, o + j * 12, none⟩ = some (b8 c) := hcc 0 _ rfl
          have p1 : wr.cell? ⟨b, o + j * 12 + 1, none⟩ = some (.int .i64 tb) := hcc 1 _ rfl
          have p2 : wr.cell? ⟨b, o + j * 12 + 2, none⟩ = some (.int .i64 tr) := hcc 2 _ rfl
          have p3 : wr.cell? ⟨b, o + j * 12 + 3, none⟩ = some (.int .i64 td) := hcc 3 _ rfl
          have p4 : wr.cell? ⟨b, o + j * 12 + 4, none⟩ = some (.int .i64 tf) := hcc 4 _ rfl
          have p5 : wr.cell? ⟨b, o + j * 12 + 5, none⟩ = some (.int .i64 tt) := hcc 5 _ rfl
          have p6 : wr.cell? ⟨b, o + j * 12 + 6, none⟩ = some (.int .i64 tn) := hcc 6 _ rfl
          have p7 : wr.cell? ⟨b, o + j * 12 + 7, none⟩ = some (Ytgfgkgidpinmoaa.u64 tag) := hcc 7 _ rfl
          have p8 : wr.cell? ⟨b, o + j * 12 + 8, none⟩ = some (.int .i64 lo) := hcc 8 _ rfl
          have p9 : wr.cell? ⟨b, o + j * 12 + 9, none⟩ = some (.int .i64 hi) := hcc 9 _ rfl
          have p10 : wr.cell? ⟨b, o + j * 12 + 10, none⟩ = some (.int .i64 place) := hcc 10 _ rfl
          have p11 : wr.cell? ⟨b, o + j * 12 + 11, none⟩ = some (.int .i64 loc) := hcc 11 _ rfl
          clear hcc
          go_wp2_with fail
          refine (HDO.out _ HR).mono ?_
          rintro e w3 ⟨rfl, v', HR3, HF3⟩
          clear c0 c1 c2 c3 p0 p1 p2 p3 p4 p5 p6 p7 p8 p9 p10 p11 HDO
          have HA4 := rbTurn HF3.out.1 HF3.out.2.1 HA
          have HA24 := rbTurn HF3.out.1 HF3.out.2.1 HA2
          go_wp2
          go_roundw
          case rel => exact ⟨j + 1, by omega, by omega, by go_num, v', by rw [HN.out]; exact HR3, ⟨by rw [HN.out]; exact HSEQ.out, by
            obtain ⟨t, ht⟩ := HQS.out.2
            obtain ⟨t', ht'⟩ := HG.out
            exact ⟨t ++ t', by rw [HN.out, ht', ht, List.append_assoc]⟩⟩, HA4, HA24⟩
          case measure => simp [intOf]; omega
        · have hkl' : ¬ (j : Int) < (len : Int) := by omega
          generalize LS.run ⟨bk, x, y, 1, 0, []⟩ (l.take j) = s2 at *
          obtain ⟨wp, hwp⟩ : ∃ wp : World, wp = wr := ⟨_, rfl⟩
          subst hwp
          obtain ⟨c0, c1, c2, c3⟩ := four_cells HR.out.x
          have hn1 : s1.reps.length ≤ 512 := by obtain ⟨t, ht⟩ := HQS.out.2; have := HR.out.hn; rw [ht] at this; simp at this; omega
          have HN1 := Lib.hid hn1
          clear hn1
          go_wp2_with fail
          refine (same_lw (rbSl HA) (rbSl HA2) HN1.out).mono ?_
          rintro e w4 ⟨rfl, HB4⟩
          have HR4 := lwBelow HB4.out HR
          have HA4 := rbBelow HB4.out HA
          clear HA HA2 HR HB4 c0 c1 c2 c3
          go_wp2_with fail
          refine (reports_rb HR4).mono ?_
          rintro e w5 ⟨a5, n5, t5, rfl, HC5, HR5, HB5⟩
          have HA5 := rbBelow HB5.out HA4
          have HCW := cw_of (Lib.hid HC5.out.1) HA4 HC5.out.2
          have hn5 : (n5 : Int) ≤ 512 := by have := HC5.out.1.cnt; have := HR5.out.hn; omega
          clear HA4 HR4 HB5 HC5
          go_upto_region 20 with (fail)
          go_loopw [11] (fun i wr => ∃ q : Nat, q ≤ n5 ∧ i = .int .i64 q ∧ Hid (LkW w g w.heap.size #[.int .i64 bk, Ytgfgkgidpinmoaa.u64 x, Ytgfgkgidpinmoaa.u64 y, .slice a len cap] s2 v wr) ∧ Hid (RepB w g w.heap.size v a1 n1 t1 s1.reps wr) ∧ Hid (CW w g w.heap.size v a1 n1 t1 a5 n5 t5 wr)) (fun i _ => n5 - (intOf i).toNat)
          case atStart => exact ⟨0, by omega, rfl, HR5, HA5, HCW⟩
          case round =>
            obtain ⟨q, hq, rfl, HR, HA, HCW2⟩ := hrel
            clear HR5 HA5 HCW
            by_cases hql : q < n5
            · have hql' : (q : Int) < (n5 : Int) := by omega
              have hq0 : (0 : Int) ≤ (q : Int) := by omega
              obtain ⟨b5, u5, e5, hc5, hf5, hset⟩ := cw_cell HCW2 q hql
              subst e5
              have HSET := Lib.hid hset
              clear hset
              go_wp2
              go_roundw
              case rel =>
                obtain ⟨h1, h2, h3, h4, h5, h6⟩ := HSET.out (.int .i64 (-1))
                exact ⟨q + 1, by omega, by go_num, lw_set HR h2 h3 h4 h5, rb_set HA h6, h1⟩
              case measure => simp [intOf]; omega
            · have hql' : ¬ (q : Int) < (n5 : Int) := by omega
              obtain ⟨wq, hwq⟩ : ∃ wq : World, wq = wr := ⟨_, rfl⟩
              subst hwq
              go_wp2_with fail
              refine (reports_rb HR).mono ?_
              rintro e w6 ⟨a6, n6, t6, rfl, HD6, HR6, HB6⟩
              have HA6 := rbBelow HB6.out HA
              have HDS := rbSl (Lib.hid HD6.out.1)
              have hn6 := HD6.out.1.cnt
              have HN6 := Lib.hid hn6
              have hn62 : (n6 : Int) ≤ 512 := by have := HR6.out.hn; omega
              have HRUN := Lib.hid (slice6_own HD6.out.1.o)
              clear HA HR HB6 hn6 HCW2
              go_upto_region 25 with (fail)
              go_loopw [13] (fun i wr => ∃ z : Nat, z ≤ n6 ∧ i = .int .i64 z ∧ wr = w6) (fun i _ => n6 - (intOf i).toNat)
              case atStart => exact ⟨0, by omega, rfl, rfl⟩
              case round =>
                obtain ⟨z, hz, rfl, hwr⟩ := hrel
                subst wr
                by_cases hzl : z < n6
                · have hzl' : (z : Int) < (n6 : Int) := by omega
                  have hz0 : (0 : Int) ≤ (z : Int) := by omega
                  obtain ⟨b6, o6, e6, hc6⟩ := sl_rep HDS.out.1 HDS.out.2 z hzl
                  subst e6
                  have hsq := HQS.out.1 z (by have := HN6.out; omega)
                  have hcell : w6.cell? ⟨b6, o6 + z * 6, none⟩ = some (.int .i64 ((z : Int) + 1)) := by rw [← hsq]; exact hc6 0 _ rfl
                  clear hc6 hsq
                  go_wp2
                  go_roundw
                  case rel => exact ⟨z + 1, by omega, by go_num, by first | rfl | trivial⟩
                  case measure => simp [intOf]; omega
                · have hzl' : ¬ (z : Int) < (n6 : Int) := by omega
                  obtain ⟨t, ht⟩ := HQS.out.2
                  have hds := HDS.out
                  rw [ht] at hds
                  have hpf := sl_prefix (Lib.hid hds)
                  have hnA := HA6.out.cnt
                  rw [hnA] at hpf
                  have hle : (n1 : Int) ≤ (n6 : Int) := by have := hpf.2; omega
                  have hslc := HRUN.out n1 (by omega) (by have := HDS.out.1.hle; omega)
                  have HPF := Lib.hid hpf.1
                  clear hds hpf hnA ht
                  go_wp2_with fail
                  refine (same_lw HPF.out (rbSl HA6) HN1.out).mono ?_
                  rintro e w7 ⟨rfl, HB7⟩
                  have HR7 := lwBelow HB7.out HR6
                  go_wp2_with fail
                  refine (awake16_any _).mono ?_
                  rintro e wz ⟨rfl, hbz⟩
                  have HBZ := Lib.hid (below_step HR7.out.lo hbz)
                  clear hbz
                  go_wp2
                  go_ret
                  exact ⟨rfl, HBZ.out⟩
theorem lockApart_walk (bk : Int) (x y : BitVec 64) (a : Option Addr) (len cap : Nat) (l : List OpL) (w : World) (hl : l.length = len) (hs : Sl w 12 a len cap (ocs l)) : Calls Try.prog 17 #[.agg #[.int .i64 bk, Ytgfgkgidpinmoaa.u64 x, Ytgfgkgidpinmoaa.u64 y, .slice a len cap]] w (RetB (.bool true) w) := by
  by_cases h : (60 : Int) < (len : Int)
  · exact lockApart_long bk x y a len cap w h
  · by_cases hb : bk < 0 ∨ 128 ≤ bk
    · exact lockApart_bad bk x y a len cap w h hb
    · exact lockApart_ok bk x y a len cap l w h (by omega) hl hs
end Go.Proofs.Ytgfgkgidpinmoaa
