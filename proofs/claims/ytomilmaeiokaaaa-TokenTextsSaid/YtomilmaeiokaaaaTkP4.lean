/-
  TOKENS, THE REFERENCE: Parse, the whole.
-/
import Derived.Test.YtomilmaeiokaaaaProg
import Derived.Test.YtomilmaeiokaaaaBase15
import Derived.Test.YtomilmaeiokaaaaMacP
import Derived.Test.YtomilmaeiokaaaaTokP
import Derived.Test.YtomilmaeiokaaaaTkP
import Derived.Test.YtomilmaeiokaaaaTkV
import Derived.Test.YtomilmaeiokaaaaTkT
import Derived.Test.YtomilmaeiokaaaaTkX
import Derived.Test.YtomilmaeiokaaaaTkY
import Derived.Test.YtomilmaeiokaaaaTkR
import Derived.Test.YtomilmaeiokaaaaTkC2
import Derived.Test.YtomilmaeiokaaaaTkP2
import Derived.Test.YtomilmaeiokaaaaTkT2
import Derived.Test.YtomilmaeiokaaaaWire6
import Derived.Test.YtomilmaeiokaaaaWire3R
import Derived.Test.YtomilmaeiokaaaaTkP3
import Derived.Test.YtomilmaeiokaaaaTok1
import Derived.Test.YtomilmaeiokaaaaTok2
import Derived.Test.YtomilmaeiokaaaaTok2R
import Derived.Test.YtomilmaeiokaaaaHeld
import Derived.BigQuiet
import Derived.Laws.StructEq
import Derived.StillTailTactics
import Derived.RegionTactic
import Derived.BigRegion
import Derived.Deep.DeepCutAuto
import Derived.Deep.QuietTactic
import Derived.WalkSpells
import Derived.WalkLawsBesides
namespace Go.Proofs.Ytomilmaeiokaaaa
open Go.RowKit
set_option linter.unusedVariables false

/-- .. behind the numbers. -/
structure RfT (w w2 : World) (tb : Nat) (T : Array Value) (W : World) : Prop where
  r : BlkAt W w.heap.size #[.int .i64 0, .int .i64 0, .int .i64 0, .int .i64 0, .int .i64 0, .int .i64 0, .int .u64 0]
  t : BlkAt W tb T
  lo : Below w2.heap.size w2 W
  bw : Below w.heap.size w w2
  hlt : w.heap.size < w2.heap.size
  ht : w2.heap.size ≤ tb
theorem RfP.ext {w w2 : World} {l : List Int} {W W1 : World} (h : RfP w w2 l W) (hb : Below W.heap.size W W1) : RfP w w2 l W1 := ⟨blkBelow hb h.r, ownsRow_ext h.a hb, below_step h.lo hb, h.bw, h.hlt⟩
theorem keepPD {w w2 w1 : World} {l : List Int} {a0 a1 a2 a3 a4 a5 : Addr} {x0 x1 x2 x3 x4 x5 : Value} (h : w1.cell? a0 = some x0 ∧ w1.cell? a1 = some x1 ∧ w1.cell? a2 = some x2 ∧ w1.cell? a3 = some x3 ∧ w1.cell? a4 = some x4 ∧ w1.cell? a5 = some x5 ∧ Hid (RfP w w2 l w1)) : w1.drew.cell? a0 = some x0 ∧ w1.drew.cell? a1 = some x1 ∧ w1.drew.cell? a2 = some x2 ∧ w1.drew.cell? a3 = some x3 ∧ w1.drew.cell? a4 = some x4 ∧ w1.drew.cell? a5 = some x5 ∧ Hid (RfP w w2 l w1.drew) := ⟨h.1, h.2.1, h.2.2.1, h.2.2.2.1, h.2.2.2.2.1, h.2.2.2.2.2.1, Lib.hid (h.2.2.2.2.2.2.out.ext (below_drew (Below.refl _ _)))⟩
theorem keepPA {w w2 w1 : World} {l : List Int} {a0 a1 a2 a3 a4 a5 : Addr} {x0 x1 x2 x3 x4 x5 : Value} (o : Obj) (h : w1.cell? a0 = some x0 ∧ w1.cell? a1 = some x1 ∧ w1.cell? a2 = some x2 ∧ w1.cell? a3 = some x3 ∧ w1.cell? a4 = some x4 ∧ w1.cell? a5 = some x5 ∧ Hid (RfP w w2 l w1)) : (w1.alloc o).cell? a0 = some x0 ∧ (w1.alloc o).cell? a1 = some x1 ∧ (w1.alloc o).cell? a2 = some x2 ∧ (w1.alloc o).cell? a3 = some x3 ∧ (w1.alloc o).cell? a4 = some x4 ∧ (w1.alloc o).cell? a5 = some x5 ∧ Hid (RfP w w2 l (w1.alloc o)) := ⟨cell_keep (below_alloc _ _) h.1, cell_keep (below_alloc _ _) h.2.1, cell_keep (below_alloc _ _) h.2.2.1, cell_keep (below_alloc _ _) h.2.2.2.1, cell_keep (below_alloc _ _) h.2.2.2.2.1, cell_keep (below_alloc _ _) h.2.2.2.2.2.1, Lib.hid (h.2.2.2.2.2.2.out.ext (below_alloc _ _))⟩
theorem RfT.set {w w2 : World} {tb : Nat} {T : Array Value} {W : World} (h : RfT w w2 tb T W) (k : Nat) (v : Value) : RfT w w2 tb (T.setIfInBounds k v) (W.setCell ⟨tb, k, none⟩ v) :=
  ⟨blkX_other h.r (by have := h.ht; have := h.hlt; show w.heap.size ≠ tb; omega), blkX_set h.t, h.lo.setCell (p := ⟨tb, k, none⟩) h.ht v, h.bw, h.hlt, h.ht⟩
theorem RfT.drew {w w2 : World} {tb : Nat} {T : Array Value} {W : World} (h : RfT w w2 tb T W) : RfT w w2 tb T W.drew := ⟨h.r, h.t, below_drew h.lo, h.bw, h.hlt, h.ht⟩
set_option maxRecDepth 100000 in
set_option maxHeartbeats 2000000 in
theorem refParse_num (s : ByteArray) (w : World) (hs : s.data.toList.length ≤ 200) (hall : ∀ j, j < s.data.toList.length → idxA (s.data.toList.getD j 0) < 32) (l1 l2 l3 l4 l5 l6 : Int) (at_ : Nat) (hrd : rdS (decB s.data.toList) 6 = some ([l1, l2, l3, l4, l5, l6], (at_ : Int))) (X : ByteArray) (er : Int) (htx : ∀ w, Calls Try.prog 30 #[.agg #[.int .i64 l1, .int .i64 l2, .int .i64 l3, .int .i64 l4, .int .i64 l5, .int .i64 l6, Ytomilmaeiokaaaa.u64 (tagR (((decB s.data.toList).drop at_).take 8))]] w (RetB (.tuple #[.string X, .int .i64 er]) w)) : Calls Try.prog 32 #[.string s] w (RetB (if er = 0 ∧ X = s then .tuple #[.agg #[.int .i64 l1, .int .i64 l2, .int .i64 l3, .int .i64 l4, .int .i64 l5, .int .i64 l6, Ytomilmaeiokaaaa.u64 (tagR (((decB s.data.toList).drop at_).take 8))], .int .i64 0] else .tuple #[zeroTok, .int .i64 3]) w) := by
  have HD := Lib.hid (fun w => packed_ok s w hs hall)
  have hdl := decB_len s.data.toList hs
  have HQ : Hid (BlkAt (w.alloc (.cells #[.int .i64 0, .int .i64 0, .int .i64 0, .int .i64 0, .int .i64 0, .int .i64 0, .int .u64 0] 36)) w.heap.size #[.int .i64 0, .int .i64 0, .int .i64 0, .int .i64 0, .int .i64 0, .int .i64 0, .int .u64 0] ∧ Below w.heap.size w (w.alloc (.cells #[.int .i64 0, .int .i64 0, .int .i64 0, .int .i64 0, .int .i64 0, .int .i64 0, .int .u64 0] 36))) := ⟨blkNew rfl, below_alloc _ _⟩
  clear hs hall
  obtain ⟨bs, hbs⟩ : ∃ bs, decB s.data.toList = bs := ⟨_, rfl⟩
  rw [hbs] at HD hdl hrd htx ⊢
  clear hbs
  have HRD := Lib.hid hrd
  have hat := rdS_len 6 hrd
  have hatl : at_ ≤ bs.length := by have := hat.2.2.1; omega
  clear hrd hat
  obtain ⟨ds, hds⟩ : ∃ ds, (bs.drop at_).take 8 = ds := ⟨_, rfl⟩
  have hdl8 : ds.length = min 8 (bs.length - at_) := by rw [← hds]; simp
  have hget : ∀ j, j < ds.length → bs.getD (at_ + j) 0 = ds.getD j 0 := fun j hj => by
    rw [← hds]
    simp only [List.getD]
    rw [List.getElem?_take, if_pos (by omega), List.getElem?_drop]
  rw [hds] at htx ⊢
  obtain ⟨M, hM⟩ : ∃ M, ds.length = M := ⟨_, rfl⟩
  have HGET := Lib.hid hget
  have HTX := Lib.hid htx
  have HM := Lib.hid hM
  obtain ⟨R, hR⟩ : ∃ R, (if er = 0 ∧ X = s then Value.tuple #[.agg #[.int .i64 l1, .int .i64 l2, .int .i64 l3, .int .i64 l4, .int .i64 l5, .int .i64 l6, Ytomilmaeiokaaaa.u64 (tagR ds)], .int .i64 0] else .tuple #[zeroTok, .int .i64 3]) = R := ⟨_, rfl⟩
  rw [hR]
  have HRR := Lib.hid hR
  clear htx hR hget hds
  rw [hM] at hdl8
  clear hM
  obtain ⟨N, hN⟩ : ∃ N, bs.length = N := ⟨_, rfl⟩
  rw [hN] at HD hdl hdl8 hatl
  have HN := Lib.hid hN
  clear hN
  go_enter Try.func32, Try.ntmps32
  go_wp2_with fail
  refine (HD.out _).mono ?_
  rintro e w2 ⟨a2, c2, rfl, HS2, hb⟩
  have hblk2 := blkBelow hb HQ.out.1
  have hlt2 := blk_lt9 hblk2
  have hbw2 := below_step HQ.out.2 hb
  clear hb HQ
  go_wp2_with (refine wpList_make_typed i64v 0 _ rfl _ _ 23 rfl 3 (.int .i64 0) 8 Try.underlying23 infoIP rfl .i64 .i64 _ _ 6 rfl rfl rfl rfl (by omega) (by unfold maxLen; omega) ?_)
  intro w3 ho3 hb3
  have HP : Hid (RfP w w2 [] w3) := Lib.hid ⟨blkBelow (hb3.mono (Nat.le_refl _)) hblk2, ho3, hb3, hbw2, hlt2⟩
  clear ho3 hb3 hblk2 hbw2 hlt2
  go_upto_region 7 with (fail)
  go_loopw [7, 8, 9, 10, 11] (fun av i _ _ _ wr => ∃ (k : Nat) (l0 : List Int) (a0 : Int), k ≤ 6 ∧ i = .int .i64 k ∧ av = .int .i64 a0 ∧ Hid (rdS bs k = some (l0, a0)) ∧ Hid (RfP w w2 l0 wr)) (fun _ i _ _ _ _ => 6 - (intOf i).toNat)
  case atStart => exact ⟨0, [], 0, by omega, rfl, rfl, rfl, HP⟩
  case round =>
    obtain ⟨k, l0, a0, hk, rfl, rfl, HK, HR⟩ := hrel
    clear HP
    by_cases hk6 : k < 6
    · have hk6' : (k : Int) < 6 := by omega
      have hk0 : (0 : Int) ≤ (k : Int) := by omega
      obtain ⟨⟨n, nx, er'⟩, hr⟩ : ∃ r, intRes bs a0 = r := ⟨_, rfl⟩
      have HR0 := Lib.hid hr
      have hl0 := (rdS_len k HK.out).1
      have her : er' = 0 := by
        by_cases he : er' = 0
        · exact he
        · have h1 := rdS_none HK.out hr he
          have h2 := rdS_mono (k + 1) 6 h1 (by omega)
          rw [HRD.out] at h2
          cases h2
      subst her
      have HNX := Lib.hid (rdS_some HK.out hr)
      have HRS := Lib.hid (RfP.set HR.out (by omega) n)
      rw [hl0] at HRS
      obtain ⟨hc, hf, z1, z2⟩ := own_cell HR.out.a k hk6 0
      clear hr hl0 HK
      go_wp2_with fail
      refine (refInt_val (HS2.out.ext HR.out.lo) (by omega) HR0).mono ?_
      rintro e w1 ⟨rfl, hw⟩
      subst w1
      go_wp2
      go_roundw
      case rel => exact ⟨k + 1, l0 ++ [n], nx, by omega, by go_num, rfl, HNX, HRS⟩
      case measure => simp [intOf]; omega
    · have hk6' : ¬ (k : Int) < 6 := by omega
      obtain rfl : k = 6 := by omega
      have hkk := HK.out
      rw [HRD.out] at hkk
      simp only [Option.some.injEq, Prod.mk.injEq] at hkk
      obtain ⟨e1, e2⟩ := hkk
      subst e1
      subst e2
      obtain ⟨q0, f0, z1, z2⟩ := own_cell HR.out.a 0 (by omega) 0
      obtain ⟨q1, f1, _, _⟩ := own_cell HR.out.a 1 (by omega) 0
      obtain ⟨q2, f2, _, _⟩ := own_cell HR.out.a 2 (by omega) 0
      obtain ⟨q3, f3, _, _⟩ := own_cell HR.out.a 3 (by omega) 0
      obtain ⟨q4, f4, _, _⟩ := own_cell HR.out.a 4 (by omega) 0
      obtain ⟨q5, f5, _, _⟩ := own_cell HR.out.a 5 (by omega) 0
      change wr.cell? ⟨w2.heap.size, 0, none⟩ = some (.int .i64 l1) at q0
      change wr.cell? ⟨w2.heap.size, 1, none⟩ = some (.int .i64 l2) at q1
      change wr.cell? ⟨w2.heap.size, 2, none⟩ = some (.int .i64 l3) at q2
      change wr.cell? ⟨w2.heap.size, 3, none⟩ = some (.int .i64 l4) at q3
      change wr.cell? ⟨w2.heap.size, 4, none⟩ = some (.int .i64 l5) at q4
      change wr.cell? ⟨w2.heap.size, 5, none⟩ = some (.int .i64 l6) at q5
      have hat1 : (at_ : Int) ≤ 1000 := by omega
      have hat0 : (0 : Int) ≤ (at_ : Int) := by omega
      go_upto_region 14 with (fail)
      have hS6 := And.intro q0 (And.intro q1 (And.intro q2 (And.intro q3 (And.intro q4 (And.intro q5 HR)))))
      go_cut [12] (fun p wx => ∃ tb, p = .pointer (some ⟨tb, 0, none⟩) ∧ Hid (RfT w w2 tb #[.int .i64 l1, .int .i64 l2, .int .i64 l3, .int .i64 l4, .int .i64 l5, .int .i64 l6, Ytomilmaeiokaaaa.u64 (tagR (ds.take 0))] wx))
      case first =>
        go_region_held3 (fun w9 => w9.cell? ⟨w2.heap.size, 0, none⟩ = some (.int .i64 l1) ∧ w9.cell? ⟨w2.heap.size, 1, none⟩ = some (.int .i64 l2) ∧ w9.cell? ⟨w2.heap.size, 2, none⟩ = some (.int .i64 l3) ∧ w9.cell? ⟨w2.heap.size, 3, none⟩ = some (.int .i64 l4) ∧ w9.cell? ⟨w2.heap.size, 4, none⟩ = some (.int .i64 l5) ∧ w9.cell? ⟨w2.heap.size, 5, none⟩ = some (.int .i64 l6) ∧ Hid (RfP w w2 [l1, l2, l3, l4, l5, l6] w9))
          (repeat (with_reducible first | assumption | refine keepPD ?_ | refine keepPA _ ?_))
          (fail)
        all_goals
          go_wp2_with fail
          go_meet
          exact ⟨wr.heap.size, rfl, Lib.hid (RfT.drew ⟨blkOld HR.out.r, blkNew rfl, below_step HR.out.lo (below_alloc _ _), HR.out.bw, HR.out.hlt, HR.out.lo.size⟩)⟩
      case rest =>
      obtain ⟨tb, rfl, HT⟩ := hcut
      obtain ⟨W5, hW5⟩ : ∃ W, W = wc := ⟨_, rfl⟩
      subst hW5
      clear q0 q1 q2 q3 q4 q5 f0 f1 f2 f3 f4 f5 z1 z2 HR HK
      go_upto_region 16 with (fail)
      go_loopw [13] (fun i wx => ∃ j I : Nat, j ≤ M ∧ i = .int .i64 (I : Int) ∧ Hid (I = at_ + j) ∧ Hid (RfT w w2 tb #[.int .i64 l1, .int .i64 l2, .int .i64 l3, .int .i64 l4, .int .i64 l5, .int .i64 l6, Ytomilmaeiokaaaa.u64 (tagR (ds.take j))] wx)) (fun i _ => 2000 - (intOf i).toNat)
      case atStart => exact ⟨0, at_, by omega, rfl, Lib.hid rfl, HT⟩
      case round =>
        obtain ⟨j, I, hj, rfl, HI, HT1⟩ := hrel
        clear HT
        have hI0 : (0 : Int) ≤ (I : Int) := by omega
        have hIN := HI.out
        obtain ⟨t0, t1, t2, t3, t4, t5, t6⟩ := tok_cells (w := w) (E := 0) HT1.out.t
        by_cases hjM : j < M
        · have hi1 : (I : Int) < (N : Int) := by omega
          have hi2 : (I : Int) < (at_ : Int) + 8 := by omega
          have hi3 : (I : Int) < 1990 := by omega
          obtain ⟨b1, o1, e1, hc1⟩ := (HS2.out.ext HT1.out.lo).at_ I (by omega) 0
          subst e1
          have hgj := HGET.out j (by rw [HM.out]; exact hjM)
          rw [← hIN] at hgj
          rw [hgj] at hc1
          have htg := tagR_snoc ds j (by rw [HM.out]; exact hjM)
          have HTG := Lib.hid htg
          clear htg hgj
          generalize ds.getD j 0 = c at *
          have hf6 := blkX_frozen (i := 6) HT1.out.t
          have HT2 := Lib.hid (RfT.set HT1.out 6 (Ytomilmaeiokaaaa.u64 ((tagR (ds.take j) <<< (8 : Int).toNat) ||| c.toBitVec.setWidth 64)))
          generalize tagR (ds.take j) = tg at *
          have hsuc : I + 1 = at_ + (j + 1) := by omega
          have HSUC := Lib.hid hsuc
          clear hsuc hIN
          go_upto_region 18 with (fail)
          refine wp_region_still_tail 10 (by kernel_rfl) (by kernel_rfl) ?_
          simp only [List.take_succ_cons, List.take_zero, List.drop_succ_cons, List.drop_zero]
          repeat still_step
          refine wpStill_nil ?_
          go_wp2_with fail
          go_roundw
          case rel => exact ⟨j + 1, I + 1, by omega, by go_num, HSUC, by rw [HTG.out]; exact RfT.drew HT2.out⟩
          case measure => simp [intOf]; omega
        · obtain rfl : j = M := by omega
          have htk : ds.take j = ds := List.take_of_length_le (by rw [HM.out]; omega)
          have hex : (¬ (I : Int) < (N : Int)) ∨ ((I : Int) < (N : Int) ∧ ¬ (I : Int) < (at_ : Int) + 8) := by omega
          rw [htk] at t6 HT1
          clear htk hIN
          refine Or.elim hex (fun hx => ?_) (fun hx => ?_)
          all_goals
            try obtain ⟨hx, hx2⟩ := hx
            go_wp2_with fail
            refine (HTX.out _).mono ?_
            rintro e w6 ⟨rfl, hb6⟩
            have HB6 := Lib.hid (below_step (below_step HT1.out.bw HT1.out.lo) (hb6.mono (by have := HT1.out.lo.size; have := HT1.out.hlt; omega)))
            have HQ6 := Lib.hid (blkBelow hb6 HT1.out.r)
            have HT6 := Lib.hid (blkBelow hb6 HT1.out.t)
            clear hb6 t0 t1 t2 t3 t4 t5 t6 HT1
            obtain ⟨t0, t1, t2, t3, t4, t5, t6⟩ := tok_cells (w := w) (E := 0) HT6.out
            obtain ⟨z0, z1, z2, z3, z4, z5, z6⟩ := tok_cells (w := w) (E := 0) HQ6.out
            have e0 := blkX_frozen (i := 0) HQ6.out
            have e1 := blkX_frozen (i := 1) HQ6.out
            have e2 := blkX_frozen (i := 2) HQ6.out
            have e3 := blkX_frozen (i := 3) HQ6.out
            have e4 := blkX_frozen (i := 4) HQ6.out
            have e5 := blkX_frozen (i := 5) HQ6.out
            have e6 := blkX_frozen (i := 6) HQ6.out
            clear HGET HTX HM HRD HN HS2 HD HI HT6 hex hk hj hatl hdl8
            by_cases he : er = 0
            · subst he
              by_cases hXs : X = s
              · have hcmp : (X.toList == s.toList) = true := by rw [hXs]; simp
                have hRe := HRR.out
                rw [if_pos ⟨rfl, hXs⟩] at hRe
                have HRE := Lib.hid hRe.symm
                clear hRe hXs
                go_wp2_with fail
                refine bodyPost_ret (v := R) ?_ rfl ⟨rfl, ?_⟩
                · rw [HRE.out, results_cell_tmpP rfl]
                  go_simp
                · exact belowR0 HB6.out
              · have hcmp : (X.toList == s.toList) = false := by
                  rw [beq_eq_false_iff_ne]
                  intro h
                  rw [ByteArray.toList_eq, ByteArray.toList_eq] at h
                  exact hXs (ByteArray.ext (Array.toList_inj.1 h))
                have hRe := HRR.out
                rw [if_neg (fun h => hXs h.2)] at hRe
                have HRE := Lib.hid hRe.symm
                clear hRe hXs
                go_wp2_with fail
                refine bodyPost_ret (v := R) ?_ rfl ⟨rfl, ?_⟩
                · rw [HRE.out, results_cell_tmpP rfl]
                  go_simp
                · exact belowR0 HB6.out
            · have hRe := HRR.out
              rw [if_neg (fun h => he h.1)] at hRe
              have HRE := Lib.hid hRe.symm
              clear hRe
              go_wp2_with fail
              refine bodyPost_ret (v := R) ?_ rfl ⟨rfl, ?_⟩
              · rw [HRE.out, results_cell_tmpP rfl]
                go_simp
              · exact belowR0 HB6.out
end Go.Proofs.Ytomilmaeiokaaaa
