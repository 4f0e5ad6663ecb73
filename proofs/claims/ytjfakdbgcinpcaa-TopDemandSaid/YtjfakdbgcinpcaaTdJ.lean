/-
  HISTORY: Count.
-/
import Derived.Test.YtjfakdbgcinpcaaTdI
import Derived.BigQuiet
import Derived.BigRegion
import Derived.Deep.RegionHeld3
import Derived.Deep.RegionLaw
import Derived.Laws.StructEq
import Derived.StillTailTactics
import Derived.RegionTactic
import Derived.Deep.DeepCutAuto
import Derived.Deep.QuietTactic
import Derived.WalkSpells
import Derived.WalkLawsBesides
namespace Go.Proofs.Ytjfakdbgcinpcaa
open Go.RowKit
set_option linter.unusedVariables false

theorem results_cell_tmp9 {fn : Func} {p q : Tmp} {ty : TypeId} (h : fn.results = #[.cell p ty, .tmp q]) (tmps : Array Value) (P : Program) (w : World) :
    (results fn tmps).run P w = ((asAddr (tmps.getD p undef)).run P w).andThen fun a w1 => ((loadVar ty a).run P w1).andThen fun v w2 => .ok (.tuple #[v, tmps.getD q undef]) w2 := by
  simp only [results, h]
  simp [Sem.run_bind, Result.andThen]
theorem three9 {W : World} {k : Nat} {x y z : Value} (h : BlkAt W k #[x, y, z]) : W.cell? ⟨k, 0, none⟩ = some x ∧ W.cell? ⟨k, 1, none⟩ = some y ∧ W.cell? ⟨k, 2, none⟩ = some z ∧ (∀ i, W.frozen? ⟨k, i, none⟩ = false) := by
  obtain ⟨E, h⟩ := h
  refine ⟨?_, ?_, ?_, fun i => frozen_of_row _ _ _ _ _ h⟩ <;> (rw [cell_of_row _ _ _ _ _ _ h]; rfl)
theorem infoI9 : (Try.prog.info? 3).map (fun i => (i.zero, i.size, i.bytes)) = some (some (.int .i64 0), 1, 8) := by kernel_rfl
/-- The result's cell. -/
structure ResW (w W : World) : Prop where
  r : BlkAt W w.heap.size #[.int .i64 0, .slice none 0 0, .slice none 0 0]
  lo : Below w.heap.size w W
theorem resBelow {w W W' : World} (h : Hid (ResW w W)) (hb : Below W.heap.size W W') : Hid (ResW w W') := Lib.hid ⟨blkBelow hb h.out.r, below_step h.out.lo hb⟩
/-- Counts, or an error. -/
def RetCnt (st : Int) (w : World) (e : Ending) (W : World) : Prop := (∃ er : Int, er ≠ 0 ∧ e = .returned (.tuple #[.agg #[.int .i64 0, .slice none 0 0, .slice none 0 0], .int .i64 er]) ∧ Below w.heap.size w W) ∨
  (∃ (g1 g2 N : Nat) (xs ys : List Int), e = .returned (.tuple #[.agg #[.int .i64 st, .slice (some ⟨g1, 0, none⟩) N N, .slice (some ⟨g2, 0, none⟩) N N], .int .i64 0]) ∧ Hid (Sl W 1 (some ⟨g1, 0, none⟩) N N (cs i64v xs)) ∧ Hid (Sl W 1 (some ⟨g2, 0, none⟩) N N (cs i64v ys)) ∧ Below w.heap.size w W)
theorem cntMk {w W : World} {g1 g2 cb N : Nat} {X Z : Array Value} (h1 : W.heap[g1]? = some (.cells Z 3)) (h2 : W.heap[g2]? = some (.cells Z 3)) (hc : BlkAt W cb X) (hr : BlkAt W w.heap.size #[.int .i64 0, .slice none 0 0, .slice none 0 0]) (hZ : Z.toList = cs i64v (List.replicate N 0)) (hN : N ≤ maxLen) (lo : Below w.heap.size w W) (l1 : w.heap.size < g1) (l2 : w.heap.size < g2) (n1 : g1 ≠ g2) (n2 : cb ≠ g1) (n3 : cb ≠ g2) (n4 : w.heap.size ≠ g1) (n5 : w.heap.size ≠ g2) :
    Hid (CntW w g1 g2 N (List.replicate N 0) (List.replicate N 0) [(cb, X), (w.heap.size, #[.int .i64 0, .slice none 0 0, .slice none 0 0])] W) := by
  have hsz : Z.size = N := by rw [← Array.length_toList, hZ, cs_length, List.length_replicate]
  have row : ∀ g, W.heap[g]? = some (.cells Z 3) → w.heap.size < g → W.ownsRow w.heap.size 3 1 (.slice (some ⟨g, 0, none⟩) N N) N (cs i64v (List.replicate N 0)) := fun g hg hl =>
    ⟨by rw [cs_length, List.length_replicate, Nat.mul_one], .inr ⟨g, N, Z, rfl, by omega, hg, Nat.le_refl _, hN, by rw [hsz, Nat.mul_one], by rw [hZ, List.take_of_length_le (by rw [cs_length, List.length_replicate]; omega)]⟩⟩
  refine Lib.hid ⟨row g1 h1 l1, row g2 h2 l2, n1, fun p hp => ?_, lo⟩
  rcases List.mem_cons.1 hp with rfl | hp
  · exact ⟨hc, n2, n3⟩
  · obtain rfl := List.mem_singleton.1 hp
    exact ⟨hr, n4, n5⟩
theorem set3 {w W : World} {x y z : Value} (h : Below w.heap.size w W) : Below w.heap.size w (((W.setCell ⟨w.heap.size, 0, none⟩ x).setCell ⟨w.heap.size, 1, none⟩ y).setCell ⟨w.heap.size, 2, none⟩ z) := ((h.setCell (Nat.le_refl _) _).setCell (Nat.le_refl _) _).setCell (Nat.le_refl _) _
theorem make_row (s : Nat) (hs : s ≤ 32) : ∃ Z : Array Value, (∀ w, (Instr.makeSlice 34 (.int .i64 ((s : Int) * 168)) (.int .i64 ((s : Int) * 168))).run Try.prog w = .ok (.slice (some ⟨w.heap.size, 0, none⟩) (s * 168) (s * 168)) (w.alloc (.cells Z 3))) ∧ Z.toList = cs i64v (List.replicate (s * 168) 0) := by
  obtain ⟨i, hi, hz, hsz, hby⟩ := info_parts infoI9
  refine ⟨madeCells (Value.int .i64 0).cells ((s * 168) * 1), fun w => ?_, made_cs i64v 0 (.int .i64 0) rfl (s * 168)⟩
  have := run_make (P := Try.prog) (w := w) 34 3 i (.int .i64 0) Try.underlying34 hi hz .i64 .i64 ((s : Int) * 168) ((s : Int) * 168) (by omega) (by omega) (by rw [hby]; omega) (by omega)
  rw [hsz, show ((s : Int) * 168).toNat = s * 168 from by omega] at this
  exact this
theorem cnt_done {w W : World} {g1 g2 cb N : Nat} {xs ys : List Int} {x y z : Value} {X : Array Value} (h : Hid (CntW w g1 g2 N xs ys [(cb, X), (w.heap.size, #[.int .i64 0, .slice none 0 0, .slice none 0 0])] W)) :
    Hid (Hid (Sl (((W.setCell ⟨w.heap.size, 0, none⟩ x).setCell ⟨w.heap.size, 1, none⟩ y).setCell ⟨w.heap.size, 2, none⟩ z) 1 (some ⟨g1, 0, none⟩) N N (cs i64v xs)) ∧ Hid (Sl (((W.setCell ⟨w.heap.size, 0, none⟩ x).setCell ⟨w.heap.size, 1, none⟩ y).setCell ⟨w.heap.size, 2, none⟩ z) 1 (some ⟨g2, 0, none⟩) N N (cs i64v ys)) ∧ Below w.heap.size w (((W.setCell ⟨w.heap.size, 0, none⟩ x).setCell ⟨w.heap.size, 1, none⟩ y).setCell ⟨w.heap.size, 2, none⟩ z)) := by
  have hb := (cntDrop h).out.bs (w.heap.size, #[.int .i64 0, .slice none 0 0, .slice none 0 0]) (List.mem_cons_self ..)
  have n1 : (Value.slice (some ⟨g1, 0, none⟩) N N).ownBlock ≠ some w.heap.size := fun e => hb.2.1 (Option.some.inj e).symm
  have n2 : (Value.slice (some ⟨g2, 0, none⟩) N N).ownBlock ≠ some w.heap.size := fun e => hb.2.2 (Option.some.inj e).symm
  have r1 := own_off (a := ⟨w.heap.size, 2, none⟩) (u := z) (own_off (a := ⟨w.heap.size, 1, none⟩) (u := y) (own_off (a := ⟨w.heap.size, 0, none⟩) (u := x) h.out.o n1) n1) n1
  have r2 := own_off (a := ⟨w.heap.size, 2, none⟩) (u := z) (own_off (a := ⟨w.heap.size, 1, none⟩) (u := y) (own_off (a := ⟨w.heap.size, 0, none⟩) (u := x) h.out.i n2) n2) n2
  obtain ⟨a1, c1, e1, s1⟩ := sl_of_own r1
  obtain ⟨a2, c2, e2, s2⟩ := sl_of_own r2
  cases e1
  cases e2
  exact Lib.hid ⟨Lib.hid s1, Lib.hid s2, set3 h.out.lo⟩
set_option maxRecDepth 100000 in
set_option maxHeartbeats 8000000 in
theorem count_any (st : Int) (a : Option Addr) (n c : Nat) (rides : List RideL) (w : World) (hl : rides.length = n) (hs : Sl w 13 a n c (flatV rideA rides)) (hr : ∀ r ∈ rides, RideM w r ∧ r.legs.length ≤ 1000 ∧ r.pauses.length ≤ 1000) (hn : n ≤ 40) : Calls Try.prog 5 #[.int .i64 st, .slice a n c] w (RetCnt st w) := by
  have HS := Lib.hid hs
  have HL := Lib.hid hl
  have HR := Lib.hid hr
  have hn' : (n : Int) ≤ 40 := by omega
  have HW0 : Hid (ResW w (w.alloc (.cells #[.int .i64 0, .slice none 0 0, .slice none 0 0] 36))) := Lib.hid ⟨blkNew rfl, below_alloc _ _⟩
  clear hs hl hr
  by_cases hst : st < 1 ∨ 32 < st
  · have HI := Lib.hid (fun W => in_no st 1 32 W hst)
    clear hst
    go_enter Try.func5, Try.ntmps5
    go_upto_region 1 with (fail)
    generalize w.alloc (.cells #[.int .i64 0, .slice none 0 0, .slice none 0 0] 36) = W1 at *
    obtain ⟨z0, z1, z2, fz⟩ := three9 HW0.out.r
    have HLO := Lib.hid HW0.out.lo
    go_wp2_with fail
    refine (HI.out _).mono ?_
    rintro e w2 ⟨rfl, hw2⟩
    subst w2
    go_wp2_with fail
    refine bodyPost_ret (v := .tuple #[.agg #[.int .i64 0, .slice none 0 0, .slice none 0 0], .int .i64 1]) ?_ rfl (.inl ⟨1, by omega, rfl, ?_⟩)
    · rw [results_cell_tmp9 rfl]
      go_simp
    · exact set3 HLO.out
  · have hs1 : 1 ≤ st := by omega
    have hs2 : st ≤ 32 := by omega
    clear hst
    obtain ⟨s, rfl⟩ := Int.eq_ofNat_of_zero_le (show 0 ≤ st by omega)
    have HI := Lib.hid (fun W => in_yes (s : Int) 1 32 W hs1 hs2)
    go_enter Try.func5, Try.ntmps5
    go_upto_region 1 with (fail)
    generalize w.alloc (.cells #[.int .i64 0, .slice none 0 0, .slice none 0 0] 36) = W1 at *
    go_wp2_with fail
    refine (HI.out _).mono ?_
    rintro e w2 ⟨rfl, hw2⟩
    subst w2
    clear HI
    go_upto_region 6 with (fail)
    go_loopw [26] (fun i wr => ∃ k : Nat, k ≤ n ∧ i = .int .i64 (k : Int) ∧ Hid (ResW w wr)) (fun i _ => n - (intOf i).toNat)
    case atStart => exact ⟨0, by omega, rfl, HW0⟩
    case round =>
      clear HW0
      obtain ⟨k, hk, rfl, HW⟩ := hrel
      have hk0 : (0 : Int) ≤ (k : Int) := by omega
      by_cases hkn : k < n
      · have hkn' : (k : Int) < (n : Int) := by omega
        obtain ⟨bb, oo, e, hc⟩ := flat_at RideL.zero rideA 13 (by decide) (fun _ => rfl) (HS.out.ext HW.out.lo) HL.out k hkn
        subst e
        obtain ⟨hm, hm1, hm2⟩ := HR.out (rides.getD k RideL.zero) (by rw [List.getD_eq_getElem?_getD, List.getElem?_eq_getElem (by have := HL.out; omega)]; exact List.getElem_mem _)
        have HCK : Hid (∀ W, Below w.heap.size w W → Calls Try.prog 13 #[.agg (rideA (rides.getD k RideL.zero))] W (SomeE W)) := Lib.hid (fun W hb => ride_check _ W (hm.below hb) hm1 hm2)
        clear hm hm1 hm2
        generalize rides.getD k RideL.zero = r at *
        obtain ⟨x0, x1, x2, x3, x4, x5, x6, x7, x9, x8, x10, x12, x11, x13, x14, x15, x16⟩ := r
        dsimp only [rideA] at HCK
        have p0 : wr.cell? ⟨bb, oo + k * 13, none⟩ = some (.int .i64 x0) := hc 0 _ rfl
        have p1 : wr.cell? ⟨bb, oo + k * 13 + 1, none⟩ = some (.int .i64 x1) := hc 1 _ rfl
        have p2 : wr.cell? ⟨bb, oo + k * 13 + 2, none⟩ = some (.int .i64 x2) := hc 2 _ rfl
        have p3 : wr.cell? ⟨bb, oo + k * 13 + 3, none⟩ = some (.int .i64 x3) := hc 3 _ rfl
        have p4 : wr.cell? ⟨bb, oo + k * 13 + 4, none⟩ = some (.int .i64 x4) := hc 4 _ rfl
        have p5 : wr.cell? ⟨bb, oo + k * 13 + 5, none⟩ = some (.int .i64 x5) := hc 5 _ rfl
        have p6 : wr.cell? ⟨bb, oo + k * 13 + 6, none⟩ = some (.bool x6) := hc 6 _ rfl
        have p7 : wr.cell? ⟨bb, oo + k * 13 + 7, none⟩ = some (.slice x7 x8.length x9) := hc 7 _ rfl
        have p8 : wr.cell? ⟨bb, oo + k * 13 + 8, none⟩ = some (.slice x10 x11.length x12) := hc 8 _ rfl
        have p9 : wr.cell? ⟨bb, oo + k * 13 + 9, none⟩ = some (.int .i64 x13) := hc 9 _ rfl
        have p10 : wr.cell? ⟨bb, oo + k * 13 + 10, none⟩ = some (.int .i64 x14) := hc 10 _ rfl
        have p11 : wr.cell? ⟨bb, oo + k * 13 + 11, none⟩ = some (.int .i64 x15) := hc 11 _ rfl
        have p12 : wr.cell? ⟨bb, oo + k * 13 + 12, none⟩ = some (.int .i64 x16) := hc 12 _ rfl
        clear hc
        go_upto_region 8 with (fail)
        have HW1 := resBelow HW (below_alloc wr (.cells #[.int .i64 x0, .int .i64 x1, .int .i64 x2, .int .i64 x3, .int .i64 x4, .int .i64 x5, .bool x6, .slice x7 x8.length x9, .slice x10 x11.length x12, .int .i64 x13, .int .i64 x14, .int .i64 x15, .int .i64 x16] 33))
        have HX1 : Hid (BlkAt (wr.alloc (.cells #[.int .i64 x0, .int .i64 x1, .int .i64 x2, .int .i64 x3, .int .i64 x4, .int .i64 x5, .bool x6, .slice x7 x8.length x9, .slice x10 x11.length x12, .int .i64 x13, .int .i64 x14, .int .i64 x15, .int .i64 x16] 33)) wr.heap.size #[.int .i64 x0, .int .i64 x1, .int .i64 x2, .int .i64 x3, .int .i64 x4, .int .i64 x5, .bool x6, .slice x7 x8.length x9, .slice x10 x11.length x12, .int .i64 x13, .int .i64 x14, .int .i64 x15, .int .i64 x16]) := Lib.hid (blkNew rfl)
        generalize wr.alloc (.cells #[.int .i64 x0, .int .i64 x1, .int .i64 x2, .int .i64 x3, .int .i64 x4, .int .i64 x5, .bool x6, .slice x7 x8.length x9, .slice x10 x11.length x12, .int .i64 x13, .int .i64 x14, .int .i64 x15, .int .i64 x16] 33) = W2 at *
        generalize wr.heap.size = xb at *
        obtain ⟨c0, c1, c2, c3, c4, c5, c6, c7, c8, c9, c10, c11, c12⟩ := cells13 HX1.out
        clear p0 p1 p2 p3 p4 p5 p6 p7 p8 p9 p10 p11 p12 HW
        go_wp2_with fail
        refine (HCK.out _ HW1.out.lo).mono ?_
        rintro e w3 ⟨er, rfl, hb3⟩
        have HW3 := resBelow HW1 hb3
        clear c0 c1 c2 c3 c4 c5 c6 c7 c8 c9 c10 c11 c12 HX1 HW1 HCK hb3
        by_cases her : er = 0
        · subst her
          go_wp2_with fail
          go_roundw
          case rel => exact ⟨k + 1, by omega, by go_num, HW3⟩
          case measure => simp [intOf]; omega
        · have HER := Lib.hid her
          obtain ⟨z0, z1, z2, fz⟩ := three9 HW3.out.r
          have HLO := Lib.hid HW3.out.lo
          go_wp2_with fail
          refine bodyPost_ret (v := .tuple #[.agg #[.int .i64 0, .slice none 0 0, .slice none 0 0], .int .i64 er]) ?_ rfl (.inl ⟨er, HER.out, rfl, ?_⟩)
          · rw [results_cell_tmp9 rfl]
            go_simp
          · exact set3 HLO.out
      · obtain rfl : k = n := by omega
        have hkn' : ¬ (k : Int) < (k : Int) := by omega
        go_upto_region 12 with (fail)
        obtain ⟨Z, hmk, hZ⟩ := make_row s (by omega)
        have HZ := Lib.hid hZ
        have hs3 : 0 ≤ (s : Int) * 168 := by omega
        clear hZ
        generalize hN : s * 168 = N at *
        have HN := Lib.hid hN
        clear hN
        have hNm : N ≤ maxLen := by unfold maxLen; have := HN.out; omega
        have hlo9 := HW.out.lo
        have hr9 := HW.out.r
        have hsz9 : w.heap.size < wr.heap.size := hr9.elim fun E h => (Array.getElem?_eq_some_iff.1 h).1
        clear HW
        go_cut [9] (fun v wx => ∃ (cb g1 g2 : Nat) (xs ys : List Int), v = .pointer (some ⟨cb, 0, none⟩) ∧ Hid (CntW w g1 g2 N xs ys [(cb, #[.int .i64 (s : Int), .slice (some ⟨g1, 0, none⟩) N N, .slice (some ⟨g2, 0, none⟩) N N]), (w.heap.size, #[.int .i64 0, .slice none 0 0, .slice none 0 0])] wx))
        case first =>
          go_region
          all_goals
            go_wp2_with fail
            go_meet
            first | (refine ⟨wr.heap.size + 1 + 1, wr.heap.size, wr.heap.size + 1, _, _, rfl, cntMk (Z := Z) ?_ ?_ ?_ ?_ HZ.out hNm (below_drew (below_step (below_step (below_step hlo9 (below_alloc _ _)) (below_alloc _ _)) (below_alloc _ _))) ?_ ?_ ?_ ?_ ?_ ?_ ?_⟩ <;> (first | omega | (simp; done) | (simp; omega) | ((repeat (with_reducible first | assumption | refine hp_drew ?_ | (refine hp_new ?_; (focus (simp; done))) | refine hp_old ?_ | (refine blkNew ?_; (focus (simp; done))) | refine blkDrew ?_ | refine blkOld ?_)); done))) | (refine ⟨wr.heap.size + 1, wr.heap.size, wr.heap.size + 1 + 1, _, _, rfl, cntMk (Z := Z) ?_ ?_ ?_ ?_ HZ.out hNm (below_drew (below_step (below_step (below_step hlo9 (below_alloc _ _)) (below_alloc _ _)) (below_alloc _ _))) ?_ ?_ ?_ ?_ ?_ ?_ ?_⟩ <;> (first | omega | (simp; done) | (simp; omega) | ((repeat (with_reducible first | assumption | refine hp_drew ?_ | (refine hp_new ?_; (focus (simp; done))) | refine hp_old ?_ | (refine blkNew ?_; (focus (simp; done))) | refine blkDrew ?_ | refine blkOld ?_)); done))) | (refine ⟨wr.heap.size + 1 + 1, wr.heap.size + 1, wr.heap.size, _, _, rfl, cntMk (Z := Z) ?_ ?_ ?_ ?_ HZ.out hNm (below_drew (below_step (below_step (below_step hlo9 (below_alloc _ _)) (below_alloc _ _)) (below_alloc _ _))) ?_ ?_ ?_ ?_ ?_ ?_ ?_⟩ <;> (first | omega | (simp; done) | (simp; omega) | ((repeat (with_reducible first | assumption | refine hp_drew ?_ | (refine hp_new ?_; (focus (simp; done))) | refine hp_old ?_ | (refine blkNew ?_; (focus (simp; done))) | refine blkDrew ?_ | refine blkOld ?_)); done))) | (refine ⟨wr.heap.size + 1, wr.heap.size + 1 + 1, wr.heap.size, _, _, rfl, cntMk (Z := Z) ?_ ?_ ?_ ?_ HZ.out hNm (below_drew (below_step (below_step (below_step hlo9 (below_alloc _ _)) (below_alloc _ _)) (below_alloc _ _))) ?_ ?_ ?_ ?_ ?_ ?_ ?_⟩ <;> (first | omega | (simp; done) | (simp; omega) | ((repeat (with_reducible first | assumption | refine hp_drew ?_ | (refine hp_new ?_; (focus (simp; done))) | refine hp_old ?_ | (refine blkNew ?_; (focus (simp; done))) | refine blkDrew ?_ | refine blkOld ?_)); done))) | (refine ⟨wr.heap.size, wr.heap.size + 1, wr.heap.size + 1 + 1, _, _, rfl, cntMk (Z := Z) ?_ ?_ ?_ ?_ HZ.out hNm (below_drew (below_step (below_step (below_step hlo9 (below_alloc _ _)) (below_alloc _ _)) (below_alloc _ _))) ?_ ?_ ?_ ?_ ?_ ?_ ?_⟩ <;> (first | omega | (simp; done) | (simp; omega) | ((repeat (with_reducible first | assumption | refine hp_drew ?_ | (refine hp_new ?_; (focus (simp; done))) | refine hp_old ?_ | (refine blkNew ?_; (focus (simp; done))) | refine blkDrew ?_ | refine blkOld ?_)); done))) | (refine ⟨wr.heap.size, wr.heap.size + 1 + 1, wr.heap.size + 1, _, _, rfl, cntMk (Z := Z) ?_ ?_ ?_ ?_ HZ.out hNm (below_drew (below_step (below_step (below_step hlo9 (below_alloc _ _)) (below_alloc _ _)) (below_alloc _ _))) ?_ ?_ ?_ ?_ ?_ ?_ ?_⟩ <;> (first | omega | (simp; done) | (simp; omega) | ((repeat (with_reducible first | assumption | refine hp_drew ?_ | (refine hp_new ?_; (focus (simp; done))) | refine hp_old ?_ | (refine blkNew ?_; (focus (simp; done))) | refine blkDrew ?_ | refine blkOld ?_)); done)))
        case rest =>
        obtain ⟨cb, g1, g2, xs0, ys0, rfl, HC0⟩ := hcut
        have HA1 : Hid (∀ W xs ys L place at_, Hid (CntW w g1 g2 N xs ys L W) → place ≤ 9223372036854775807 → Calls Try.prog 14 #[.slice (some ⟨g1, 0, none⟩) N N, .int .i64 (s : Int), .int .i64 place, .int .i64 at_] W (fun e W' => ∃ er xs', e = .returned (.int .i64 er) ∧ Hid (CntW w g1 g2 N xs' ys L W'))) := Lib.hid (fun W xs ys L place at_ h hp => by
          have e := HN.out
          subst e
          exact add_1 h place at_ (by omega) hp)
        have HA2 : Hid (∀ W xs ys L place at_, Hid (CntW w g1 g2 N xs ys L W) → place ≤ 9223372036854775807 → Calls Try.prog 14 #[.slice (some ⟨g2, 0, none⟩) N N, .int .i64 (s : Int), .int .i64 place, .int .i64 at_] W (fun e W' => ∃ er ys', e = .returned (.int .i64 er) ∧ Hid (CntW w g1 g2 N xs ys' L W'))) := Lib.hid (fun W xs ys L place at_ h hp => by
          have e := HN.out
          subst e
          exact add_2 h place at_ (by omega) hp)
        clear hmk HZ hs3 hNm hlo9 hr9 hsz9
        go_upto_region 14 with (fail)
        go_loopw [47] (fun i wx => ∃ (j : Nat) (xs ys : List Int), j ≤ k ∧ i = .int .i64 (j : Int) ∧ Hid (CntW w g1 g2 N xs ys [(cb, #[.int .i64 (s : Int), .slice (some ⟨g1, 0, none⟩) N N, .slice (some ⟨g2, 0, none⟩) N N]), (w.heap.size, #[.int .i64 0, .slice none 0 0, .slice none 0 0])] wx)) (fun i _ => k - (intOf i).toNat)
        case atStart => exact ⟨0, _, _, by omega, rfl, HC0⟩
        case round =>
          clear HC0
          obtain ⟨j, xs, ys, hj, rfl, HC⟩ := hrel
          have hj0 : (0 : Int) ≤ (j : Int) := by omega
          by_cases hjk : j < k
          · have hjk' : (j : Int) < (k : Int) := by omega
            obtain ⟨bb, oo, e, hc⟩ := flat_at RideL.zero rideA 13 (by decide) (fun _ => rfl) (HS.out.ext HC.out.lo) HL.out j hjk
            subst e
            obtain ⟨hm, _, _⟩ := HR.out (rides.getD j RideL.zero) (by rw [List.getD_eq_getElem?_getD, List.getElem?_eq_getElem (by have := HL.out; omega)]; exact List.getElem_mem _)
            have hmf := hm.f
            have hmt := hm.t
            clear hm
            generalize rides.getD j RideL.zero = r at *
            obtain ⟨x0, x1, x2, x3, x4, x5, x6, x7, x9, x8, x10, x12, x11, x13, x14, x15, x16⟩ := r
            dsimp only at hmf hmt
            have HMF := Lib.hid hmf
            have HMT := Lib.hid hmt
            clear hmf hmt
            have p0 : wr.cell? ⟨bb, oo + j * 13, none⟩ = some (.int .i64 x0) := hc 0 _ rfl
            have p1 : wr.cell? ⟨bb, oo + j * 13 + 1, none⟩ = some (.int .i64 x1) := hc 1 _ rfl
            have p2 : wr.cell? ⟨bb, oo + j * 13 + 2, none⟩ = some (.int .i64 x2) := hc 2 _ rfl
            have p3 : wr.cell? ⟨bb, oo + j * 13 + 3, none⟩ = some (.int .i64 x3) := hc 3 _ rfl
            have p4 : wr.cell? ⟨bb, oo + j * 13 + 4, none⟩ = some (.int .i64 x4) := hc 4 _ rfl
            have p5 : wr.cell? ⟨bb, oo + j * 13 + 5, none⟩ = some (.int .i64 x5) := hc 5 _ rfl
            have p6 : wr.cell? ⟨bb, oo + j * 13 + 6, none⟩ = some (.bool x6) := hc 6 _ rfl
            have p7 : wr.cell? ⟨bb, oo + j * 13 + 7, none⟩ = some (.slice x7 x8.length x9) := hc 7 _ rfl
            have p8 : wr.cell? ⟨bb, oo + j * 13 + 8, none⟩ = some (.slice x10 x11.length x12) := hc 8 _ rfl
            have p9 : wr.cell? ⟨bb, oo + j * 13 + 9, none⟩ = some (.int .i64 x13) := hc 9 _ rfl
            have p10 : wr.cell? ⟨bb, oo + j * 13 + 10, none⟩ = some (.int .i64 x14) := hc 10 _ rfl
            have p11 : wr.cell? ⟨bb, oo + j * 13 + 11, none⟩ = some (.int .i64 x15) := hc 11 _ rfl
            have p12 : wr.cell? ⟨bb, oo + j * 13 + 12, none⟩ = some (.int .i64 x16) := hc 12 _ rfl
            clear hc
            go_upto_region 16 with (fail)
            have HC1 := cntAdd (E := 33) (X := #[.int .i64 x0, .int .i64 x1, .int .i64 x2, .int .i64 x3, .int .i64 x4, .int .i64 x5, .bool x6, .slice x7 x8.length x9, .slice x10 x11.length x12, .int .i64 x13, .int .i64 x14, .int .i64 x15, .int .i64 x16]) HC
            generalize wr.alloc (.cells #[.int .i64 x0, .int .i64 x1, .int .i64 x2, .int .i64 x3, .int .i64 x4, .int .i64 x5, .bool x6, .slice x7 x8.length x9, .slice x10 x11.length x12, .int .i64 x13, .int .i64 x14, .int .i64 x15, .int .i64 x16] 33) = W2 at *
            generalize wr.heap.size = xb at *
            obtain ⟨c0, c1, c2, c3, c4, c5, c6, c7, c8, c9, c10, c11, c12⟩ := cells13 (cntHead HC1)
            obtain ⟨q0, q1, q2, _⟩ := three9 (cntHead (cntDrop HC1))
            clear p0 p1 p2 p3 p4 p5 p6 p7 p8 p9 p10 p11 p12 HC
            by_cases hf : x13 = 1
            · have hdf : decide (x13 = 1) = true := decide_eq_true hf
              go_wp2_with fail
              refine (HA1.out _ _ _ _ _ _ HC1 HMF.out).mono ?_
              rintro e w5 ⟨er, xs5, rfl, HC5⟩
              clear c0 c1 c2 c3 c4 c5 c6 c7 c8 c9 c10 c11 c12 q0 q1 q2 HC1
              by_cases her : er = 0
              · subst her
                obtain ⟨c0, c1, c2, c3, c4, c5, c6, c7, c8, c9, c10, c11, c12⟩ := cells13 (cntHead HC5)
                obtain ⟨q0, q1, q2, _⟩ := three9 (cntHead (cntDrop HC5))
                by_cases hw : x15 = 1
                · have hdw : decide (x15 = 1) = true := decide_eq_true hw
                  go_wp2_with fail
                  refine (HA2.out _ _ _ _ _ _ HC5 HMT.out).mono ?_
                  rintro e w6 ⟨er2, ys6, rfl, HC6⟩
                  clear c0 c1 c2 c3 c4 c5 c6 c7 c8 c9 c10 c11 c12 q0 q1 q2 HC5
                  by_cases her2 : er2 = 0
                  · subst her2
                    go_wp2_with fail
                    go_roundw
                    case rel => exact ⟨j + 1, _, _, by omega, by go_num, cntDrop HC6⟩
                    case measure => simp [intOf]; omega
                  · have HER2 := Lib.hid her2
                    obtain ⟨z0, z1, z2, fz⟩ := three9 (cntHead (cntDrop (cntDrop HC6)))
                    have HLO := Lib.hid HC6.out.lo
                    go_wp2_with fail
                    refine bodyPost_ret (v := .tuple #[.agg #[.int .i64 0, .slice none 0 0, .slice none 0 0], .int .i64 er2]) ?_ rfl (.inl ⟨er2, HER2.out, rfl, ?_⟩)
                    · rw [results_cell_tmp9 rfl]
                      go_simp
                    · exact set3 HLO.out
                · go_wp2_with fail
                  go_roundw
                  case rel => exact ⟨j + 1, _, _, by omega, by go_num, cntDrop HC5⟩
                  case measure => simp [intOf]; omega
              · have HER := Lib.hid her
                obtain ⟨z0, z1, z2, fz⟩ := three9 (cntHead (cntDrop (cntDrop HC5)))
                have HLO := Lib.hid HC5.out.lo
                go_wp2_with fail
                refine bodyPost_ret (v := .tuple #[.agg #[.int .i64 0, .slice none 0 0, .slice none 0 0], .int .i64 er]) ?_ rfl (.inl ⟨er, HER.out, rfl, ?_⟩)
                · rw [results_cell_tmp9 rfl]
                  go_simp
                · exact set3 HLO.out
            · have HC5 := HC1
              clear HC1
              by_cases hw : x15 = 1
              · have hdw : decide (x15 = 1) = true := decide_eq_true hw
                go_wp2_with fail
                refine (HA2.out _ _ _ _ _ _ HC5 HMT.out).mono ?_
                rintro e w6 ⟨er2, ys6, rfl, HC6⟩
                clear c0 c1 c2 c3 c4 c5 c6 c7 c8 c9 c10 c11 c12 q0 q1 q2 HC5
                by_cases her2 : er2 = 0
                · subst her2
                  go_wp2_with fail
                  go_roundw
                  case rel => exact ⟨j + 1, _, _, by omega, by go_num, cntDrop HC6⟩
                  case measure => simp [intOf]; omega
                · have HER2 := Lib.hid her2
                  obtain ⟨z0, z1, z2, fz⟩ := three9 (cntHead (cntDrop (cntDrop HC6)))
                  have HLO := Lib.hid HC6.out.lo
                  go_wp2_with fail
                  refine bodyPost_ret (v := .tuple #[.agg #[.int .i64 0, .slice none 0 0, .slice none 0 0], .int .i64 er2]) ?_ rfl (.inl ⟨er2, HER2.out, rfl, ?_⟩)
                  · rw [results_cell_tmp9 rfl]
                    go_simp
                  · exact set3 HLO.out
              · go_wp2_with fail
                go_roundw
                case rel => exact ⟨j + 1, _, _, by omega, by go_num, cntDrop HC5⟩
                case measure => simp [intOf]; omega
          · obtain rfl : j = k := by omega
            have hjk' : ¬ (j : Int) < (j : Int) := by omega
            obtain ⟨q0, q1, q2, _⟩ := three9 (cntHead HC)
            obtain ⟨z0, z1, z2, fz⟩ := three9 (cntHead (cntDrop HC))
            have HF := cnt_done (x := .int .i64 (s : Int)) (y := .slice (some ⟨g1, 0, none⟩) N N) (z := .slice (some ⟨g2, 0, none⟩) N N) HC
            go_wp2
            refine bodyPost_ret (v := .tuple #[.agg #[.int .i64 (s : Int), .slice (some ⟨g1, 0, none⟩) N N, .slice (some ⟨g2, 0, none⟩) N N], .int .i64 0]) ?_ rfl (.inr ⟨g1, g2, N, xs, ys, rfl, HF.out.1, HF.out.2.1, HF.out.2.2⟩)
            rw [results_cell_tmp9 rfl]
            go_simp
end Go.Proofs.Ytjfakdbgcinpcaa
