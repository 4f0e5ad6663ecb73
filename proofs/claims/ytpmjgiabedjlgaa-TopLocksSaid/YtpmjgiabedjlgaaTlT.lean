/-
  LOCKS OVER A LINK: TopLocks.
-/
import Derived.Test.YtpmjgiabedjlgaaTlA
import Derived.Test.YtpmjgiabedjlgaaTlP
import Derived.Test.YtpmjgiabedjlgaaTlE
import Derived.Test.YtpmjgiabedjlgaaTlS
import Derived.Test.YtpmjgiabedjlgaaTlL
import Derived.Test.YtpmjgiabedjlgaaTlW
import Derived.Test.YtpmjgiabedjlgaaBase14
import Derived.BigQuiet
import Derived.IntWalk
import Derived.Laws.StructEq
import Derived.StillTailTactics
import Derived.RegionTactic
import Derived.Deep.DeepCutAuto
import Derived.Deep.QuietTactic
import Derived.WalkSpells
import Derived.WalkLawsBesides
namespace Go.Proofs.Ytpmjgiabedjlgaa
open Go.RowKit
set_option linter.unusedVariables false

set_option maxRecDepth 100000 in
set_option maxHeartbeats 4000000 in
theorem topLocks_out (ka kb : BitVec 64) (a : Option Addr) (len cap : Nat) (a2 : Option Addr) (len2 cap2 : Nat) (base ppm : Int) (w : World) (h : ¬ (¬ (12 : Int) < (len : Int) ∧ ¬ (8 : Int) < (len2 : Int) ∧ ¬ base < 0 ∧ ¬ (1000000 : Int) < base ∧ ¬ ppm < 0 ∧ ¬ (100000 : Int) < ppm)) : Calls Try.prog 4 #[.agg #[Ytpmjgiabedjlgaa.u64 ka, Ytpmjgiabedjlgaa.u64 kb], .slice a len cap, .slice a2 len2 cap2, .int .i64 base, .int .i64 ppm] w (RetB (.bool true) w) := by
  have H := Lib.hid h
  clear h
  by_cases h1 : (12 : Int) < (len : Int)
  · go_enter Try.func4, Try.ntmps4
    go_wp2_with fail
    refine (lockAwake_any _).mono ?_
    rintro e wz ⟨rfl, hbz⟩
    have HBZ := Lib.hid (below_step (below_alloc w _) hbz)
    clear hbz
    go_wp2
    go_ret
    exact ⟨rfl, HBZ.out⟩
  by_cases h2 : (8 : Int) < (len2 : Int)
  · go_enter Try.func4, Try.ntmps4
    go_wp2_with fail
    refine (lockAwake_any _).mono ?_
    rintro e wz ⟨rfl, hbz⟩
    have HBZ := Lib.hid (below_step (below_alloc w _) hbz)
    clear hbz
    go_wp2
    go_ret
    exact ⟨rfl, HBZ.out⟩
  by_cases h3 : base < 0
  · go_enter Try.func4, Try.ntmps4
    go_wp2_with fail
    refine (lockAwake_any _).mono ?_
    rintro e wz ⟨rfl, hbz⟩
    have HBZ := Lib.hid (below_step (below_alloc w _) hbz)
    clear hbz
    go_wp2
    go_ret
    exact ⟨rfl, HBZ.out⟩
  by_cases h4 : (1000000 : Int) < base
  · go_enter Try.func4, Try.ntmps4
    go_wp2_with fail
    refine (lockAwake_any _).mono ?_
    rintro e wz ⟨rfl, hbz⟩
    have HBZ := Lib.hid (below_step (below_alloc w _) hbz)
    clear hbz
    go_wp2
    go_ret
    exact ⟨rfl, HBZ.out⟩
  by_cases h5 : ppm < 0
  · go_enter Try.func4, Try.ntmps4
    go_wp2_with fail
    refine (lockAwake_any _).mono ?_
    rintro e wz ⟨rfl, hbz⟩
    have HBZ := Lib.hid (below_step (below_alloc w _) hbz)
    clear hbz
    go_wp2
    go_ret
    exact ⟨rfl, HBZ.out⟩
  by_cases h6 : (100000 : Int) < ppm
  · go_enter Try.func4, Try.ntmps4
    go_wp2_with fail
    refine (lockAwake_any _).mono ?_
    rintro e wz ⟨rfl, hbz⟩
    have HBZ := Lib.hid (below_step (below_alloc w _) hbz)
    clear hbz
    go_wp2
    go_ret
    exact ⟨rfl, HBZ.out⟩
  exact absurd ⟨h1, h2, h3, h4, h5, h6⟩ H.out
theorem repOk_i64 {loc : Int} {i : Nat} {x : Rep} (h : RepOk loc i x) (hl : loc ≤ 3060) (hi : i < 12) : I64s (enL x) := by
  obtain ⟨h1, h2, h3, h4, h5, h6⟩ := h
  intro n hn
  simp only [enL, List.mem_cons, List.not_mem_nil, or_false] at hn
  rcases hn with rfl | rfl | rfl | rfl | rfl | rfl <;> omega
def RetN (n : Nat) (l : List Rep) (W : World) (e : Ending) (W' : World) : Prop := ∃ a c, e = .returned (.tuple #[.slice a n c, .bool true]) ∧ Hid (Sl W' 6 a n c (rcs l)) ∧ Below W.heap.size W W'
theorem retN {n : Nat} {l : List Rep} {W W' : World} {e : Ending} (hn : l.length = n) (h : RetReps l W e W') : RetN n l W e W' := by subst hn; exact h
theorem countP_take (l : List Rep) (k : Nat) (hk : k < l.length) : (l.take (k + 1)).countP is3 = (l.take k).countP is3 + (if (l.getD k repZ6).2.2.1 = 3 then 1 else 0) := by
  rw [List.take_add_one, List.getElem?_eq_getElem hk, List.countP_append, List.getD_eq_getElem?_getD, List.getElem?_eq_getElem hk]
  by_cases e : l[k].2.2.1 = 3 <;> simp [is3, e]
set_option maxRecDepth 100000 in
set_option maxHeartbeats 8000000 in
theorem topLocks_in (ka kb : BitVec 64) (a : Option Addr) (len cap : Nat) (l : List StepL) (a2 : Option Addr) (len2 cap2 : Nat) (losses : List UInt8) (base ppm : Int) (w : World) (hl : l.length = len) (hs : Sl w 5 a len cap (flatV stA l)) (hs2 : Sl w 1 a2 len2 cap2 (cs b8 losses)) (h1 : ¬ (12 : Int) < (len : Int)) (h2 : ¬ (8 : Int) < (len2 : Int)) (h3 : ¬ base < 0) (h4 : ¬ (1000000 : Int) < base) (h5 : ¬ ppm < 0) (h6 : ¬ (100000 : Int) < ppm) : Calls Try.prog 4 #[.agg #[Ytpmjgiabedjlgaa.u64 ka, Ytpmjgiabedjlgaa.u64 kb], .slice a len cap, .slice a2 len2 cap2, .int .i64 base, .int .i64 ppm] w (RetB (.bool true) w) := by
  have HS := Lib.hid hs
  have HS2 := Lib.hid hs2
  have HL := Lib.hid hl
  have hri := runI ka kb l len
  have hct := run_count ka kb l len
  have HLK : Hid (∀ W, Below w.heap.size w W → Calls Try.prog 14 #[.agg #[Ytpmjgiabedjlgaa.u64 ka, Ytpmjgiabedjlgaa.u64 kb], .slice a len cap] W (RetN (runT ⟨3, ka, kb, 1, 0, []⟩ l len).reps.length (runT ⟨3, ka, kb, 1, 0, []⟩ l len).reps W)) := Lib.hid (fun W hb => (locked_any ka kb a len cap l W hl (hs.ext hb) (by omega)).mono (fun e W' h => retN rfl h))
  have hlc := locT_le l len
  have hn := hri.len
  have hok := hri.ok
  clear hri hs hs2 hl
  generalize (runT ⟨3, ka, kb, 1, 0, []⟩ l len).reps = reps at *
  obtain ⟨n, hN⟩ : ∃ n, reps.length = n := ⟨_, rfl⟩
  rw [hN] at HLK
  have hn12 : n ≤ 12 := by omega
  have HOK : Hid (∀ j, j < n → RepOk 3060 j (reps.getD j repZ6)) := Lib.hid (fun j hj => by
    obtain ⟨q1, q2, q3⟩ := hok j (by omega)
    exact ⟨q1, ⟨q2.1, by omega⟩, q3⟩)
  have HCT := Lib.hid hct
  have HN := Lib.hid hN
  have HDV : Hid (∀ W a c, Sl W 6 a n c (rcs reps) → Below w.heap.size w W → Calls Try.prog 15 #[.slice a n c, .slice a2 len2 cap2] W (RetN n reps W)) := Lib.hid (fun W a c hs hb => (delivered_any reps a n c losses a2 len2 cap2 W hN hs hn12 (fun x hx => by
    obtain ⟨i, hi, e⟩ := List.getElem_of_mem hx
    have := HOK.out i (by omega)
    rw [List.getD_eq_getElem?_getD, List.getElem?_eq_getElem hi] at this
    rw [← e]
    exact repOk_i64 this (Int.le_refl _) (by omega)) (HS2.out.ext hb) (by omega)).mono (fun e W' h => retN hN h))
  clear hct hN hlc hn hok
  go_enter Try.func4, Try.ntmps4
  go_wp2_with fail
  refine (HLK.out _ (below_alloc _ _)).mono ?_
  rintro e w2 ⟨ra, rc, rfl, hr2, hb2⟩
  have HB2 := Lib.hid (below_step (below_alloc w _) hb2)
  clear hb2 HLK
  go_wp2_with fail
  refine (HDV.out _ ra rc hr2.out HB2.out).mono ?_
  rintro e w3 ⟨da, dc, rfl, hd3, hb3⟩
  have HB3 := Lib.hid (below_step HB2.out hb3)
  have HR3 := Lib.hid (hr2.out.ext hb3)
  clear hb3 hr2 HB2 HDV
  have HSM := sameT_any reps reps da ra n dc n rc w3 hd3.out HR3.out HN.out HN.out (by omega)
  rw [decide_eq_true rfl] at HSM
  have HSM2 := Lib.hid HSM
  clear HSM
  go_wp2_with fail
  refine HSM2.out.mono ?_
  rintro e w4 ⟨rfl, hb4⟩
  have HB4 := Lib.hid (below_step HB3.out hb4)
  have HR4 := Lib.hid (HR3.out.ext hb4)
  clear hb4 HR3 HB3 hd3 HSM2
  go_upto_region 11 with (fail)
  go_loopw [14, 15] (fun u i wr => ∃ k : Nat, k ≤ n ∧ i = .int .i64 (k : Int) ∧ u = .int .i64 (((reps.take k).countP is3 : Nat) : Int) ∧ Hid (Below w4.heap.size w4 wr)) (fun _ i _ => n - (intOf i).toNat)
  case atStart => exact ⟨0, by omega, rfl, rfl, Lib.hid (Below.refl _ _)⟩
  case round =>
    obtain ⟨k, hk, rfl, rfl, HB⟩ := hrel
    have hk0 : (0 : Int) ≤ (k : Int) := by omega
    by_cases hkn : k < n
    · have hkn' : (k : Int) < (n : Int) := by omega
      have hcl : (reps.take k).countP is3 ≤ k := Nat.le_trans List.countP_le_length (by rw [List.length_take]; omega)
      have HCN : Hid ((reps.take (k + 1)).countP is3 = (reps.take k).countP is3 + (if (reps.getD k repZ6).2.2.1 = 3 then 1 else 0)) := Lib.hid (countP_take reps k (by have := HN.out; omega))
      generalize (reps.take k).countP is3 = ct at *
      have hct0 : (0 : Int) ≤ (ct : Int) := by omega
      have hct9 : (ct : Int) ≤ 12 := by omega
      obtain ⟨bb, oo, e, hc⟩ := sl_rep (HR4.out.ext HB.out) HN.out k hkn
      subst e
      obtain ⟨q1, q2, q3, q4, q5, q6⟩ := HOK.out k hkn
      change ∀ (j : Nat) v, (repA (reps.getD k repZ6))[j]? = some v → _ at hc
      generalize reps.getD k repZ6 = x at *
      obtain ⟨x1, x2, x3, x4, x5, x6⟩ := x
      dsimp only at q1 q2 q3 q4 q5 q6 HCN
      subst q1
      have p0 : wr.cell? ⟨bb, oo + k * 6, none⟩ = some (.int .i64 ((k : Int) + 1)) := hc 0 _ rfl
      have p1 : wr.cell? ⟨bb, oo + k * 6 + 1, none⟩ = some (.int .i64 x2) := hc 1 _ rfl
      have p2 : wr.cell? ⟨bb, oo + k * 6 + 2, none⟩ = some (.int .i64 x3) := hc 2 _ rfl
      have p3 : wr.cell? ⟨bb, oo + k * 6 + 3, none⟩ = some (.int .i64 x4) := hc 3 _ rfl
      have p4 : wr.cell? ⟨bb, oo + k * 6 + 4, none⟩ = some (.int .i64 x5) := hc 4 _ rfl
      have p5 : wr.cell? ⟨bb, oo + k * 6 + 5, none⟩ = some (.int .i64 x6) := hc 5 _ rfl
      clear hc
      obtain ⟨q2a, q2b⟩ := q2
      have HFR : Hid (∀ W b, BlkAt W b #[.int .i64 0, .int .i64 base, .int .i64 base] → Calls Try.prog 17 #[.int .i64 9, .int .i64 3, .agg #[.int .i64 ((k : Int) + 1), .int .i64 x2, .int .i64 x3, .int .i64 x4, .int .i64 x5, .int .i64 x6], .slice (some ⟨b, 0, none⟩) 1 1, .int .i64 ppm] W
          (RetB (.tuple #[.agg #[.int .i64 9, .int .i64 ((k : Int) + 1), .int .i64 (base + elLo x2 ppm), .int .i64 (base + elHi x2 ppm), .int .i64 x3, .int .i64 3, .int .i64 x4, .int .i64 x5, .int .i64 x6], .int .i64 0]) W)) := Lib.hid (fun W b h => fromReport_any b base ppm ((k : Int) + 1) x2 x3 x4 x5 x6 W (Lib.hid h) (by omega) (by omega) (by omega) (by omega) q2a (by omega) q3 (by omega) (by omega))
      have hX : base + elLo x2 ppm ≤ base + x2 := by have := elLo_le x2 ppm q2a (by omega); omega
      have hY : base + x2 ≤ base + elHi x2 ppm := by have := elHi_ge x2 ppm q2a (by omega) (by omega) (by omega); omega
      generalize base + elLo x2 ppm = X at *
      generalize base + elHi x2 ppm = Y at *
      clear q3 q4 q5 q6
      go_wp2_with fail
      refine (HFR.out _ _ (blkNew rfl)).mono ?_
      rintro e w5 ⟨rfl, hb5⟩
      have hb6 := below_step (below_step (below_alloc wr (.cells #[.int .i64 0, .int .i64 base, .int .i64 base] 47)) hb5) (below_alloc w5 (.cells #[.int .i64 9, .int .i64 ((k : Int) + 1), .int .i64 X, .int .i64 Y, .int .i64 x3, .int .i64 3, .int .i64 x4, .int .i64 x5, .int .i64 x6] 40))
      have HB6 := Lib.hid (below_step HB.out hb6)
      have HE6 : Hid (BlkAt (w5.alloc (.cells #[.int .i64 9, .int .i64 ((k : Int) + 1), .int .i64 X, .int .i64 Y, .int .i64 x3, .int .i64 3, .int .i64 x4, .int .i64 x5, .int .i64 x6] 40)) w5.heap.size #[.int .i64 9, .int .i64 ((k : Int) + 1), .int .i64 X, .int .i64 Y, .int .i64 x3, .int .i64 3, .int .i64 x4, .int .i64 x5, .int .i64 x6]) := Lib.hid (blkNew rfl)
      have p1' := cell_keep hb6 p1
      clear p0 p1 p2 p3 p4 p5 hb5 hb6 HB HFR
      go_upto_region 14 with (fail)
      generalize w5.alloc (.cells #[.int .i64 9, .int .i64 ((k : Int) + 1), .int .i64 X, .int .i64 Y, .int .i64 x3, .int .i64 3, .int .i64 x4, .int .i64 x5, .int .i64 x6] 40) = W6 at *
      generalize w5.heap.size = xb at *
      obtain ⟨e0, e1, e2, e3, e4, e5, e6, e7, e8⟩ := nine_cells HE6.out
      have hw1 : IntKind.i64.wrap ((k : Int) + 1) = (k : Int) + 1 := IntWalk.i64_in _ (by omega)
      have hw2 : IntKind.i64.wrap (base + x2) = base + x2 := IntWalk.i64_in _ (by omega)
      have hd1 : decide (base + x2 < X) = false := decide_eq_false (by omega)
      have hd2 : decide (Y < base + x2) = false := decide_eq_false (by omega)
      go_quiet (fail)
      clear hw1 hw2 hd1 hd2
      by_cases hx3 : x3 = 3
      · rw [if_pos hx3] at HCN
        subst hx3
        go_wp2_with fail
        go_roundw
        case rel => exact ⟨k + 1, by omega, by go_num, by rw [HCN.out]; go_num, by exact Lib.hid (below_drewN HB6.out _)⟩
        case measure => simp [intOf]; omega
      · rw [if_neg hx3] at HCN
        go_wp2_with fail
        go_roundw
        case rel => exact ⟨k + 1, by omega, by go_num, by rw [HCN.out]; go_num, by exact Lib.hid (below_drewN HB6.out _)⟩
        case measure => simp [intOf]; omega
    · obtain rfl : k = n := by omega
      have hkn' : ¬ (k : Int) < (k : Int) := by omega
      have hct : (reps.take k).countP is3 ≤ numsN l len := by
        rw [List.take_of_length_le (by have := HN.out; omega)]
        exact HCT.out
      have hB : Below w.heap.size w wr := below_step HB4.out HB.out
      have HNM := Lib.hid (numbers_steps a len cap l wr HL.out (HS.out.ext hB) (by omega))
      have HBW := Lib.hid hB
      generalize (reps.take k).countP is3 = ct at *
      generalize numsN l len = m at *
      have hle : (ct : Int) ≤ (m : Int) := by omega
      clear hB hct HCT HB
      go_wp2_with fail
      refine HNM.out.mono ?_
      rintro e w6 ⟨rfl, hb6⟩
      have HB6 := Lib.hid (below_step HBW.out hb6)
      clear hb6 HNM HBW
      go_wp2_with fail
      refine (lockAwake_any _).mono ?_
      rintro e wz ⟨rfl, hbz⟩
      have HBZ := Lib.hid (below_step HB6.out hbz)
      clear hbz
      go_wp2
      go_ret
      exact ⟨rfl, HBZ.out⟩
theorem topLocks_walk (ka kb : BitVec 64) (a : Option Addr) (len cap : Nat) (l : List StepL) (a2 : Option Addr) (len2 cap2 : Nat) (losses : List UInt8) (base ppm : Int) (w : World) (hl : l.length = len) (hs : Sl w 5 a len cap (flatV stA l)) (hs2 : Sl w 1 a2 len2 cap2 (cs b8 losses)) : Calls Try.prog 4 #[.agg #[Ytpmjgiabedjlgaa.u64 ka, Ytpmjgiabedjlgaa.u64 kb], .slice a len cap, .slice a2 len2 cap2, .int .i64 base, .int .i64 ppm] w (RetB (.bool true) w) := by
  by_cases h : ¬ (12 : Int) < (len : Int) ∧ ¬ (8 : Int) < (len2 : Int) ∧ ¬ base < 0 ∧ ¬ (1000000 : Int) < base ∧ ¬ ppm < 0 ∧ ¬ (100000 : Int) < ppm
  · obtain ⟨h1, h2, h3, h4, h5, h6⟩ := h
    exact topLocks_in ka kb a len cap l a2 len2 cap2 losses base ppm w hl hs hs2 h1 h2 h3 h4 h5 h6
  · exact topLocks_out ka kb a len cap a2 len2 cap2 base ppm w h
end Go.Proofs.Ytpmjgiabedjlgaa
