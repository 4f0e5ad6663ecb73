/-
  FORECAST, THE LAWS' WALKS: ForecastRates, ForecastExpects, ForecastCases.
-/
import Derived.Test.YtfhmhkpplcbiiaaProg
import Derived.Test.YtfhmhkpplcbiiaaBase3
import Derived.Test.YtfhmhkpplcbiiaaBase5
import Derived.Test.YtfhmhkpplcbiiaaBase6
import Derived.Test.YtfhmhkpplcbiiaaBase7
import Derived.Test.YtfhmhkpplcbiiaaDrawP
import Derived.Test.YtfhmhkpplcbiiaaDraw4
import Derived.Test.YtfhmhkpplcbiiaaDraw5
import Derived.Test.YtfhmhkpplcbiiaaDraw6
import Derived.Test.YtfhmhkpplcbiiaaDrawL0
import Derived.Test.YtfhmhkpplcbiiaaDrawP2
import Derived.Test.YtfhmhkpplcbiiaaFcP
import Derived.Test.YtfhmhkpplcbiiaaFc1
import Derived.Test.YtfhmhkpplcbiiaaFc2
import Derived.Test.YtfhmhkpplcbiiaaFc3
import Derived.Test.YtfhmhkpplcbiiaaFc3c
import Derived.Test.YtfhmhkpplcbiiaaFc6
import Derived.Test.YtfhmhkpplcbiiaaFcP2
import Derived.Test.YtfhmhkpplcbiiaaFc7
import Derived.Test.YtfhmhkpplcbiiaaFc8
import Derived.Test.YtfhmhkpplcbiiaaFc9
import Derived.Test.YtfhmhkpplcbiiaaFc10
import Derived.Test.YtfhmhkpplcbiiaaFc11
import Derived.Test.YtfhmhkpplcbiiaaHeld
import Derived.BigQuiet
import Derived.Laws.StructEq
import Derived.StillTailTactics
import Derived.RegionTactic
import Derived.Deep.DeepCutAuto
import Derived.Deep.QuietTactic
import Derived.WalkSpells
import Derived.WalkLawsBesides
namespace Go.Proofs.Ytfhmhkpplcbiiaa
open Go.RowKit
set_option linter.unusedVariables false

set_option maxRecDepth 100000 in
set_option maxHeartbeats 4000000 in
theorem forecastRates_walk (c k p : Int) (w : World) : Calls Try.prog 12 #[.int .i64 c, .int .i64 k, .int .i64 p] w (RetB (.bool true) w) := by
  obtain ⟨⟨n, e⟩, hr⟩ : ∃ r, rate c k p = r := ⟨_, rfl⟩
  have h1 := fun w => rate_any c k p w
  have h2 := fun w => refRate_any c k p w
  rw [hr] at h1 h2
  have H1 := Lib.hid h1
  have H2 := Lib.hid h2
  clear hr h1 h2
  go_enter Try.func12, Try.ntmps12
  go_wp2_with fail
  refine (H1.out _).mono ?_
  rintro er w1 ⟨rfl, rfl⟩
  go_wp2_with fail
  refine (H2.out _).mono ?_
  rintro er w2 ⟨rfl, rfl⟩
  go_wp2_with fail
  refine (awake40_any _).mono ?_
  rintro er w3 ⟨rfl, hb⟩
  go_wp2
  go_ret
  exact ⟨rfl, hb⟩

/-- The counts' cells and the question's, behind what has been called. -/
structure Ask2 (w : World) (st : Int) (a1 : Option Addr) (l1 c1 : Nat) (a2 : Option Addr) (l2 c2 : Nat) (k p s sl h : Int) (W : World) : Prop where
  c : BlkAt W w.heap.size #[.int .i64 st, .slice a1 l1 c1, .slice a2 l2 c2]
  x : BlkAt W (w.heap.size + 1) #[.int .i64 k, .int .i64 p, .int .i64 s, .int .i64 sl, .int .i64 h]
  b : Below w.heap.size w W
theorem Ask2.mk0 (w : World) (st : Int) (a1 : Option Addr) (l1 c1 : Nat) (a2 : Option Addr) (l2 c2 : Nat) (k p s sl h : Int) (E F : TypeId) :
    Ask2 w st a1 l1 c1 a2 l2 c2 k p s sl h ((w.alloc (.cells #[.int .i64 st, .slice a1 l1 c1, .slice a2 l2 c2] E)).alloc (.cells #[.int .i64 k, .int .i64 p, .int .i64 s, .int .i64 sl, .int .i64 h] F)) :=
  ⟨blkOld (blkNew rfl), blkNew (by simp), below_step (below_alloc _ _) (below_alloc _ _)⟩
section
variable {w W W' : World} {st : Int} {a1 : Option Addr} {l1 c1 : Nat} {a2 : Option Addr} {l2 c2 : Nat} {k p s sl h : Int}
theorem Ask2.step (q : Ask2 w st a1 l1 c1 a2 l2 c2 k p s sl h W) (hb : Below W.heap.size W W') : Ask2 w st a1 l1 c1 a2 l2 c2 k p s sl h W' := ⟨blkBelow hb q.c, blkBelow hb q.x, below_step q.b hb⟩
theorem Ask2.cells (q : Ask2 w st a1 l1 c1 a2 l2 c2 k p s sl h W) : W.cell? ⟨w.heap.size, 0, none⟩ = some (.int .i64 st) ∧ W.cell? ⟨w.heap.size, 1, none⟩ = some (.slice a1 l1 c1) ∧ W.cell? ⟨w.heap.size, 2, none⟩ = some (.slice a2 l2 c2) ∧
    W.cell? ⟨w.heap.size + 1, 0, none⟩ = some (.int .i64 k) ∧ W.cell? ⟨w.heap.size + 1, 1, none⟩ = some (.int .i64 p) ∧ W.cell? ⟨w.heap.size + 1, 2, none⟩ = some (.int .i64 s) ∧ W.cell? ⟨w.heap.size + 1, 3, none⟩ = some (.int .i64 sl) ∧ W.cell? ⟨w.heap.size + 1, 4, none⟩ = some (.int .i64 h) := by
  obtain ⟨d0, d1, d2, _⟩ := three_cells q.c
  obtain ⟨e0, e1, e2, e3, e4, _⟩ := five_cells q.x
  exact ⟨d0, d1, d2, e0, e1, e2, e3, e4⟩
end
theorem few_s (st : Int) (a1 : Option Addr) (l1 c1 : Nat) (a2 : Option Addr) (l2 c2 : Nat) (w : World) {b : Bool} (h : Hid (fewB l1 l2 = b)) : Calls Try.prog 44 #[.agg #[.int .i64 st, .slice a1 l1 c1, .slice a2 l2 c2]] w (RetB (.bool b) w) := by
  have := few_any st a1 l1 c1 a2 l2 c2 w
  rw [h.out] at this
  exact this
section
variable {st k p s sl h : Int} {xs ys : List Int} {a1 a2 : Option Addr} {l1 c1 l2 c2 : Nat} {o i e : Int} {w W : World}
theorem expd_s (hr : Hid (expc st xs ys k p s sl h = (o, i, e))) (h1 : Hid (Sl w 1 a1 l1 c1 (cs i64v xs))) (h2 : Hid (Sl w 1 a2 l2 c2 (cs i64v ys))) (hb : Below w.heap.size w W) :
    Calls Try.prog 45 #[.agg #[.int .i64 st, .slice a1 l1 c1, .slice a2 l2 c2], .agg #[.int .i64 k, .int .i64 p, .int .i64 s, .int .i64 sl, .int .i64 h]] W (fun q w' => q = .returned (.tuple #[.int .i64 o, .int .i64 i, .int .i64 e]) ∧ Below W.heap.size W w') := by
  have := expd_any st k p s sl h xs ys a1 l1 c1 a2 l2 c2 W (h1.out.ext hb) (h2.out.ext hb)
  rw [hr.out] at this
  exact this
variable {ws : List (BitVec 64)} {ao : Option Addr} {len cap : Nat} {L : List Int} {f : Int}
theorem scen_s (hr : Hid (caseF (expc st xs ys k p s sl h) ws = (L, f))) (h1 : Hid (Sl w 1 a1 l1 c1 (cs i64v xs))) (h2 : Hid (Sl w 1 a2 l2 c2 (cs i64v ys))) (hs : Hid (Sl w 1 ao len cap (cs u64 ws))) (hlen : len ≤ 1000000000000) (hb : Below w.heap.size w W) :
    Calls Try.prog 47 #[.agg #[.int .i64 st, .slice a1 l1 c1, .slice a2 l2 c2], .agg #[.int .i64 k, .int .i64 p, .int .i64 s, .int .i64 sl, .int .i64 h], .slice ao len cap] W (fun q w' => ∃ a c, q = .returned (.tuple #[.slice a L.length c, .int .i64 f]) ∧ Hid (Sl w' 1 a L.length c (cs i64v L)) ∧ Below W.heap.size W w') := by
  refine (scen_any st k p s sl h xs ys ws a1 l1 c1 a2 l2 c2 ao len cap W (h1.out.ext hb) (h2.out.ext hb) (hs.out.ext hb) hlen).mono ?_
  rw [hr.out]
  rintro e w' ⟨v, m, rfl, ho, hb⟩
  obtain ⟨a', c', rfl, s⟩ := sl_of_own ho
  have hm : L.length = m := s.count
  subst hm
  exact ⟨a', c', rfl, s, hb⟩
theorem refCase_s (hr : Hid (caseF (expc st xs ys k p s sl h) ws = (L, f))) (h1 : Hid (Sl w 1 a1 l1 c1 (cs i64v xs))) (h2 : Hid (Sl w 1 a2 l2 c2 (cs i64v ys))) (hs : Hid (Sl w 1 ao len cap (cs u64 ws))) (hlen : len ≤ 1000000000000) (hb : Below w.heap.size w W) :
    Calls Try.prog 48 #[.agg #[.int .i64 st, .slice a1 l1 c1, .slice a2 l2 c2], .int .i64 k, .int .i64 p, .int .i64 s, .int .i64 sl, .int .i64 h, .slice ao len cap] W (fun q w' => ∃ a c, q = .returned (.tuple #[.slice a L.length c, .int .i64 f]) ∧ Hid (Sl w' 1 a L.length c (cs i64v L)) ∧ Below W.heap.size W w') := by
  refine (refCase_any st k p s sl h xs ys ws a1 l1 c1 a2 l2 c2 ao len cap W (h1.out.ext hb) (h2.out.ext hb) (hs.out.ext hb) hlen).mono ?_
  rw [hr.out]
  rintro e w' ⟨v, m, rfl, ho, hb⟩
  obtain ⟨a', c', rfl, s⟩ := sl_of_own ho
  have hm : L.length = m := s.count
  subst hm
  exact ⟨a', c', rfl, s, hb⟩
theorem same40_s {a b : Option Addr} {c d n : Nat} (hn : n ≤ 1000) (h1 : Hid (Sl w 1 a n c (cs i64v L))) (h2 : Hid (Sl W 1 b n d (cs i64v L))) (hb : Below w.heap.size w W) :
    Calls Try.prog 49 #[.slice a n c, .slice b n d] W (RetB (.bool true) W) := by
  have := same40_any L L a b n c n d W (h1.out.ext hb) h2.out (by omega)
  rw [decide_eq_true rfl] at this
  exact this
end
theorem caseF_len {r : Int × Int × Int} {ws : List (BitVec 64)} {L : List Int} {e : Int} (h : caseF r ws = (L, e)) : L.length ≤ 1000 := by
  unfold caseF at h
  split at h
  · cases h; simp
  · split at h
    · cases h; simp
    · unfold case2 at h
      split at h
      · cases h; simp
      · unfold caseB at h
        split at h
        · cases h; simp
        · unfold caseT at h
          split at h
          · cases h; simp
          · cases h
            rw [stepsL_len]
            exact Nat.le_trans (shuffle_len rfl).1 (by omega)

set_option maxRecDepth 100000 in
set_option maxHeartbeats 4000000 in
theorem forecastExpects_walk (st k p s sl h : Int) (xs ys : List Int) (a1 : Option Addr) (l1 c1 : Nat) (a2 : Option Addr) (l2 c2 : Nat) (w : World) (h1 : Sl w 1 a1 l1 c1 (cs i64v xs)) (h2 : Sl w 1 a2 l2 c2 (cs i64v ys)) :
    Calls Try.prog 13 #[.agg #[.int .i64 st, .slice a1 l1 c1, .slice a2 l2 c2], .agg #[.int .i64 k, .int .i64 p, .int .i64 s, .int .i64 sl, .int .i64 h]] w (RetB (.bool true) w) := by
  have H1 := Lib.hid h1
  have H2 := Lib.hid h2
  obtain ⟨⟨o, i, e⟩, hr⟩ : ∃ r, expc st xs ys k p s sl h = r := ⟨_, rfl⟩
  have HR := Lib.hid hr
  obtain ⟨b, hf⟩ : ∃ b, fewB l1 l2 = b := ⟨_, rfl⟩
  have HF := Lib.hid hf
  have HQ := Lib.hid (Ask2.mk0 w st a1 l1 c1 a2 l2 c2 k p s sl h 57 59)
  clear h1 h2 hr hf
  cases b with
  | false =>
    go_enter Try.func13, Try.ntmps13
    go_wp2_with fail
    refine (few_s _ _ _ _ _ _ _ _ HF).mono ?_
    rintro er w1 ⟨rfl, hb1⟩
    have HQ1 := Lib.hid (HQ.out.step hb1)
    clear hb1
    go_wp2_with fail
    refine (awake40_any _).mono ?_
    rintro er w2 ⟨rfl, hb2⟩
    have HQ2 := Lib.hid (HQ1.out.step hb2)
    clear hb2
    go_wp2
    go_ret
    exact ⟨rfl, HQ2.out.b⟩
  | true =>
    go_enter Try.func13, Try.ntmps13
    go_wp2_with fail
    refine (few_s _ _ _ _ _ _ _ _ HF).mono ?_
    rintro er w1 ⟨rfl, hb1⟩
    have HQ1 := Lib.hid (HQ.out.step hb1)
    clear hb1
    obtain ⟨d0, d1, d2, d3, d4, d5, d6, d7⟩ := HQ1.out.cells
    go_wp2_with fail
    refine (expd_s HR H1 H2 HQ1.out.b).mono ?_
    rintro er w2 ⟨rfl, hb2⟩
    have HQ2 := Lib.hid (HQ1.out.step hb2)
    clear hb2 d0 d1 d2 d3 d4 d5 d6 d7
    obtain ⟨d0, d1, d2, d3, d4, d5, d6, d7⟩ := HQ2.out.cells
    go_wp2_with fail
    refine (refExpected_s HR H1 H2 HQ2.out.b).mono ?_
    rintro er w3 ⟨rfl, hb3⟩
    have HQ3 := Lib.hid (HQ2.out.step hb3)
    clear hb3 d0 d1 d2 d3 d4 d5 d6 d7
    go_wp2_with fail
    refine (awake40_any _).mono ?_
    rintro er w4 ⟨rfl, hb4⟩
    have HQ4 := Lib.hid (HQ3.out.step hb4)
    clear hb4
    go_wp2
    go_ret
    exact ⟨rfl, HQ4.out.b⟩

set_option maxRecDepth 100000 in
set_option maxHeartbeats 4000000 in
theorem forecastCases_walk (st k p s sl h : Int) (xs ys : List Int) (ws : List (BitVec 64)) (a1 : Option Addr) (l1 c1 : Nat) (a2 : Option Addr) (l2 c2 : Nat) (ao : Option Addr) (len cap : Nat) (w : World) (h1 : Sl w 1 a1 l1 c1 (cs i64v xs)) (h2 : Sl w 1 a2 l2 c2 (cs i64v ys)) (hs : Sl w 1 ao len cap (cs u64 ws)) :
    Calls Try.prog 14 #[.agg #[.int .i64 st, .slice a1 l1 c1, .slice a2 l2 c2], .agg #[.int .i64 k, .int .i64 p, .int .i64 s, .int .i64 sl, .int .i64 h], .slice ao len cap] w (RetB (.bool true) w) := by
  have H1 := Lib.hid h1
  have H2 := Lib.hid h2
  have HS := Lib.hid hs
  obtain ⟨⟨L, e⟩, hr⟩ : ∃ r, caseF (expc st xs ys k p s sl h) ws = r := ⟨_, rfl⟩
  have HR := Lib.hid hr
  have HL := caseF_len hr
  obtain ⟨b, hf⟩ : ∃ b, fewB l1 l2 = b := ⟨_, rfl⟩
  have HF := Lib.hid hf
  have HQ := Lib.hid (Ask2.mk0 w st a1 l1 c1 a2 l2 c2 k p s sl h 57 59)
  clear h1 h2 hr hf hs
  generalize hLn : L.length = m at HL
  have HLn := Lib.hid hLn
  clear hLn
  by_cases hbig : (400 : Int) < (len : Int)
  · cases b <;>
    · go_enter Try.func14, Try.ntmps14
      go_wp2_with fail
      refine (few_s _ _ _ _ _ _ _ _ HF).mono ?_
      rintro er w1 ⟨rfl, hb1⟩
      have HQ1 := Lib.hid (HQ.out.step hb1)
      clear hb1
      go_wp2_with fail
      refine (awake40_any _).mono ?_
      rintro er w2 ⟨rfl, hb2⟩
      have HQ2 := Lib.hid (HQ1.out.step hb2)
      clear hb2
      go_wp2
      go_ret
      exact ⟨rfl, HQ2.out.b⟩
  · have hlen : len ≤ 1000000000000 := by omega
    cases b with
    | false =>
      go_enter Try.func14, Try.ntmps14
      go_wp2_with fail
      refine (few_s _ _ _ _ _ _ _ _ HF).mono ?_
      rintro er w1 ⟨rfl, hb1⟩
      have HQ1 := Lib.hid (HQ.out.step hb1)
      clear hb1
      go_wp2_with fail
      refine (awake40_any _).mono ?_
      rintro er w2 ⟨rfl, hb2⟩
      have HQ2 := Lib.hid (HQ1.out.step hb2)
      clear hb2
      go_wp2
      go_ret
      exact ⟨rfl, HQ2.out.b⟩
    | true =>
      go_enter Try.func14, Try.ntmps14
      go_wp2_with fail
      refine (few_s _ _ _ _ _ _ _ _ HF).mono ?_
      rintro er w1 ⟨rfl, hb1⟩
      have HQ1 := Lib.hid (HQ.out.step hb1)
      clear hb1
      obtain ⟨d0, d1, d2, d3, d4, d5, d6, d7⟩ := HQ1.out.cells
      go_wp2_with fail
      refine (scen_s HR H1 H2 HS hlen HQ1.out.b).mono ?_
      rw [HLn.out]
      rintro er w2 ⟨r1, q1, rfl, S1, hb2⟩
      have HQ2 := Lib.hid (HQ1.out.step hb2)
      clear hb2 d0 d1 d2 d3 d4 d5 d6 d7
      obtain ⟨d0, d1, d2, d3, d4, d5, d6, d7⟩ := HQ2.out.cells
      go_wp2_with fail
      refine (refCase_s HR H1 H2 HS hlen HQ2.out.b).mono ?_
      rw [HLn.out]
      rintro er w3 ⟨r2, q2, rfl, S2, hb3⟩
      have HQ3 := Lib.hid (HQ2.out.step hb3)
      have HB3 := Lib.hid hb3
      clear hb3 d0 d1 d2 d3 d4 d5 d6 d7
      go_wp2_with fail
      refine (same40_s HL S1 S2 HB3.out).mono ?_
      rintro er w4 ⟨rfl, hb4⟩
      have HQ4 := Lib.hid (HQ3.out.step hb4)
      clear hb4
      go_wp2_with fail
      refine (awake40_any _).mono ?_
      rintro er w5 ⟨rfl, hb5⟩
      have HQ5 := Lib.hid (HQ4.out.step hb5)
      clear hb5
      go_wp2
      go_ret
      exact ⟨rfl, HQ5.out.b⟩
end Go.Proofs.Ytfhmhkpplcbiiaa
