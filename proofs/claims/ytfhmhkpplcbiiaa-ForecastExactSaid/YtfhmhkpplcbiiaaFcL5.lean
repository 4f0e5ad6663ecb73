/-
  FORECAST, THE LAWS' WALKS: ForecastExact.
-/
import Derived.Test.YtfhmhkpplcbiiaaProg
import Derived.Test.YtfhmhkpplcbiiaaBase3
import Derived.Test.YtfhmhkpplcbiiaaBase5
import Derived.Test.YtfhmhkpplcbiiaaBase6
import Derived.Test.YtfhmhkpplcbiiaaBase7
import Derived.Test.YtfhmhkpplcbiiaaDrawP
import Derived.Test.YtfhmhkpplcbiiaaDraw4
import Derived.Test.YtfhmhkpplcbiiaaDraw5
import Derived.Test.YtfhmhkpplcbiiaaDrawL0
import Derived.Test.YtfhmhkpplcbiiaaFcP
import Derived.Test.YtfhmhkpplcbiiaaFc1
import Derived.Test.YtfhmhkpplcbiiaaFc2
import Derived.Test.YtfhmhkpplcbiiaaFc3
import Derived.Test.YtfhmhkpplcbiiaaFcP2
import Derived.Test.YtfhmhkpplcbiiaaFcP3
import Derived.Test.YtfhmhkpplcbiiaaFc7
import Derived.Test.YtfhmhkpplcbiiaaFc9
import Derived.Test.YtfhmhkpplcbiiaaFc10
import Derived.Test.YtfhmhkpplcbiiaaFc11
import Derived.Test.YtfhmhkpplcbiiaaFcL1
import Derived.Test.YtfhmhkpplcbiiaaHeld
import Derived.BigQuiet
import Derived.Laws.StructEq
import Derived.StillTailTactics
import Derived.RegionTactic
import Derived.Deep.DeepCutAuto
import Derived.Deep.QuietTactic
import Derived.WalkSpells
import Derived.WalkLawsBesides
namespace Go.Proofs.Ytfhmhkpplcbiiaa
open Go.RowKit
set_option linter.unusedVariables false

theorem infoW5 : (Try.prog.info? 35).map (fun i => (i.zero, i.size, i.bytes)) = some (some (.int .u64 0), 1, 8) := by kernel_rfl
/-- The words of the examples: the first may be anything. -/
def WsAt (W : World) (B g : Nat) (V : BitVec 64) : Prop := W.ownsRow B 35 1 (.slice (some ⟨g, 0, none⟩) 50 50) 50 (cs u64 (V :: List.replicate 49 0#64))
theorem ws_cell {W : World} {B g : Nat} {V : BitVec 64} (h : WsAt W B g V) : W.cell? ⟨g, 0, none⟩ = some (u64 V) ∧ W.frozen? ⟨g, 0, none⟩ = false ∧ B ≤ g ∧ g < W.heap.size := own_cell h 0 (by omega) 0#64
theorem ws_set {W : World} {B g : Nat} {V : BitVec 64} (h : WsAt W B g V) (V' : BitVec 64) : WsAt (W.setCell ⟨g, 0, none⟩ (u64 V')) B g V' := own_set h 0 V'
theorem ws_ext {W W' : World} {B g : Nat} {V : BitVec 64} (h : WsAt W B g V) (hb : Below W.heap.size W W') : WsAt W' B g V := ownsRow_ext h hb
theorem ws_sl {W : World} {B g : Nat} {V : BitVec 64} (h : WsAt W B g V) : Sl W 1 (some ⟨g, 0, none⟩) 50 50 (cs u64 (V :: List.replicate 49 0#64)) := by
  obtain ⟨a, c, e, s⟩ := sl_of_own h
  cases e
  exact s
theorem Ask2.set {w W : World} {st : Int} {a1 : Option Addr} {l1 c1 : Nat} {a2 : Option Addr} {l2 c2 : Nat} {k p s sl h : Int} (q : Ask2 w st a1 l1 c1 a2 l2 c2 k p s sl h W) {g i : Nat} {v : Value} (hg : w.heap.size + 1 < g) : Ask2 w st a1 l1 c1 a2 l2 c2 k p s sl h (W.setCell ⟨g, i, none⟩ v) :=
  ⟨blk_other q.c (by show _ ≠ g; omega), blk_other q.x (by show _ ≠ g; omega), q.b.setCell (p := ⟨g, i, none⟩) (by show w.heap.size ≤ g; omega) v⟩
theorem taken_x {A : Int} {P : List Int} {W : World} {a : Option Addr} {c m : Nat} (hm : m ≤ 1000) (hA : Hid (ltN A P = A)) (hs : Hid (Sl W 1 a m c (cs i64v (stepsL A P)))) :
    Calls Try.prog 50 #[.slice a m c] W (fun e w' => e = .returned (.tuple #[.int .i64 A, .bool true]) ∧ w' = W) := by
  have := taken_any A P a m c W hs.out (by omega)
  rw [hA.out] at this
  exact this
theorem scen_x {st k p s sl h : Int} {xs ys : List Int} {a1 a2 : Option Addr} {l1 c1 l2 c2 : Nat} {w W : World} {B g : Nat} {V : BitVec 64} {L : List Int} {m : Nat} (hr : Hid (caseF (expc st xs ys k p s sl h) (V :: List.replicate 49 0#64) = (L, 0))) (hm : Hid (L.length = m)) (h1 : Hid (Sl w 1 a1 l1 c1 (cs i64v xs))) (h2 : Hid (Sl w 1 a2 l2 c2 (cs i64v ys))) (hs : Hid (WsAt W B g V)) (hb : Below w.heap.size w W) :
    Calls Try.prog 47 #[.agg #[.int .i64 st, .slice a1 l1 c1, .slice a2 l2 c2], .agg #[.int .i64 k, .int .i64 p, .int .i64 s, .int .i64 sl, .int .i64 h], .slice (some ⟨g, 0, none⟩) 50 50] W (fun q w' => ∃ a c, q = .returned (.tuple #[.slice a m c, .int .i64 0]) ∧ Hid (Sl w' 1 a m c (cs i64v L)) ∧ Below W.heap.size W w') := by
  have := scen_s (w := W) (W := W) hr (h1.out.ext hb) (h2.out.ext hb) (ws_sl hs.out) (by omega) (Below.refl _ _)
  rw [hm.out] at this
  exact this

set_option maxRecDepth 100000 in
set_option maxHeartbeats 4000000 in
theorem forecastExact_walk (st k p s sl h : Int) (xs ys : List Int) (a1 : Option Addr) (l1 c1 : Nat) (a2 : Option Addr) (l2 c2 : Nat) (w : World) (h1 : Sl w 1 a1 l1 c1 (cs i64v xs)) (h2 : Sl w 1 a2 l2 c2 (cs i64v ys)) :
    Calls Try.prog 16 #[.agg #[.int .i64 st, .slice a1 l1 c1, .slice a2 l2 c2], .agg #[.int .i64 k, .int .i64 p, .int .i64 s, .int .i64 sl, .int .i64 h]] w (RetB (.bool true) w) := by
  have H1 := Lib.hid h1
  have H2 := Lib.hid h2
  obtain ⟨⟨o, i, e⟩, hx⟩ : ∃ r, expc st xs ys k p s sl h = r := ⟨_, rfl⟩
  have HX := Lib.hid hx
  obtain ⟨b, hf⟩ : ∃ b, fewB l1 l2 = b := ⟨_, rfl⟩
  have HF := Lib.hid hf
  have HQ := Lib.hid (Ask2.mk0 w st a1 l1 c1 a2 l2 c2 k p s sl h 57 59)
  clear h1 h2 hf
  cases b with
  | false =>
    clear hx
    go_enter Try.func16, Try.ntmps16
    go_wp2_with fail
    refine (few_s _ _ _ _ _ _ _ _ HF).mono ?_
    rintro er w1 ⟨rfl, hb1⟩
    have HQ1 := Lib.hid (HQ.out.step hb1)
    clear hb1
    go_wp2_with fail
    refine (awake40_any _).mono ?_
    rintro er w2 ⟨rfl, hb2⟩
    have HQ2 := Lib.hid (HQ1.out.step hb2)
    clear hb2
    go_wp2
    go_ret
    exact ⟨rfl, HQ2.out.b⟩
  | true =>
    by_cases hgo : e = 0 ∧ o ≤ 20000 ∧ i ≤ 20000
    · obtain ⟨rfl, o2, i2⟩ := hgo
      obtain ⟨⟨o0, _⟩, i0, _⟩ := expc_bounds hx
      have hfirst := fun (v : Nat) (hv : v < 1000) => case_first v hv o0 o2 i0 i2
      have HFI := Lib.hid hfirst
      have hsum := sumR_all o o0
      have HSUM := Lib.hid hsum
      have HSB := Lib.hid (sumR_bounds o o0 o2)
      have hquo := fun t => i64_quo t (i + 999) 1000 (by omega) (by omega) (by omega)
      have hquo' : (i + 999).tdiv 1000 = (i + 999) / 1000 := Int.tdiv_eq_ediv_of_nonneg (by omega)
      obtain ⟨B, hB⟩ : ∃ B, (i + 999) / 1000 = B := ⟨_, rfl⟩
      have hB0 : 0 ≤ B := by omega
      have hB1 : B ≤ 20 := by omega
      rw [hB] at hquo hquo'
      have HB := Lib.hid hB
      clear hfirst hsum hx hB
      go_enter Try.func16, Try.ntmps16
      go_wp2_with fail
      refine (few_s _ _ _ _ _ _ _ _ HF).mono ?_
      rintro er w1 ⟨rfl, hb1⟩
      have HQ1 := Lib.hid (HQ.out.step hb1)
      clear hb1
      obtain ⟨d0, d1, d2, d3, d4, d5, d6, d7⟩ := HQ1.out.cells
      go_wp2_with fail
      refine (expd_s HX H1 H2 HQ1.out.b).mono ?_
      rintro er w2 ⟨rfl, hb2⟩
      have HQ2 := Lib.hid (HQ1.out.step hb2)
      clear hb2 d0 d1 d2 d3 d4 d5 d6 d7
      go_wp2_with (refine wpList_make_typed u64 0 _ rfl _ _ 39 rfl 35 (.int .u64 0) 8 Try.underlying39 infoW5 rfl .i64 .i64 _ _ 50 rfl rfl rfl rfl (by omega) (by unfold maxLen; omega) ?_)
      intro w3 ho3 hb3
      have HQ3 := Lib.hid (HQ2.out.step hb3)
      have HW3 : Hid (WsAt w3 w2.heap.size w2.heap.size 0#64) := ho3
      have hg := blk_lt HQ2.out.x
      generalize w2.heap.size = g at *
      clear ho3 hb3 HQ2
      go_wp2_with fail
      go_loopw [8, 10] (fun sm v wr => ∃ (q : Nat) (S : Int) (V : BitVec 64), q ≤ 1000 ∧ v = .int .i64 q ∧ sm = .int .i64 S ∧ Hid (S = sumR o q) ∧ Hid (WsAt wr g g V) ∧ Hid (Ask2 w st a1 l1 c1 a2 l2 c2 k p s sl h wr)) (fun _ v _ => 1000 - (intOf v).toNat)
      case atStart => exact ⟨0, 0, 0#64, by omega, rfl, rfl, rfl, HW3, HQ3⟩
      case round =>
        obtain ⟨q, S, V, hq, rfl, rfl, hS, hW, hQ⟩ := hrel
        clear HW3 HQ3
        have hSb := HSB.out q
        rw [← hS.out] at hSb
        obtain ⟨hS0, hS1⟩ := hSb
        by_cases hqn : q < 1000
        · obtain ⟨P, hP1, hP2, hP3⟩ := HFI.out q hqn
          have hSn : sumR o (q + 1) = S + rnd o q := by rw [hS.out]; rfl
          have hA2 : 0 ≤ rnd o q ∧ rnd o q ≤ 20 := by unfold rnd; split <;> omega
          obtain ⟨hA0, hA1⟩ := hA2
          rw [HB.out] at hP2
          have HXP : Hid (caseF (expc st xs ys k p s sl h) (BitVec.ofNat 64 q :: List.replicate 49 0#64) = (stepsL (rnd o q) P, 0)) := by
            show _ = _
            rw [HX.out]; exact hP1
          generalize rnd o q = A at *
          obtain ⟨m, hm⟩ : ∃ m, (stepsL A P).length = m := ⟨_, rfl⟩
          have hmA : (m : Int) - A = B := by rw [← hm, stepsL_len]; omega
          have hmB : m ≤ 1000 := by omega
          have HM := Lib.hid hm
          have HP3 := Lib.hid hP3
          have HSN := Lib.hid hSn
          obtain ⟨V', hv1⟩ : ∃ V', BitVec.ofInt 64 (q : Int) = V' := ⟨_, rfl⟩
          have hv2 : BitVec.ofNat 64 q = V' := by rw [← hv1]; simp
          rw [hv2] at HXP
          obtain ⟨e0, f0, _, _⟩ := ws_cell hW.out
          have HW4 := Lib.hid (ws_set hW.out V')
          have HQ4 := Lib.hid (hQ.out.set (g := g) (i := 0) (v := Ytfhmhkpplcbiiaa.u64 V') hg)
          obtain ⟨d0, d1, d2, d3, d4, d5, d6, d7⟩ := hQ.out.cells
          have hqn' : (q : Int) < 1000 := by omega
          have hgn : ¬ w.heap.size = g := by omega
          have hgn2 : ¬ w.heap.size + 1 = g := by omega
          clear hP1 hP2 hP3 hSn hm hS hW hQ
          go_wp2_with fail
          refine (scen_x HXP HM H1 H2 HW4 HQ4.out.b).mono ?_
          rintro er w5 ⟨r1, q1, rfl, S1, hb5⟩
          have HQ5 := Lib.hid (HQ4.out.step hb5)
          have HW5 := Lib.hid (ws_ext HW4.out hb5)
          clear hb5 d0 d1 d2 d3 d4 d5 d6 d7 HQ4 HW4 e0 f0 hv1 hv2
          go_wp2_with fail
          refine (taken_x hmB HP3 S1).mono ?_
          rintro er w6 ⟨rfl, rfl⟩
          go_wp2_with fail
          go_roundw
          case rel => exact ⟨q + 1, S + A, V', by omega, by go_num, by go_num, HSN.out.symm, HW5, HQ5⟩
          case measure => simp [intOf]; omega
        · have hq1 : q = 1000 := by omega
          have hqn' : ¬ (q : Int) < 1000 := by omega
          have hSo : S = o := by rw [hS.out, hq1]; exact HSUM.out
          subst hSo
          clear hS
          go_wp2_with fail
          refine (awake40_any _).mono ?_
          rintro er w5 ⟨rfl, hb5⟩
          have HQ5 := Lib.hid (hQ.out.step hb5)
          clear hb5
          go_wp2
          go_ret
          exact ⟨rfl, HQ5.out.b⟩
    · clear hx
      have hcs : ¬ e = 0 ∨ (e = 0 ∧ 20000 < o) ∨ (e = 0 ∧ ¬ 20000 < o ∧ 20000 < i) := by omega
      clear hgo
      rcases hcs with g0 | ⟨rfl, g1⟩ | ⟨rfl, g1, g2⟩
      all_goals
        go_enter Try.func16, Try.ntmps16
        go_wp2_with fail
        refine (few_s _ _ _ _ _ _ _ _ HF).mono ?_
        rintro er w1 ⟨rfl, hb1⟩
        have HQ1 := Lib.hid (HQ.out.step hb1)
        clear hb1
        obtain ⟨d0, d1, d2, d3, d4, d5, d6, d7⟩ := HQ1.out.cells
        go_wp2_with fail
        refine (expd_s HX H1 H2 HQ1.out.b).mono ?_
        rintro er w2 ⟨rfl, hb2⟩
        have HQ2 := Lib.hid (HQ1.out.step hb2)
        clear hb2 d0 d1 d2 d3 d4 d5 d6 d7
        go_wp2_with fail
        refine (awake40_any _).mono ?_
        rintro er w3 ⟨rfl, hb3⟩
        have HQ3 := Lib.hid (HQ2.out.step hb3)
        clear hb3
        go_wp2
        go_ret
        exact ⟨rfl, HQ3.out.b⟩
end Go.Proofs.Ytfhmhkpplcbiiaa
