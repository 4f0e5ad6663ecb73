/-
  MAC, THE WALKS: the reference's Sum.
-/
import Derived.Test.YtomilmaeiokaaaaProg
import Derived.Test.YtomilmaeiokaaaaBase15
import Derived.Test.YtomilmaeiokaaaaHeld
import Derived.Test.YtomilmaeiokaaaaMac7
import Derived.Test.YtomilmaeiokaaaaMac2R
import Derived.Test.YtomilmaeiokaaaaMac3
import Derived.Test.YtomilmaeiokaaaaMac1
import Derived.BigQuiet
import Derived.StillTailTactics
import Derived.RegionTactic
import Derived.Deep.DeepCutAuto
import Derived.Deep.QuietTactic
import Derived.WalkSpells
import Derived.WalkLawsBesides
namespace Go.Proofs.Ytomilmaeiokaaaa
open Go.RowKit
set_option linter.unusedVariables false



theorem refRound_v (v : V4) (w : World) : Calls Try.prog 64 #[.agg #[u64 v.1, u64 v.2.1, u64 v.2.2.1, u64 v.2.2.2]] w (RetB (.agg #[u64 (sip v).1, u64 (sip v).2.1, u64 (sip v).2.2.1, u64 (sip v).2.2.2]) w) := by
  obtain ⟨a, b, c, d⟩ := v
  exact refRound_any a b c d w
theorem St.ext {w w' : World} {g : Nat} {v : V4} (h : St w g v) (hb : Below w.heap.size w w') : St w' g v := by
  obtain ⟨E, h⟩ := h; exact ⟨E, hp_below hb h⟩
theorem St.lt {w : World} {g : Nat} {v : V4} (h : St w g v) : g < w.heap.size := by
  obtain ⟨E, h⟩ := h
  rcases Nat.lt_or_ge g w.heap.size with h' | h'
  · exact h'
  · rw [Array.getElem?_eq_none h'] at h; cases h
theorem St.all {w : World} {g : Nat} {v : V4} (h : St w g v) (u : V4) : St ((((w.setCell ⟨g, 0, none⟩ (u64 u.1)).setCell ⟨g, 1, none⟩ (u64 u.2.1)).setCell ⟨g, 2, none⟩ (u64 u.2.2.1)).setCell ⟨g, 3, none⟩ (u64 u.2.2.2)) g u := by
  obtain ⟨E, h⟩ := h
  exact ⟨E, heap_setCell_same _ g 3 _ E _ (heap_setCell_same _ g 2 _ E _ (heap_setCell_same _ g 1 _ E _ (heap_setCell_same w g 0 _ E _ h)))⟩
theorem St.cellsV {w : World} {g : Nat} {v : V4} (h : St w g v) : w.cell? ⟨g, 0, none⟩ = some (u64 v.1) ∧ w.cell? ⟨g, 1, none⟩ = some (u64 v.2.1) ∧ w.cell? ⟨g, 2, none⟩ = some (u64 v.2.2.1) ∧ w.cell? ⟨g, 3, none⟩ = some (u64 v.2.2.2) ∧
    w.frozen? ⟨g, 0, none⟩ = false ∧ w.frozen? ⟨g, 1, none⟩ = false ∧ w.frozen? ⟨g, 2, none⟩ = false ∧ w.frozen? ⟨g, 3, none⟩ = false := by
  obtain ⟨a, b, c, d⟩ := v; exact h.cells
theorem below_all {B g : Nat} {w w' : World} (h : Below B w w') (hg : B ≤ g) (a b c d : Value) : Below B w ((((w'.setCell ⟨g, 0, none⟩ a).setCell ⟨g, 1, none⟩ b).setCell ⟨g, 2, none⟩ c).setCell ⟨g, 3, none⟩ d) :=
  (((h.setCell (p := ⟨g, 0, none⟩) hg a).setCell (p := ⟨g, 1, none⟩) hg b).setCell (p := ⟨g, 2, none⟩) hg c).setCell (p := ⟨g, 3, none⟩) hg d

set_option maxRecDepth 100000 in
set_option maxHeartbeats 8000000 in
theorem refSum_any (ka kb : BitVec 64) (bs : List UInt8) (ao : Option Addr) (len cap : Nat) (w : World) (hs : Sl w 1 ao len cap (cs b8 bs)) (hlen : len ≤ 1000000000) :
    Calls Try.prog 56 #[.agg #[u64 ka, u64 kb], .slice ao len cap] w (RetB (u64 (sipSum ka kb bs)) w) := by
  have hcount := hs.count
  have hres := refV_sum ka kb bs
  rw [hcount] at hres
  obtain ⟨q, hq⟩ : ∃ q, q = len / 8 := ⟨_, rfl⟩
  rw [← hq] at hres
  have HRES := Lib.hid hres
  have HC := Lib.hid hcount
  clear hcount hres
  obtain ⟨S, hS⟩ : ∃ S, S = sipSum ka kb bs := ⟨_, rfl⟩
  rw [← hS]
  have HS := Lib.hid hS
  clear hS
  have hq8 : q * 8 ≤ len ∧ len < q * 8 + 8 := by omega
  have hqi : (len : Int).tdiv 8 = (q : Int) := by rw [hq]; simp
  have HQ := Lib.hid hq
  clear hq
  go_enter Try.func56, Try.ntmps56
  go_wp2_with fail
  go_loopw [6] (fun i wr => ∃ k : Nat, k ≤ q + 1 ∧ i = .int .i64 k ∧ St wr (w.heap.size + 1) (refV ka kb bs k) ∧ Below w.heap.size w wr) (fun i _ => q + 1 - (intOf i).toNat)
  case atStart =>
    refine ⟨0, by omega, rfl, ?_, below_step (below_alloc _ _) (below_alloc _ _)⟩
    exact st_new2 w _ (start ka kb) _
  case round =>
    obtain ⟨k, hk, rfl, hst, hb⟩ := hrel
    obtain ⟨v, hv⟩ : ∃ v, v = refV ka kb bs k := ⟨_, rfl⟩
    rw [← hv] at hst
    obtain ⟨a, b, c, d⟩ := v
    have HV := Lib.hid hv
    clear hv
    obtain ⟨c0, c1, c2, c3, f0, f1, f2, f3⟩ := hst.cells
    by_cases hkq : k < q + 1
    · have hkq' : (k : Int) ≤ (q : Int) := by omega
      obtain ⟨m, hm⟩ : ∃ m, m = refW bs k 8 := ⟨_, rfl⟩
      have hword := refWord_any bs k ao len cap wr (hs.ext hb) hlen (by omega)
      rw [← hm] at hword
      have HM := Lib.hid hm
      clear hm
      go_wp2_with fail
      refine hword.mono ?_
      clear hword
      rintro e w1 ⟨rfl, rfl⟩
      go_wp2_with fail
      have h1 := St.at3 (w2 := wr) hst rfl (d ^^^ m)
      have b1 := hb.setCell (p := ⟨w.heap.size + 1, 3, none⟩) (by simp) (u64 (d ^^^ m))
      refine (refRound_v (a, b, c, d ^^^ m) _).mono ?_
      rintro e w1 ⟨rfl, hb1⟩
      have h2 := h1.ext hb1
      have b2 := below_step b1 hb1
      generalize hv1 : sip (a, b, c, d ^^^ m) = v1
      have HV1 := Lib.hid hv1
      clear hv1 h1 b1 hb1 c0 c1 c2 c3 f0 f1 f2 f3
      go_wp2_with fail
      refine (refRound_v v1 _).mono ?_
      rintro e w2 ⟨rfl, hb2⟩
      have h3 := h2.ext hb2
      have b3 := below_step b2 hb2
      generalize hv2 : sip v1 = v2
      obtain ⟨a2, b2', c2', d2⟩ := v2
      have HV2 := Lib.hid hv2
      clear hv2 h2 b2 hb2
      obtain ⟨c0, c1, c2, c3, f0, f1, f2, f3⟩ := h3.cells
      have h4 := h3.all (a2, b2', c2', d2)
      have b4 := below_all b3 (g := w.heap.size + 1) (by simp) (u64 a2) (u64 b2') (u64 c2') (u64 d2)
      obtain ⟨y0, y1, y2, y3, g0, g1, g2, g3⟩ := h4.cells
      go_wp2_with fail
      go_roundw
      case rel =>
        refine ⟨k + 1, by omega, by go_num, ?_, b4.setCell (by simp) _⟩
        have h5 := St.at0 h4 rfl (a2 ^^^ m)
        show St _ _ (takeS (refV ka kb bs k) (refW bs k 8))
        rw [← HV.out, ← HM.out]
        unfold takeS
        simp only
        rw [HV1.out, HV2.out]
        exact h5
      case measure => simp [intOf]; omega
    · have hkq' : ¬ (k : Int) ≤ (q : Int) := by omega
      obtain rfl : k = q + 1 := by omega
      have hres := HRES.out
      rw [← HV.out, ← HS.out] at hres
      have HR := Lib.hid hres
      clear hres
      go_wp2_with fail
      have h1 := St.at2 (w2 := wr) hst rfl (c ^^^ 255#64)
      have b1 := hb.setCell (p := ⟨w.heap.size + 1, 2, none⟩) (by simp) (u64 (c ^^^ 255#64))
      refine (refRound_v (a, b, c ^^^ 255#64, d) _).mono ?_
      rintro e w1 ⟨rfl, hb1⟩
      have h2 := h1.ext hb1
      have b2 := below_step b1 hb1
      generalize hv1 : sip (a, b, c ^^^ 255#64, d) = v1
      have HV1 := Lib.hid hv1
      clear hv1 h1 b1 hb1 c0 c1 c2 c3 f0 f1 f2 f3
      go_wp2_with fail
      refine (refRound_v v1 _).mono ?_
      rintro e w2 ⟨rfl, hb2⟩
      have h3 := h2.ext hb2
      have b3 := below_step b2 hb2
      generalize hv2 : sip v1 = v2
      have HV2 := Lib.hid hv2
      clear hv2 h2 b2 hb2
      go_wp2_with fail
      refine (refRound_v v2 _).mono ?_
      rintro e w3 ⟨rfl, hb3⟩
      have h4 := h3.ext hb3
      have b4 := below_step b3 hb3
      generalize hv3 : sip v2 = v3
      have HV3 := Lib.hid hv3
      clear hv3 h3 b3 hb3
      go_wp2_with fail
      refine (refRound_v v3 _).mono ?_
      rintro e w4 ⟨rfl, hb4⟩
      have h5 := h4.ext hb4
      have b5 := below_step b4 hb4
      generalize hv4 : sip v3 = v4
      obtain ⟨a2, b2', c2', d2⟩ := v4
      have HV4 := Lib.hid hv4
      clear hv4 h4 b4 hb4
      obtain ⟨c0, c1, c2, c3, f0, f1, f2, f3⟩ := h5.cellsV
      have h6 := h5.all (a2, b2', c2', d2)
      have b6 := below_all b5 (g := w.heap.size + 1) (by simp) (u64 a2) (u64 b2') (u64 c2') (u64 d2)
      obtain ⟨y0, y1, y2, y3, g0, g1, g2, g3⟩ := h6.cells
      go_wp2_with fail
      go_ret
      have e : fin4 (a, b, c, d) = (a2, b2', c2', d2) := by
        unfold fin4
        simp only
        rw [HV1.out, HV2.out, HV3.out, HV4.out]
      refine ⟨?_, b6⟩
      rw [← HR.out, e]
      rfl
end Go.Proofs.Ytomilmaeiokaaaa
