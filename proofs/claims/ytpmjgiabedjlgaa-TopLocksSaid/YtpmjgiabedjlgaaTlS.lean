/-
  LOCKS OVER A LINK: equal reports, and how many numbers.
-/
import Derived.Test.YtpmjgiabedjlgaaTlP
import Derived.Test.YtpmjgiabedjlgaaLock6
import Derived.Test.YtpmjgiabedjlgaaBase14
import Derived.BigQuiet
import Derived.Laws.StructEq
import Derived.StillTailTactics
import Derived.RegionTactic
import Derived.Deep.DeepCutAuto
import Derived.Deep.QuietTactic
import Derived.WalkSpells
import Derived.WalkLawsBesides
namespace Go.Proofs.Ytpmjgiabedjlgaa
open Go.RowKit
set_option linter.unusedVariables false

set_option maxRecDepth 100000 in
set_option maxHeartbeats 2000000 in
theorem sameT_any (xs ys : List Rep) (ao bo : Option Addr) (la ca lb cb : Nat) (w : World) (ha : Sl w 6 ao la ca (rcs xs)) (hb : Sl w 6 bo lb cb (rcs ys)) (hx : xs.length = la) (hy : ys.length = lb) (hla : la ≤ 1000000000000) :
    Calls Try.prog 16 #[.slice ao la ca, .slice bo lb cb] w (RetB (.bool (decide (xs = ys))) w) := by
  by_cases hl : la = lb
  · subst hl
    have C1 := Lib.hid hx
    have C2 := Lib.hid hy
    clear hx hy
    go_enter Try.func16, Try.ntmps16
    go_wp2
    go_loopw [5] (fun i wr => ∃ k : Nat, k ≤ la ∧ i = .int .i64 k ∧ Hid (∀ j, j < k → xs.getD j (0, 0, 0, 0, 0, 0) = ys.getD j (0, 0, 0, 0, 0, 0)) ∧ Below w.heap.size w wr) (fun i _ => la - (intOf i).toNat)
    case atStart => exact ⟨0, by omega, rfl, fun j hj => by omega, Below.refl _ _⟩
    case round =>
      obtain ⟨k, hk, rfl, hall, hbel⟩ := hrel
      by_cases hkl : k < la
      · obtain ⟨b1, o1, e1, hc1⟩ := sl_rep (ha.ext hbel) C1.out k hkl
        obtain ⟨b2, o2, e2, hc2⟩ := sl_rep (hb.ext hbel) C2.out k hkl
        subst e1; subst e2
        have hkl' : (k : Int) < (la : Int) := by omega
        have hk0 : (0 : Int) ≤ (k : Int) := by omega
        generalize hx : xs.getD k (0, 0, 0, 0, 0, 0) = x at *
        generalize hyy : ys.getD k (0, 0, 0, 0, 0, 0) = y at *
        have HX := Lib.hid hx
        have HY := Lib.hid hyy
        clear hx hyy
        have hq := fun W => rep_neq x y W
        obtain ⟨x1, x2, x3, x4, x5, x6⟩ := x
        obtain ⟨y1, y2, y3, y4, y5, y6⟩ := y
        have p0 : wr.cell? ⟨b1, o1 + k * 6, none⟩ = some (.int .i64 x1) := hc1 0 _ rfl; have p1 : wr.cell? ⟨b1, o1 + k * 6 + 1, none⟩ = some (.int .i64 x2) := hc1 1 _ rfl; have p2 : wr.cell? ⟨b1, o1 + k * 6 + 2, none⟩ = some (.int .i64 x3) := hc1 2 _ rfl; have p3 : wr.cell? ⟨b1, o1 + k * 6 + 3, none⟩ = some (.int .i64 x4) := hc1 3 _ rfl; have p4 : wr.cell? ⟨b1, o1 + k * 6 + 4, none⟩ = some (.int .i64 x5) := hc1 4 _ rfl; have p5 : wr.cell? ⟨b1, o1 + k * 6 + 5, none⟩ = some (.int .i64 x6) := hc1 5 _ rfl
        have q0 : wr.cell? ⟨b2, o2 + k * 6, none⟩ = some (.int .i64 y1) := hc2 0 _ rfl; have q1 : wr.cell? ⟨b2, o2 + k * 6 + 1, none⟩ = some (.int .i64 y2) := hc2 1 _ rfl; have q2 : wr.cell? ⟨b2, o2 + k * 6 + 2, none⟩ = some (.int .i64 y3) := hc2 2 _ rfl; have q3 : wr.cell? ⟨b2, o2 + k * 6 + 3, none⟩ = some (.int .i64 y4) := hc2 3 _ rfl; have q4 : wr.cell? ⟨b2, o2 + k * 6 + 4, none⟩ = some (.int .i64 y5) := hc2 4 _ rfl; have q5 : wr.cell? ⟨b2, o2 + k * 6 + 5, none⟩ = some (.int .i64 y6) := hc2 5 _ rfl
        simp only [repA] at hq
        clear hc1 hc2
        by_cases hxy : (x1, x2, x3, x4, x5, x6) = (y1, y2, y3, y4, y5, y6)
        · rw [decide_eq_true hxy] at hq
          have HE := Lib.hid hxy
          clear hxy
          go_wp2
          go_quiet (fail)
          go_wp2
          go_roundw
          case rel => exact ⟨k + 1, by omega, by go_num, fun j hj => by
            by_cases hjk : j = k
            · subst hjk; rw [HX.out, HY.out, HE.out]
            · exact hall.out j (by omega), by exact below_drewN hbel _⟩
          case measure => simp [intOf]; omega
        · rw [decide_eq_false hxy] at hq
          have hne : ¬ xs = ys := fun h => hxy (by rw [← HX.out, ← HY.out, h])
          have HN := Lib.hid hne
          clear hne hxy
          go_wp2
          go_quiet (fail)
          go_wp2
          go_ret
          exact ⟨congrArg (fun b => Ending.returned (.bool b)) (by rw [decide_eq_false HN.out]), by exact below_drewN hbel _⟩
      · have hkl' : ¬ (k : Int) < (la : Int) := by omega
        have hee : xs = ys := by
          apply List.ext_getElem (by rw [C1.out, C2.out])
          intro i h1 h2
          have := hall.out i (by have := C1.out; omega)
          simpa [List.getD, h1, h2] using this
        have HN := Lib.hid hee
        clear hee
        go_wp2
        go_ret
        exact ⟨congrArg (fun b => Ending.returned (.bool b)) (by rw [decide_eq_true HN.out]), hbel⟩
  · have hne : ¬ xs = ys := fun h => hl (by rw [← hx, ← hy, h])
    have HN := Lib.hid hne
    clear hne hx hy
    have hl' : ¬ (la : Int) = (lb : Int) := by omega
    go_enter Try.func16, Try.ntmps16
    go_wp2
    go_ret
    exact ⟨congrArg (fun b => Ending.returned (.bool b)) (by rw [decide_eq_false HN.out]), Below.refl _ _⟩
/-- One step of a list. -/
theorem step_at {w : World} {ao : Option Addr} {len cap : Nat} {l : List StepL} (h : Sl w 5 ao len cap (flatV stA l)) (hl : l.length = len) (k : Nat) (hk : k < len) : ∃ b o, ao = some ⟨b, o, none⟩ ∧ w.cell? ⟨b, o + k * 5, none⟩ = some (.int .i64 (l.getD k StepL.zero).k) ∧ w.cell? ⟨b, o + k * 5 + 1, none⟩ = some (.int .i64 (l.getD k StepL.zero).r) ∧ w.cell? ⟨b, o + k * 5 + 2, none⟩ = some (.int .i64 (l.getD k StepL.zero).n) ∧ w.cell? ⟨b, o + k * 5 + 3, none⟩ = some (.int .i64 (l.getD k StepL.zero).p) ∧ w.cell? ⟨b, o + k * 5 + 4, none⟩ = some (b8 (l.getD k StepL.zero).w) := by
  obtain ⟨b, o, e, hc⟩ := flat_at StepL.zero stA 5 (by decide) (fun _ => rfl) h hl k hk
  exact ⟨b, o, e, hc 0 _ rfl, hc 1 _ rfl, hc 2 _ rfl, hc 3 _ rfl, hc 4 _ rfl⟩
set_option maxRecDepth 100000 in
set_option maxHeartbeats 4000000 in
theorem numbers_steps (a : Option Addr) (len cap : Nat) (l : List StepL) (w : World) (hl : l.length = len) (hs : Sl w 5 a len cap (flatV stA l)) (h12 : len ≤ 1000) : Calls Try.prog 18 #[.slice a len cap] w (RetB (.int .i64 (numsN l len : Int)) w) := by
  have HS := Lib.hid hs
  have HL := Lib.hid hl
  clear hs hl
  go_enter Try.func18, Try.ntmps18
  go_wp2_with fail
  go_loopw [3, 4] (fun n i wr => ∃ k : Nat, k ≤ len ∧ i = .int .i64 (k : Int) ∧ n = .int .i64 (numsN l k : Int) ∧ Hid (Below w.heap.size w wr)) (fun _ i _ => len - (intOf i).toNat)
  case atStart => exact ⟨0, by omega, rfl, rfl, Lib.hid (Below.refl _ _)⟩
  case round =>
    obtain ⟨k, hk, rfl, rfl, HB⟩ := hrel
    have hn := numsN_le l k
    have hn0 : (0 : Int) ≤ (numsN l k : Int) := by omega
    by_cases hkl : k < len
    · have hkl' : (k : Int) < (len : Int) := by omega
      have hk0 : (0 : Int) ≤ (k : Int) := by omega
      obtain ⟨b, o, e, c0, c1, c2, c3, c4⟩ := step_at (HS.out.ext HB.out) HL.out k hkl
      subst e
      have HU : Hid (∀ x y : Int, (l.getD k StepL.zero).k = x → (l.getD k StepL.zero).n = y → isU l k = (decide (x = 0) && decide (1 ≤ y))) := Lib.hid (fun x y h1 h2 => by unfold isU; rw [h1, h2])
      have HE : Hid (∀ j, eqU l k j = (decide ((l.getD j StepL.zero).k = 0) && decide ((l.getD j StepL.zero).n = (l.getD k StepL.zero).n))) := Lib.hid (fun j => rfl)
      generalize hx : (l.getD k StepL.zero).k = x at *
      generalize hz : (l.getD k StepL.zero).n = z at *
      have HU2 : Hid (isU l k = (decide (x = 0) && decide (1 ≤ z))) := Lib.hid (HU.out x z rfl rfl)
      have HZ : Hid ((l.getD k StepL.zero).n = z) := Lib.hid hz
      clear hx hz HU c1 c3 c4
      go_upto_region 5 with (fail)
      go_cut [5] (fun v wx => v = .bool (isU l k) ∧ wx = wr)
      case first =>
        by_cases hx : x = 0
        · by_cases hz : 1 ≤ z
          · rw [decide_eq_true hx, decide_eq_true hz] at HU2
            go_wp2_with fail
            go_meet
            exact ⟨by rw [HU2.out]; rfl, rfl⟩
          · rw [decide_eq_true hx, decide_eq_false hz] at HU2
            go_wp2_with fail
            go_meet
            exact ⟨by rw [HU2.out]; rfl, rfl⟩
        · rw [decide_eq_false hx] at HU2
          go_wp2_with fail
          go_meet
          exact ⟨by rw [HU2.out]; rfl, rfl⟩
      case rest =>
      obtain ⟨rfl, rfl⟩ := hcut
      clear HU2 c0
      go_upto_region 6 with (fail)
      go_wp2_with fail
      go_loopw [5, 6] (fun v i wx => ∃ j : Nat, j ≤ k ∧ i = .int .i64 (j : Int) ∧ v = .bool (fstB l k j) ∧ Hid (Below w.heap.size w wx)) (fun _ i _ => k - (intOf i).toNat)
      case atStart => exact ⟨0, by omega, rfl, rfl, HB⟩
      case round =>
        obtain ⟨j, hj, rfl, rfl, HB2⟩ := hrel
        have c2' : wr.cell? ⟨b, o + k * 5 + 2, none⟩ = some (.int .i64 z) := by
          obtain ⟨b1, o1, e1, d0, d1, d2, d3, d4⟩ := step_at (HS.out.ext HB2.out) HL.out k hkl
          cases e1
          rw [d2, HZ.out]
        have hj0 : (0 : Int) ≤ (j : Int) := by omega
        by_cases hjk : j < k
        · have hjk' : (j : Int) < (k : Int) := by omega
          have hjl : (j : Int) < (len : Int) := by omega
          obtain ⟨b1, o1, e1, d0, d1, d2, d3, d4⟩ := step_at (HS.out.ext HB2.out) HL.out j (by omega)
          cases e1
          have HE2 : Hid (∀ x y : Int, (l.getD j StepL.zero).k = x → (l.getD j StepL.zero).n = y → fstB l k (j + 1) = (fstB l k j && !(decide (x = 0) && decide (y = z)))) := Lib.hid (fun x y h1 h2 => by rw [← h1, ← h2, ← HE.out j]; rfl)
          generalize hx : (l.getD j StepL.zero).k = xj at *
          generalize hy : (l.getD j StepL.zero).n = yj at *
          have HE3 : Hid (fstB l k (j + 1) = (fstB l k j && !(decide (xj = 0) && decide (yj = z)))) := Lib.hid (HE2.out xj yj rfl rfl)
          clear hx hy HE2 d1 d3 d4
          by_cases hx : xj = 0
          · have hdx : decide (xj = 0) = true := decide_eq_true hx
            by_cases hy : yj = z
            · rw [decide_eq_true hx, decide_eq_true hy] at HE3
              subst hx; subst hy
              clear hdx
              go_wp2_with fail
              go_quiet (fail)
              go_wp2_with fail
              go_roundw
              case rel => exact ⟨j + 1, by omega, by go_num, by rw [HE3.out]; simp, by exact Lib.hid (below_drewN HB2.out _)⟩
              case measure => simp [intOf]; omega
            · have hdy : decide (yj = z) = false := decide_eq_false hy
              rw [decide_eq_true hx, decide_eq_false hy] at HE3
              subst hx
              clear hdx
              go_wp2_with fail
              go_quiet (fail)
              go_wp2_with fail
              go_roundw
              case rel => exact ⟨j + 1, by omega, by go_num, by rw [HE3.out]; simp, by exact Lib.hid (below_drewN HB2.out _)⟩
              case measure => simp [intOf]; omega
          · have hdx : decide (xj = 0) = false := decide_eq_false hx
            rw [decide_eq_false hx] at HE3
            go_wp2_with fail
            go_quiet (fail)
            go_wp2_with fail
            go_roundw
            case rel => exact ⟨j + 1, by omega, by go_num, by rw [HE3.out]; simp, by exact Lib.hid (below_drewN HB2.out _)⟩
            case measure => simp [intOf]; omega
        · obtain rfl : j = k := by omega
          have hjk' : ¬ (j : Int) < (j : Int) := by omega
          have HN : Hid (numsN l (j + 1) = numsN l j + (if fstB l j j = true then 1 else 0)) := Lib.hid rfl
          cases hf : fstB l j j with
          | true =>
            rw [hf] at HN
            go_wp2_with fail
            go_roundw
            case rel => exact ⟨j + 1, by omega, by go_num, by rw [HN.out]; go_num, HB2⟩
            case measure => simp [intOf]; omega
          | false =>
            rw [hf] at HN
            go_wp2_with fail
            go_roundw
            case rel => exact ⟨j + 1, by omega, by go_num, by rw [HN.out]; rfl, HB2⟩
            case measure => simp [intOf]; omega
    · obtain rfl : k = len := by omega
      have hkl' : ¬ (k : Int) < (k : Int) := by omega
      go_wp2
      go_ret
      exact ⟨rfl, HB.out⟩
end Go.Proofs.Ytpmjgiabedjlgaa
