/-
  LOCKS, THE WALKS: the reference's Same.
-/
import Derived.Test.YtgfgkgidpinmoaaProg
import Derived.Test.YtgfgkgidpinmoaaBase3
import Derived.Test.YtgfgkgidpinmoaaBase5
import Derived.Test.YtgfgkgidpinmoaaBase6
import Derived.Test.YtgfgkgidpinmoaaBase7
import Derived.Test.YtgfgkgidpinmoaaBase14
import Derived.Test.YtgfgkgidpinmoaaLockP
import Derived.Test.YtgfgkgidpinmoaaLock1
import Derived.Test.YtgfgkgidpinmoaaLock2
import Derived.Test.YtgfgkgidpinmoaaHeld
import Derived.BigQuiet
import Derived.Laws.StructEq
import Derived.StillTailTactics
import Derived.RegionTactic
import Derived.Deep.DeepCutAuto
import Derived.Deep.QuietTactic
import Derived.WalkSpells
import Derived.WalkLawsBesides
namespace Go.Proofs.Ytgfgkgidpinmoaa
open Go.RowKit
set_option linter.unusedVariables false

theorem sl_rep {w : World} {ao : Option Addr} {len cap : Nat} {l : List Rep} (h : Sl w 6 ao len cap (rcs l)) (hl : l.length = len) (k : Nat) (hk : k < len) :
    ∃ b o, ao = some ⟨b, o, none⟩ ∧ ∀ j v, (repA (l.getD k (0, 0, 0, 0, 0, 0)))[j]? = some v → w.cell? ⟨b, o + k * 6 + j, none⟩ = some v := by
  have hj6 : ∀ j v, (repA (l.getD k (0, 0, 0, 0, 0, 0)))[j]? = some v → j < 6 := fun j v e => by
    have := (Array.getElem?_eq_some_iff.1 e).1
    simpa [repA] using this
  obtain ⟨b, o, e, _, hc⟩ := h.addr (by rw [rcs_len]; omega)
  refine ⟨b, o, e, fun j v hv => ?_⟩
  have := hc (k * 6 + j) v (by rw [rcs_get l k j (by omega) (hj6 j v hv)]; exact hv)
  rw [Nat.add_assoc]
  exact this
set_option maxRecDepth 100000 in
theorem rep_neq (x y : Rep) (w : World) : (binOp .neq 79 (.agg (repA x)) (.agg (repA y))).run Try.prog w = .ok (.bool (!decide (x = y))) w := by
  obtain ⟨x1, x2, x3, x4, x5, x6⟩ := x
  obtain ⟨y1, y2, y3, y4, y5, y6⟩ := y
  have h1 : Try.prog.underlying 79 = some (.struct (Try.prog.fieldsOf 79)) := by kernel_rfl
  have h2 : Try.prog.stoodInHeld 79 = false := by kernel_rfl
  rw [run_neq_struct, run_equalIn_agg _ _ _ _ _ h1 h2]
  simp only [Program.fieldsOf, Try.underlying79, repA]
  clear h1 h2
  go_simp
  by_cases e1 : x1 = y1 <;> by_cases e2 : x2 = y2 <;> by_cases e3 : x3 = y3 <;> by_cases e4 : x4 = y4 <;> by_cases e5 : x5 = y5 <;> by_cases e6 : x6 = y6 <;> simp [e1, e2, e3, e4, e5, e6]
set_option maxRecDepth 100000 in
set_option maxHeartbeats 2000000 in
theorem same16_any (xs ys : List Rep) (ao bo : Option Addr) (la ca lb cb : Nat) (w : World) (ha : Sl w 6 ao la ca (rcs xs)) (hb : Sl w 6 bo lb cb (rcs ys)) (hx : xs.length = la) (hy : ys.length = lb) (hla : la ≤ 1000000000000) :
    Calls Try.prog 49 #[.slice ao la ca, .slice bo lb cb] w (RetB (.bool (decide (xs = ys))) w) := by
  by_cases hl : la = lb
  · subst hl
    have C1 := Lib.hid hx
    have C2 := Lib.hid hy
    clear hx hy
    go_enter Try.func49, Try.ntmps49
    go_wp2
    go_loopw [5] (fun i wr => ∃ k : Nat, k ≤ la ∧ i = .int .i64 k ∧ Hid (∀ j, j < k → xs.getD j (0, 0, 0, 0, 0, 0) = ys.getD j (0, 0, 0, 0, 0, 0)) ∧ Below w.heap.size w wr) (fun i _ => la - (intOf i).toNat)
    case atStart => exact ⟨0, by omega, rfl, fun j hj => by omega, Below.refl _ _⟩
    case round =>
      obtain ⟨k, hk, rfl, hall, hbel⟩ := hrel
      by_cases hkl : k < la
      · obtain ⟨b1, o1, e1, hc1⟩ := sl_rep (ha.ext hbel) C1.out k hkl
        obtain ⟨b2, o2, e2, hc2⟩ := sl_rep (hb.ext hbel) C2.out k hkl
        subst e1; subst e2
        have hkl' : (k : Int) < (la : Int) := by omega
        have hk0 : (0 : Int) ≤ (k : Int) := by omega
        generalize hx : xs.getD k (0, 0, 0, 0, 0, 0) = x at *
        generalize hyy : ys.getD k (0, 0, 0, 0, 0, 0) = y at *
        have HX := Lib.hid hx
        have HY := Lib.hid hyy
        clear hx hyy
        have hq := fun W => rep_neq x y W
        obtain ⟨x1, x2, x3, x4, x5, x6⟩ := x
        obtain ⟨y1, y2, y3, y4, y5, y6⟩ := y
        have p0 : wr.cell? ⟨b1, o1 + k * 6, none⟩ = some (.int .i64 x1) := hc1 0 _ rfl; have p1 : wr.cell? ⟨b1, o1 + k * 6 + 1, none⟩ = some (.int .i64 x2) := hc1 1 _ rfl; have p2 : wr.cell? ⟨b1, o1 + k * 6 + 2, none⟩ = some (.int .i64 x3) := hc1 2 _ rfl; have p3 : wr.cell? ⟨b1, o1 + k * 6 + 3, none⟩ = some (.int .i64 x4) := hc1 3 _ rfl; have p4 : wr.cell? ⟨b1, o1 + k * 6 + 4, none⟩ = some (.int .i64 x5) := hc1 4 _ rfl; have p5 : wr.cell? ⟨b1, o1 + k * 6 + 5, none⟩ = some (.int .i64 x6) := hc1 5 _ rfl
        have q0 : wr.cell? ⟨b2, o2 + k * 6, none⟩ = some (.int .i64 y1) := hc2 0 _ rfl; have q1 : wr.cell? ⟨b2, o2 + k * 6 + 1, none⟩ = some (.int .i64 y2) := hc2 1 _ rfl; have q2 : wr.cell? ⟨b2, o2 + k * 6 + 2, none⟩ = some (.int .i64 y3) := hc2 2 _ rfl; have q3 : wr.cell? ⟨b2, o2 + k * 6 + 3, none⟩ = some (.int .i64 y4) := hc2 3 _ rfl; have q4 : wr.cell? ⟨b2, o2 + k * 6 + 4, none⟩ = some (.int .i64 y5) := hc2 4 _ rfl; have q5 : wr.cell? ⟨b2, o2 + k * 6 + 5, none⟩ = some (.int .i64 y6) := hc2 5 _ rfl
        simp only [repA] at hq
        clear hc1 hc2
        by_cases hxy : (x1, x2, x3, x4, x5, x6) = (y1, y2, y3, y4, y5, y6)
        · rw [decide_eq_true hxy] at hq
          have HE := Lib.hid hxy
          clear hxy
          go_wp2
          go_quiet (fail)
          go_wp2
          go_roundw
          case rel => exact ⟨k + 1, by omega, by go_num, fun j hj => by
            by_cases hjk : j = k
            · subst hjk; rw [HX.out, HY.out, HE.out]
            · exact hall.out j (by omega), by exact below_drewN hbel _⟩
          case measure => simp [intOf]; omega
        · rw [decide_eq_false hxy] at hq
          have hne : ¬ xs = ys := fun h => hxy (by rw [← HX.out, ← HY.out, h])
          have HN := Lib.hid hne
          clear hne hxy
          go_wp2
          go_quiet (fail)
          go_wp2
          go_ret
          exact ⟨congrArg (fun b => Ending.returned (.bool b)) (by rw [decide_eq_false HN.out]), by exact below_drewN hbel _⟩
      · have hkl' : ¬ (k : Int) < (la : Int) := by omega
        have hee : xs = ys := by
          apply List.ext_getElem (by rw [C1.out, C2.out])
          intro i h1 h2
          have := hall.out i (by have := C1.out; omega)
          simpa [List.getD, h1, h2] using this
        have HN := Lib.hid hee
        clear hee
        go_wp2
        go_ret
        exact ⟨congrArg (fun b => Ending.returned (.bool b)) (by rw [decide_eq_true HN.out]), hbel⟩
  · have hne : ¬ xs = ys := fun h => hl (by rw [← hx, ← hy, h])
    have HN := Lib.hid hne
    clear hne hx hy
    have hl' : ¬ (la : Int) = (lb : Int) := by omega
    go_enter Try.func49, Try.ntmps49
    go_wp2
    go_ret
    exact ⟨congrArg (fun b => Ending.returned (.bool b)) (by rw [decide_eq_false HN.out]), Below.refl _ _⟩
end Go.Proofs.Ytgfgkgidpinmoaa
