/-
  JOURNALS: SameEvents, SameSpots, few.
-/
import Derived.Test.YtdgjdbpbnipjcaaProg
import Derived.Test.YtdgjdbpbnipjcaaTrH
import Derived.Test.YtdgjdbpbnipjcaaTrU
import Derived.Test.YtdgjdbpbnipjcaaFlat
import Derived.BigQuiet
import Derived.Laws.StructEq
import Derived.StillTailTactics
import Derived.RegionTactic
import Derived.Deep.DeepCutAuto
import Derived.Deep.QuietTactic
import Derived.WalkSpells
import Derived.WalkLawsBesides
namespace Go.Proofs.Ytdgjdbpbnipjcaa
open Go.RowKit
set_option linter.unusedVariables false

/-- Where a bicycle is. -/
structure SpL where
  w : Int
  p : Int
  r : Int
  z : Bool
  deriving DecidableEq
def spA (x : SpL) : Array Value := #[.int .i64 x.w, .int .i64 x.p, .int .i64 x.r, .bool x.z]
def SpL.zero : SpL := ⟨0, 0, 0, false⟩
set_option maxRecDepth 100000 in
theorem ev_neq (x y : EvL) (w : World) : (binOp .neq 27 (.agg (evA x)) (.agg (evA y))).run Try.prog w = .ok (.bool (!decide (x = y))) w := by
  obtain ⟨x0, x1, x2, x3, x4, x5, x6, x7, x8⟩ := x
  obtain ⟨y0, y1, y2, y3, y4, y5, y6, y7, y8⟩ := y
  have h1 : Try.prog.underlying 27 = some (.struct (Try.prog.fieldsOf 27)) := by kernel_rfl
  have h2 : Try.prog.stoodInHeld 27 = false := by kernel_rfl
  rw [run_neq_struct, run_equalIn_agg _ _ _ _ _ h1 h2]
  simp only [Program.fieldsOf, Try.underlying27, evA, EvL.mk.injEq]
  clear h1 h2
  go_simp
  by_cases e0 : x0 = y0
  case neg => simp [e0]
  by_cases e1 : x1 = y1
  case neg => simp [e1, e0]
  by_cases e2 : x2 = y2
  case neg => simp [e2, e0, e1]
  by_cases e3 : x3 = y3
  case neg => simp [e3, e0, e1, e2]
  by_cases e4 : x4 = y4
  case neg => simp [e4, e0, e1, e2, e3]
  by_cases e5 : x5 = y5
  case neg => simp [e5, e0, e1, e2, e3, e4]
  by_cases e6 : x6 = y6
  case neg => simp [e6, e0, e1, e2, e3, e4, e5]
  by_cases e7 : x7 = y7
  case neg => simp [e7, e0, e1, e2, e3, e4, e5, e6]
  by_cases e8 : x8 = y8
  case neg => simp [e8, e0, e1, e2, e3, e4, e5, e6, e7]
  simp [e0, e1, e2, e3, e4, e5, e6, e7, e8]
set_option maxRecDepth 100000 in
set_option maxHeartbeats 4000000 in
theorem sameEv_any (xs ys : List EvL) (ao bo : Option Addr) (la ca lb cb : Nat) (w : World) (ha : Sl w 9 ao la ca (flatV evA xs)) (hb : Sl w 9 bo lb cb (flatV evA ys)) (hx : xs.length = la) (hy : ys.length = lb) (hla : la ≤ 1000000000000) :
    Calls Try.prog 8 #[.slice ao la ca, .slice bo lb cb] w (RetB (.bool (decide (xs = ys))) w) := by
  by_cases hl : la = lb
  · subst hl
    have C1 := Lib.hid hx
    have C2 := Lib.hid hy
    clear hx hy
    go_enter Try.func8, Try.ntmps8
    go_wp2
    go_loopw [5] (fun i wr => ∃ k : Nat, k ≤ la ∧ i = .int .i64 k ∧ Hid (∀ j, j < k → xs.getD j EvL.zero = ys.getD j EvL.zero) ∧ Below w.heap.size w wr) (fun i _ => la - (intOf i).toNat)
    case atStart => exact ⟨0, by omega, rfl, fun j hj => by omega, Below.refl _ _⟩
    case round =>
      obtain ⟨k, hk, rfl, hall, hbel⟩ := hrel
      by_cases hkl : k < la
      · obtain ⟨b1, o1, e1, hc1⟩ := flat_at EvL.zero evA 9 (by decide) (fun _ => rfl) (ha.ext hbel) C1.out k hkl
        obtain ⟨b2, o2, e2, hc2⟩ := flat_at EvL.zero evA 9 (by decide) (fun _ => rfl) (hb.ext hbel) C2.out k hkl
        subst e1; subst e2
        have hkl' : (k : Int) < (la : Int) := by omega
        have hk0 : (0 : Int) ≤ (k : Int) := by omega
        generalize hx : xs.getD k EvL.zero = x at *
        generalize hyy : ys.getD k EvL.zero = y at *
        have HX := Lib.hid hx
        have HY := Lib.hid hyy
        clear hx hyy
        have hq := fun W => ev_neq x y W
        obtain ⟨x0, x1, x2, x3, x4, x5, x6, x7, x8⟩ := x
        obtain ⟨y0, y1, y2, y3, y4, y5, y6, y7, y8⟩ := y
        have p0 : wr.cell? ⟨b1, o1 + k * 9, none⟩ = some (.int .i64 x0) := hc1 0 _ rfl
        have p1 : wr.cell? ⟨b1, o1 + k * 9 + 1, none⟩ = some (.int .i64 x1) := hc1 1 _ rfl
        have p2 : wr.cell? ⟨b1, o1 + k * 9 + 2, none⟩ = some (.int .i64 x2) := hc1 2 _ rfl
        have p3 : wr.cell? ⟨b1, o1 + k * 9 + 3, none⟩ = some (.int .i64 x3) := hc1 3 _ rfl
        have p4 : wr.cell? ⟨b1, o1 + k * 9 + 4, none⟩ = some (.int .i64 x4) := hc1 4 _ rfl
        have p5 : wr.cell? ⟨b1, o1 + k * 9 + 5, none⟩ = some (.int .i64 x5) := hc1 5 _ rfl
        have p6 : wr.cell? ⟨b1, o1 + k * 9 + 6, none⟩ = some (.int .i64 x6) := hc1 6 _ rfl
        have p7 : wr.cell? ⟨b1, o1 + k * 9 + 7, none⟩ = some (.int .i64 x7) := hc1 7 _ rfl
        have p8 : wr.cell? ⟨b1, o1 + k * 9 + 8, none⟩ = some (.int .i64 x8) := hc1 8 _ rfl
        have q0 : wr.cell? ⟨b2, o2 + k * 9, none⟩ = some (.int .i64 y0) := hc2 0 _ rfl
        have q1 : wr.cell? ⟨b2, o2 + k * 9 + 1, none⟩ = some (.int .i64 y1) := hc2 1 _ rfl
        have q2 : wr.cell? ⟨b2, o2 + k * 9 + 2, none⟩ = some (.int .i64 y2) := hc2 2 _ rfl
        have q3 : wr.cell? ⟨b2, o2 + k * 9 + 3, none⟩ = some (.int .i64 y3) := hc2 3 _ rfl
        have q4 : wr.cell? ⟨b2, o2 + k * 9 + 4, none⟩ = some (.int .i64 y4) := hc2 4 _ rfl
        have q5 : wr.cell? ⟨b2, o2 + k * 9 + 5, none⟩ = some (.int .i64 y5) := hc2 5 _ rfl
        have q6 : wr.cell? ⟨b2, o2 + k * 9 + 6, none⟩ = some (.int .i64 y6) := hc2 6 _ rfl
        have q7 : wr.cell? ⟨b2, o2 + k * 9 + 7, none⟩ = some (.int .i64 y7) := hc2 7 _ rfl
        have q8 : wr.cell? ⟨b2, o2 + k * 9 + 8, none⟩ = some (.int .i64 y8) := hc2 8 _ rfl
        simp only [evA] at hq
        clear hc1 hc2
        by_cases hxy : (⟨x0, x1, x2, x3, x4, x5, x6, x7, x8⟩ : EvL) = ⟨y0, y1, y2, y3, y4, y5, y6, y7, y8⟩
        · rw [decide_eq_true hxy] at hq
          have HE := Lib.hid hxy
          clear hxy
          go_wp2
          go_quiet (fail)
          go_wp2
          go_roundw
          case rel => exact ⟨k + 1, by omega, by go_num, fun j hj => by
            by_cases hjk : j = k
            · subst hjk; rw [HX.out, HY.out, HE.out]
            · exact hall.out j (by omega), by exact below_drewN hbel _⟩
          case measure => simp [intOf]; omega
        · rw [decide_eq_false hxy] at hq
          have hne : ¬ xs = ys := fun h => hxy (by rw [← HX.out, ← HY.out, h])
          have HN := Lib.hid hne
          clear hne hxy
          go_wp2
          go_quiet (fail)
          go_wp2
          go_ret
          exact ⟨congrArg (fun b => Ending.returned (.bool b)) (by rw [decide_eq_false HN.out]), by exact below_drewN hbel _⟩
      · have hkl' : ¬ (k : Int) < (la : Int) := by omega
        have hee : xs = ys := by
          apply List.ext_getElem (by rw [C1.out, C2.out])
          intro i h1 h2
          have := hall.out i (by have := C1.out; omega)
          simpa [List.getD, h1, h2] using this
        have HN := Lib.hid hee
        clear hee
        go_wp2
        go_ret
        exact ⟨congrArg (fun b => Ending.returned (.bool b)) (by rw [decide_eq_true HN.out]), hbel⟩
  · have hne : ¬ xs = ys := fun h => hl (by rw [← hx, ← hy, h])
    have HN := Lib.hid hne
    clear hne hx hy
    have hl' : ¬ (la : Int) = (lb : Int) := by omega
    go_enter Try.func8, Try.ntmps8
    go_wp2
    go_ret
    exact ⟨congrArg (fun b => Ending.returned (.bool b)) (by rw [decide_eq_false HN.out]), Below.refl _ _⟩
set_option maxRecDepth 100000 in
theorem sp_neq (x y : SpL) (w : World) : (binOp .neq 60 (.agg (spA x)) (.agg (spA y))).run Try.prog w = .ok (.bool (!decide (x = y))) w := by
  obtain ⟨x0, x1, x2, x3⟩ := x
  obtain ⟨y0, y1, y2, y3⟩ := y
  have h1 : Try.prog.underlying 60 = some (.struct (Try.prog.fieldsOf 60)) := by kernel_rfl
  have h2 : Try.prog.stoodInHeld 60 = false := by kernel_rfl
  rw [run_neq_struct, run_equalIn_agg _ _ _ _ _ h1 h2]
  simp only [Program.fieldsOf, Try.underlying60, spA, SpL.mk.injEq]
  clear h1 h2
  go_simp
  by_cases e0 : x0 = y0
  case neg => simp [e0]
  by_cases e1 : x1 = y1
  case neg => simp [e1, e0]
  by_cases e2 : x2 = y2
  case neg => simp [e2, e0, e1]
  by_cases e3 : x3 = y3
  case neg => simp [e3, e0, e1, e2]
  simp [e0, e1, e2, e3]
set_option maxRecDepth 100000 in
set_option maxHeartbeats 4000000 in
theorem sameSp_any (xs ys : List SpL) (ao bo : Option Addr) (la ca lb cb : Nat) (w : World) (ha : Sl w 4 ao la ca (flatV spA xs)) (hb : Sl w 4 bo lb cb (flatV spA ys)) (hx : xs.length = la) (hy : ys.length = lb) (hla : la ≤ 1000000000000) :
    Calls Try.prog 10 #[.slice ao la ca, .slice bo lb cb] w (RetB (.bool (decide (xs = ys))) w) := by
  by_cases hl : la = lb
  · subst hl
    have C1 := Lib.hid hx
    have C2 := Lib.hid hy
    clear hx hy
    go_enter Try.func10, Try.ntmps10
    go_wp2
    go_loopw [5] (fun i wr => ∃ k : Nat, k ≤ la ∧ i = .int .i64 k ∧ Hid (∀ j, j < k → xs.getD j SpL.zero = ys.getD j SpL.zero) ∧ Below w.heap.size w wr) (fun i _ => la - (intOf i).toNat)
    case atStart => exact ⟨0, by omega, rfl, fun j hj => by omega, Below.refl _ _⟩
    case round =>
      obtain ⟨k, hk, rfl, hall, hbel⟩ := hrel
      by_cases hkl : k < la
      · obtain ⟨b1, o1, e1, hc1⟩ := flat_at SpL.zero spA 4 (by decide) (fun _ => rfl) (ha.ext hbel) C1.out k hkl
        obtain ⟨b2, o2, e2, hc2⟩ := flat_at SpL.zero spA 4 (by decide) (fun _ => rfl) (hb.ext hbel) C2.out k hkl
        subst e1; subst e2
        have hkl' : (k : Int) < (la : Int) := by omega
        have hk0 : (0 : Int) ≤ (k : Int) := by omega
        generalize hx : xs.getD k SpL.zero = x at *
        generalize hyy : ys.getD k SpL.zero = y at *
        have HX := Lib.hid hx
        have HY := Lib.hid hyy
        clear hx hyy
        have hq := fun W => sp_neq x y W
        obtain ⟨x0, x1, x2, x3⟩ := x
        obtain ⟨y0, y1, y2, y3⟩ := y
        have p0 : wr.cell? ⟨b1, o1 + k * 4, none⟩ = some (.int .i64 x0) := hc1 0 _ rfl
        have p1 : wr.cell? ⟨b1, o1 + k * 4 + 1, none⟩ = some (.int .i64 x1) := hc1 1 _ rfl
        have p2 : wr.cell? ⟨b1, o1 + k * 4 + 2, none⟩ = some (.int .i64 x2) := hc1 2 _ rfl
        have p3 : wr.cell? ⟨b1, o1 + k * 4 + 3, none⟩ = some (.bool x3) := hc1 3 _ rfl
        have q0 : wr.cell? ⟨b2, o2 + k * 4, none⟩ = some (.int .i64 y0) := hc2 0 _ rfl
        have q1 : wr.cell? ⟨b2, o2 + k * 4 + 1, none⟩ = some (.int .i64 y1) := hc2 1 _ rfl
        have q2 : wr.cell? ⟨b2, o2 + k * 4 + 2, none⟩ = some (.int .i64 y2) := hc2 2 _ rfl
        have q3 : wr.cell? ⟨b2, o2 + k * 4 + 3, none⟩ = some (.bool y3) := hc2 3 _ rfl
        simp only [spA] at hq
        clear hc1 hc2
        by_cases hxy : (⟨x0, x1, x2, x3⟩ : SpL) = ⟨y0, y1, y2, y3⟩
        · rw [decide_eq_true hxy] at hq
          have HE := Lib.hid hxy
          clear hxy
          go_wp2
          go_quiet (fail)
          go_wp2
          go_roundw
          case rel => exact ⟨k + 1, by omega, by go_num, fun j hj => by
            by_cases hjk : j = k
            · subst hjk; rw [HX.out, HY.out, HE.out]
            · exact hall.out j (by omega), by exact below_drewN hbel _⟩
          case measure => simp [intOf]; omega
        · rw [decide_eq_false hxy] at hq
          have hne : ¬ xs = ys := fun h => hxy (by rw [← HX.out, ← HY.out, h])
          have HN := Lib.hid hne
          clear hne hxy
          go_wp2
          go_quiet (fail)
          go_wp2
          go_ret
          exact ⟨congrArg (fun b => Ending.returned (.bool b)) (by rw [decide_eq_false HN.out]), by exact below_drewN hbel _⟩
      · have hkl' : ¬ (k : Int) < (la : Int) := by omega
        have hee : xs = ys := by
          apply List.ext_getElem (by rw [C1.out, C2.out])
          intro i h1 h2
          have := hall.out i (by have := C1.out; omega)
          simpa [List.getD, h1, h2] using this
        have HN := Lib.hid hee
        clear hee
        go_wp2
        go_ret
        exact ⟨congrArg (fun b => Ending.returned (.bool b)) (by rw [decide_eq_true HN.out]), hbel⟩
  · have hne : ¬ xs = ys := fun h => hl (by rw [← hx, ← hy, h])
    have HN := Lib.hid hne
    clear hne hx hy
    have hl' : ¬ (la : Int) = (lb : Int) := by omega
    go_enter Try.func10, Try.ntmps10
    go_wp2
    go_ret
    exact ⟨congrArg (fun b => Ending.returned (.bool b)) (by rw [decide_eq_false HN.out]), Below.refl _ _⟩
end Go.Proofs.Ytdgjdbpbnipjcaa
