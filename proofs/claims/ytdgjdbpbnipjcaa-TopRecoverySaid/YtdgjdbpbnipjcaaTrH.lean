/-
  JOURNALS: events in memory, and framed.
-/
import Derived.Test.YtdgjdbpbnipjcaaBase7
import Derived.Test.YtdgjdbpbnipjcaaFlat
import Derived.BigQuiet
import Derived.BigRegion
import Derived.Laws.StructEq
import Derived.StillTailTactics
import Derived.RegionTactic
import Derived.Deep.DeepCutAuto
import Derived.Deep.QuietTactic
import Derived.WalkSpells
import Derived.WalkLawsBesides
namespace Go.Proofs.Ytdgjdbpbnipjcaa
open Go.RowKit
set_option linter.unusedVariables false

/-- An event: Device, Seq, At, Late, Kind, Bike, Place, Rider, Ride. -/
structure EvL where
  d : Int
  s : Int
  a : Int
  l : Int
  k : Int
  b : Int
  p : Int
  r : Int
  e : Int
  deriving DecidableEq
def evL (x : EvL) : List Int := [x.d, x.s, x.a, x.l, x.k, x.b, x.p, x.r, x.e]
def evA (x : EvL) : Array Value := #[.int .i64 x.d, .int .i64 x.s, .int .i64 x.a, .int .i64 x.l, .int .i64 x.k, .int .i64 x.b, .int .i64 x.p, .int .i64 x.r, .int .i64 x.e]
def EvL.zero : EvL := ⟨0, 0, 0, 0, 0, 0, 0, 0, 0⟩
/-- Whether an event has a frame. -/
def inM (n : Int) : Bool := decide (-1125899906842624 ≤ n) && decide (n ≤ 1125899906842624)
def framedB (x : EvL) : Bool := (evL x).all inM
theorem nine_cellsE {W : World} {k : Nat} {x0 x1 x2 x3 x4 x5 x6 x7 x8 : Value} (h : BlkAt W k #[x0, x1, x2, x3, x4, x5, x6, x7, x8]) : W.cell? ⟨k, 0, none⟩ = some x0 ∧ W.cell? ⟨k, 1, none⟩ = some x1 ∧ W.cell? ⟨k, 2, none⟩ = some x2 ∧ W.cell? ⟨k, 3, none⟩ = some x3 ∧ W.cell? ⟨k, 4, none⟩ = some x4 ∧ W.cell? ⟨k, 5, none⟩ = some x5 ∧ W.cell? ⟨k, 6, none⟩ = some x6 ∧ W.cell? ⟨k, 7, none⟩ = some x7 ∧ W.cell? ⟨k, 8, none⟩ = some x8 := by
  obtain ⟨E, h⟩ := h
  refine ⟨?_, ?_, ?_, ?_, ?_, ?_, ?_, ?_, ?_⟩ <;> (rw [cell_of_row _ _ _ _ _ _ h]; rfl)
/-- A block of ints, one cell. -/
theorem ints_cell {W : World} {g : Nat} {l : List Int} (h : BlkAt W g (cs i64v l).toArray) (i : Nat) (hi : i < l.length) : W.cell? ⟨g, i, none⟩ = some (.int .i64 (l.getD i 0)) := by
  obtain ⟨E, h⟩ := h
  rw [cell_of_row _ _ _ _ _ _ h]
  simp [cs, List.getD_eq_getElem?_getD, List.getElem?_eq_getElem hi]
  rfl
theorem framed_false {x : EvL} {i : Nat} (hi : i < (evL x).length) (h : inM ((evL x).getD i 0) = false) : framedB x = false := by
  unfold framedB
  rw [List.all_eq_false]
  refine ⟨(evL x).getD i 0, ?_, by rw [h]; decide⟩
  rw [List.getD_eq_getElem?_getD, List.getElem?_eq_getElem hi]
  exact List.getElem_mem _
theorem framed_true {x : EvL} (h : ∀ i, i < (evL x).length → inM ((evL x).getD i 0) = true) : framedB x = true := by
  unfold framedB
  rw [List.all_eq_true]
  intro n hn
  obtain ⟨i, hi, e⟩ := List.getElem_of_mem hn
  have := h i hi
  rw [List.getD_eq_getElem?_getD, List.getElem?_eq_getElem hi] at this
  rw [← e]
  exact this
set_option maxRecDepth 100000 in
set_option maxHeartbeats 2000000 in
theorem framed_any (x : EvL) (w : World) : Calls Try.prog 14 #[.agg (evA x)] w (RetB (.bool (framedB x)) w) := by
  have HX : Hid (∃ L : List Int, L = evL x ∧ L.length = 9) := Lib.hid ⟨_, rfl, rfl⟩
  obtain ⟨L, hL, hL9⟩ := HX.out
  have HF : Hid ((∀ i, i < 9 → inM (L.getD i 0) = false → framedB x = false) ∧ ((∀ i, i < 9 → inM (L.getD i 0) = true) → framedB x = true)) := Lib.hid ⟨fun i hi h => framed_false (i := i) (by rw [← hL]; omega) (by rw [← hL]; exact h), fun h => framed_true (fun i hi => by rw [← hL] at hi ⊢; exact h i (by omega))⟩
  obtain ⟨F, hF⟩ : ∃ F, framedB x = F := ⟨_, rfl⟩
  rw [hF] at HF ⊢
  clear hF
  obtain ⟨d, s, a, l, k, b, p, r, e⟩ := x
  have HB0 : Hid (BlkAt ((w.alloc (.cells #[.int .i64 d, .int .i64 s, .int .i64 a, .int .i64 l, .int .i64 k, .int .i64 b, .int .i64 p, .int .i64 r, .int .i64 e] 27)).alloc (.cells #[.int .i64 d, .int .i64 s, .int .i64 a, .int .i64 l, .int .i64 k, .int .i64 b, .int .i64 p, .int .i64 r, .int .i64 e] 3)) (w.heap.size + 1) (cs i64v L).toArray) := Lib.hid (by rw [hL]; exact blkNew (by simp))
  have HLO : Hid (Below w.heap.size w ((w.alloc (.cells #[.int .i64 d, .int .i64 s, .int .i64 a, .int .i64 l, .int .i64 k, .int .i64 b, .int .i64 p, .int .i64 r, .int .i64 e] 27)).alloc (.cells #[.int .i64 d, .int .i64 s, .int .i64 a, .int .i64 l, .int .i64 k, .int .i64 b, .int .i64 p, .int .i64 r, .int .i64 e] 3))) := Lib.hid (below_step (below_alloc _ _) (below_alloc _ _))
  have HL9 := Lib.hid hL9
  clear hL HX hL9
  dsimp only [evA]
  go_enter Try.func14, Try.ntmps14
  go_upto_region 2 with (fail)
  generalize (w.alloc (.cells #[.int .i64 d, .int .i64 s, .int .i64 a, .int .i64 l, .int .i64 k, .int .i64 b, .int .i64 p, .int .i64 r, .int .i64 e] 27)).alloc (.cells #[.int .i64 d, .int .i64 s, .int .i64 a, .int .i64 l, .int .i64 k, .int .i64 b, .int .i64 p, .int .i64 r, .int .i64 e] 3) = W1 at *
  go_loop [25] (fun i => ∃ q : Nat, q ≤ 9 ∧ i = .int .i64 (q : Int) ∧ Hid (∀ j, j < q → inM (L.getD j 0) = true)) (fun i => 9 - (intOf i).toNat)
  case atStart => exact ⟨0, by omega, rfl, Lib.hid (fun j hj => by omega)⟩
  case round =>
    obtain ⟨q, hq, rfl, HQ⟩ := hrel
    have hq0 : (0 : Int) ≤ (q : Int) := by omega
    by_cases hq9 : q < 9
    · have hq9' : (q : Int) < 9 := by omega
      have hc := ints_cell HB0.out q (by have := HL9.out; omega)
      by_cases hm : inM (L.getD q 0) = true
      · have HQ2 : Hid (∀ j, j < q + 1 → inM (L.getD j 0) = true) := Lib.hid (fun j hj => by
          rcases Nat.lt_succ_iff_lt_or_eq.1 hj with hj | rfl
          · exact HQ.out j hj
          · exact hm)
        have hm2 := hm
        unfold inM at hm2
        obtain ⟨h1, h2⟩ := Bool.and_eq_true_iff.1 hm2
        have h1' := of_decide_eq_true h1
        have h2' := of_decide_eq_true h2
        clear hm hm2 h1 h2 HQ
        generalize L.getD q 0 = n at *
        go_wp2
        go_round
        case rel => exact ⟨q + 1, by omega, by go_num, HQ2⟩
        case measure => simp [intOf]; omega
      · have hf : inM (L.getD q 0) = false := by simpa using hm
        obtain rfl := HF.out.1 q hq9 hf
        unfold inM at hf
        generalize L.getD q 0 = n at *
        clear hm HQ
        by_cases h1 : n < -1125899906842624
        · clear hf
          go_wp2
          go_ret
          exact ⟨rfl, HLO.out⟩
        · have h2 : 1125899906842624 < n := by
            simp at hf
            have := hf (by omega)
            omega
          clear hf
          go_wp2
          go_ret
          exact ⟨rfl, HLO.out⟩
    · obtain rfl : q = 9 := by omega
      obtain rfl := HF.out.2 HQ.out
      go_wp2
      go_ret
      exact ⟨rfl, HLO.out⟩
end Go.Proofs.Ytdgjdbpbnipjcaa

namespace Go.Proofs.Ytdgjdbpbnipjcaa
open Go.RowKit
set_option linter.unusedVariables false

def inB (n lo hi : Int) : Bool := decide (lo ≤ n) && decide (n ≤ hi)
def allB (l : List Int) (m : Int) : Bool := l.all fun n => inB n 1 m
/-- A fleet: its numbers, and where its lists lie. -/
structure FlL where
  b : Int
  r : Int
  v : Int
  da : Option Addr
  dn : Nat
  dc : Nat
  ds : List Int
  ta : Option Addr
  tn : Nat
  tc : Nat
  ts : List Int
def flA (f : FlL) : Array Value := #[.int .i64 f.b, .int .i64 f.r, .int .i64 f.v, .slice f.da f.dn f.dc, .slice f.ta f.tn f.tc]
structure FlM (W : World) (f : FlL) : Prop where
  d : Sl W 1 f.da f.dn f.dc (cs i64v f.ds)
  t : Sl W 1 f.ta f.tn f.tc (cs i64v f.ts)
  dl : f.ds.length = f.dn
  tl : f.ts.length = f.tn
theorem FlM.below {W W' : World} {f : FlL} (h : FlM W f) (hb : Below W.heap.size W W') : FlM W' f := ⟨h.d.ext hb, h.t.ext hb, h.dl, h.tl⟩
def fleetE (f : FlL) : Int :=
  if (!inB f.b 1 128 || !inB f.r 1 128 || !inB f.v 1 256) = true then 1
  else if f.dn > 32 ∨ f.tn > 8 then 8
  else if (!allB f.ds 32 || !allB f.ts 32) = true then 1 else 0
theorem within_any (n lo hi : Int) (w : World) : Calls Try.prog 33 #[.int .i64 n, .int .i64 lo, .int .i64 hi] w (fun e w' => e = .returned (.bool (inB n lo hi)) ∧ w' = w) := by
  by_cases h1 : lo ≤ n
  · by_cases h2 : n ≤ hi
    · rw [show inB n lo hi = true by simp [inB, h1, h2]]
      go_enter Try.func33, Try.ntmps33
      go_wp2
      go_ret
      exact ⟨rfl, rfl⟩
    · rw [show inB n lo hi = false by simp [inB, h2]]
      go_enter Try.func33, Try.ntmps33
      go_wp2
      go_ret
      exact ⟨rfl, rfl⟩
  · rw [show inB n lo hi = false by simp [inB, h1]]
    go_enter Try.func33, Try.ntmps33
    go_wp2
    go_ret
    exact ⟨rfl, rfl⟩
theorem allB_false {l : List Int} {m : Int} {i : Nat} (hi : i < l.length) (h : inB (l.getD i 0) 1 m = false) : allB l m = false := by
  unfold allB
  rw [List.all_eq_false]
  refine ⟨l.getD i 0, ?_, by rw [h]; decide⟩
  rw [List.getD_eq_getElem?_getD, List.getElem?_eq_getElem hi]
  exact List.getElem_mem _
theorem allB_true {l : List Int} {m : Int} (h : ∀ i, i < l.length → inB (l.getD i 0) 1 m = true) : allB l m = true := by
  unfold allB
  rw [List.all_eq_true]
  intro n hn
  obtain ⟨i, hi, e⟩ := List.getElem_of_mem hn
  have := h i hi
  rw [List.getD_eq_getElem?_getD, List.getElem?_eq_getElem hi] at this
  rw [← e]
  exact this
theorem sl_int {w : World} {ao : Option Addr} {len cap : Nat} {l : List Int} (h : Sl w 1 ao len cap (cs i64v l)) (hl : l.length = len) (k : Nat) (hk : k < len) : ∃ b o, ao = some ⟨b, o, none⟩ ∧ w.cell? ⟨b, o + k, none⟩ = some (.int .i64 (l.getD k 0)) := by
  have e : cs i64v l = flatV (fun n : Int => #[.int .i64 n]) l := by
    clear h hl hk
    unfold cs flatV
    induction l with
    | nil => rfl
    | cons x l ih => rw [List.map_cons, List.flatMap_cons, ih]; rfl
  rw [e] at h
  obtain ⟨b, o, e, hc⟩ := flat_at (0 : Int) (fun n : Int => #[.int .i64 n]) 1 (by decide) (fun _ => rfl) h hl k hk
  refine ⟨b, o, e, ?_⟩
  have := hc 0 (.int .i64 (l.getD k 0)) rfl
  simpa using this
set_option maxRecDepth 100000 in
set_option maxHeartbeats 2000000 in
theorem all_any (l : List Int) (m : Int) (ao : Option Addr) (len cap : Nat) (w : World) (hs : Sl w 1 ao len cap (cs i64v l)) (hl : l.length = len) (hlen : len ≤ 1000000) :
    Calls Try.prog 34 #[.slice ao len cap, .int .i64 m] w (fun e w' => e = .returned (.bool (allB l m)) ∧ w' = w) := by
  have HS := Lib.hid hs
  have HL := Lib.hid hl
  have HF : Hid ((∀ i, i < len → inB (l.getD i 0) 1 m = false → allB l m = false) ∧ ((∀ i, i < len → inB (l.getD i 0) 1 m = true) → allB l m = true)) :=
    Lib.hid ⟨fun i hi h => allB_false (i := i) (by omega) h, fun h => allB_true (fun i hi => h i (by omega))⟩
  clear hs hl
  obtain ⟨F, hF⟩ : ∃ F, allB l m = F := ⟨_, rfl⟩
  rw [hF] at HF ⊢
  clear hF
  go_enter Try.func34, Try.ntmps34
  go_wp2
  go_loop [9] (fun i => ∃ q : Nat, q ≤ len ∧ i = .int .i64 (q : Int) ∧ Hid (∀ j, j < q → inB (l.getD j 0) 1 m = true)) (fun i => len - (intOf i).toNat)
  case atStart => exact ⟨0, by omega, rfl, Lib.hid (fun j hj => by omega)⟩
  case round =>
    obtain ⟨q, hq, rfl, HQ⟩ := hrel
    have hq0 : (0 : Int) ≤ (q : Int) := by omega
    by_cases hql : q < len
    · have hql' : (q : Int) < (len : Int) := by omega
      obtain ⟨b, o, e, hc⟩ := sl_int HS.out HL.out q hql
      subst e
      have HQ2 : Hid (inB (l.getD q 0) 1 m = true → ∀ j, j < q + 1 → inB (l.getD j 0) 1 m = true) := Lib.hid (fun hm j hj => by
        rcases Nat.lt_succ_iff_lt_or_eq.1 hj with hj | rfl
        · exact HQ.out j hj
        · exact hm)
      have HQ3 : Hid (inB (l.getD q 0) 1 m = false → F = false) := Lib.hid (HF.out.1 q hql)
      generalize l.getD q 0 = n at *
      have HWI := Lib.hid (within_any n 1 m)
      generalize inB n 1 m = B at *
      cases B with
      | true =>
        have HQ4 := Lib.hid (HQ2.out rfl)
        clear HQ2 HQ3 HF
        go_wp2_with (go_at_call 33; refine (HWI.out _).mono ?_; rintro e w' ⟨rfl, rfl⟩)
        go_round
        case rel => exact ⟨q + 1, by omega, by go_num, HQ4⟩
        case measure => simp [intOf]; omega
      | false =>
        obtain rfl := HQ3.out rfl
        clear HQ2 HQ3 HF
        go_wp2_with (go_at_call 33; refine (HWI.out _).mono ?_; rintro e w' ⟨rfl, rfl⟩)
        go_ret
        exact ⟨rfl, rfl⟩
    · obtain rfl : q = len := by omega
      obtain rfl := HF.out.2 HQ.out
      clear HF
      go_wp2
      go_ret
      exact ⟨rfl, rfl⟩
theorem five_cells {W : World} {k : Nat} {x0 x1 x2 x3 x4 : Value} (h : BlkAt W k #[x0, x1, x2, x3, x4]) : W.cell? ⟨k, 0, none⟩ = some x0 ∧ W.cell? ⟨k, 1, none⟩ = some x1 ∧ W.cell? ⟨k, 2, none⟩ = some x2 ∧ W.cell? ⟨k, 3, none⟩ = some x3 ∧ W.cell? ⟨k, 4, none⟩ = some x4 := by
  obtain ⟨E, h⟩ := h
  refine ⟨?_, ?_, ?_, ?_, ?_⟩ <;> (rw [cell_of_row _ _ _ _ _ _ h]; rfl)
set_option maxRecDepth 100000 in
set_option maxHeartbeats 4000000 in
theorem fleet_any (f : FlL) (w : World) (hf : FlM w f) (h1 : f.dn ≤ 100) (h2 : f.tn ≤ 100) : Calls Try.prog 26 #[.agg (flA f)] w (RetB (.int .i64 (fleetE f)) w) := by
  have HD : Hid (∀ W, Below w.heap.size w W → Calls Try.prog 34 #[.slice f.da f.dn f.dc, .int .i64 32] W (fun e w' => e = .returned (.bool (allB f.ds 32)) ∧ w' = W)) := Lib.hid (fun W hb => all_any f.ds 32 f.da f.dn f.dc W (hf.d.ext hb) hf.dl (by omega))
  have HT : Hid (∀ W, Below w.heap.size w W → Calls Try.prog 34 #[.slice f.ta f.tn f.tc, .int .i64 32] W (fun e w' => e = .returned (.bool (allB f.ts 32)) ∧ w' = W)) := Lib.hid (fun W hb => all_any f.ts 32 f.ta f.tn f.tc W (hf.t.ext hb) hf.tl (by omega))
  obtain ⟨R, hR⟩ : ∃ R, fleetE f = R := ⟨_, rfl⟩
  have HR := Lib.hid hR
  rw [hR]
  unfold fleetE at HR
  have HW := Lib.hid (fun n lo hi W => within_any n lo hi W)
  clear hf hR
  obtain ⟨b, r, v, da, dn, dc, ds, ta, tn, tc, ts⟩ := f
  dsimp only [flA] at *
  have HB : Hid (Below w.heap.size w (w.alloc (.cells #[.int .i64 b, .int .i64 r, .int .i64 v, .slice da dn dc, .slice ta tn tc] 24))) := Lib.hid (below_alloc _ _)
  have HC : Hid (BlkAt (w.alloc (.cells #[.int .i64 b, .int .i64 r, .int .i64 v, .slice da dn dc, .slice ta tn tc] 24)) w.heap.size #[.int .i64 b, .int .i64 r, .int .i64 v, .slice da dn dc, .slice ta tn tc]) := Lib.hid (blkNew rfl)
  obtain ⟨B1, hB1⟩ : ∃ B, inB b 1 128 = B := ⟨_, rfl⟩
  obtain ⟨B2, hB2⟩ : ∃ B, inB r 1 128 = B := ⟨_, rfl⟩
  obtain ⟨B3, hB3⟩ : ∃ B, inB v 1 256 = B := ⟨_, rfl⟩
  obtain ⟨A1, hA1⟩ : ∃ B, allB ds 32 = B := ⟨_, rfl⟩
  obtain ⟨A2, hA2⟩ : ∃ B, allB ts 32 = B := ⟨_, rfl⟩
  rw [hB1, hB2, hB3, hA1, hA2] at HR
  rw [hA1] at HD
  rw [hA2] at HT
  have HW1 : Hid (∀ W, Calls Try.prog 33 #[.int .i64 b, .int .i64 1, .int .i64 128] W (fun e w' => e = .returned (.bool B1) ∧ w' = W)) := Lib.hid (fun W => by rw [← hB1]; exact HW.out _ _ _ W)
  have HW2 : Hid (∀ W, Calls Try.prog 33 #[.int .i64 r, .int .i64 1, .int .i64 128] W (fun e w' => e = .returned (.bool B2) ∧ w' = W)) := Lib.hid (fun W => by rw [← hB2]; exact HW.out _ _ _ W)
  have HW3 : Hid (∀ W, Calls Try.prog 33 #[.int .i64 v, .int .i64 1, .int .i64 256] W (fun e w' => e = .returned (.bool B3) ∧ w' = W)) := Lib.hid (fun W => by rw [← hB3]; exact HW.out _ _ _ W)
  clear hB1 hB2 hB3 hA1 hA2 HW
  go_enter Try.func26, Try.ntmps26
  go_upto_region 1 with (fail)
  generalize w.alloc (.cells #[.int .i64 b, .int .i64 r, .int .i64 v, .slice da dn dc, .slice ta tn tc] 24) = W1 at *
  obtain ⟨c0, c1, c2, c3, c4⟩ := five_cells HC.out
  have done : ∀ n : Int, R = n → RetB (.int .i64 R) w (.returned (.int .i64 n)) W1 := fun n h => ⟨by rw [h], HB.out⟩
  by_cases y1 : dn > 32
  · have y1' : (32 : Int) < (dn : Int) := by omega
    have HRZ : Hid ((if (!B1 || !B2 || !B3) = true then 1 else 8) = R) := Lib.hid (by rw [← HR.out, if_pos (show dn > 32 ∨ tn > 8 from .inl y1)])
    clear y1 HR
    go_wp2_with (first
      | (go_at_call 33; (with_reducible refine (HW1.out _).mono ?_); rintro e w' ⟨rfl, rfl⟩)
      | (go_at_call 33; (with_reducible refine (HW2.out _).mono ?_); rintro e w' ⟨rfl, rfl⟩)
      | (go_at_call 33; (with_reducible refine (HW3.out _).mono ?_); rintro e w' ⟨rfl, rfl⟩))
    all_goals (go_ret; exact done _ (by rw [← HRZ.out]; simp [*]))
  · by_cases y2 : tn > 8
    · have y2' : (8 : Int) < (tn : Int) := by omega
      have y1' : ¬ (32 : Int) < (dn : Int) := by omega
      have HRZ : Hid ((if (!B1 || !B2 || !B3) = true then 1 else 8) = R) := Lib.hid (by rw [← HR.out, if_pos (show dn > 32 ∨ tn > 8 from .inr y2)])
      clear y1 y2 HR
      go_wp2_with (first
        | (go_at_call 33; (with_reducible refine (HW1.out _).mono ?_); rintro e w' ⟨rfl, rfl⟩)
        | (go_at_call 33; (with_reducible refine (HW2.out _).mono ?_); rintro e w' ⟨rfl, rfl⟩)
        | (go_at_call 33; (with_reducible refine (HW3.out _).mono ?_); rintro e w' ⟨rfl, rfl⟩))
      all_goals (go_ret; exact done _ (by rw [← HRZ.out]; simp [*]))
    · have y1' : ¬ (32 : Int) < (dn : Int) := by omega
      have y2' : ¬ (8 : Int) < (tn : Int) := by omega
      have HRZ : Hid ((if (!B1 || !B2 || !B3) = true then 1 else if (!A1 || !A2) = true then 1 else 0) = R) := Lib.hid (by rw [← HR.out, if_neg (show ¬ (dn > 32 ∨ tn > 8) by omega)])
      clear y1 y2 HR
      go_wp2_with (first
        | (go_at_call 33; (with_reducible refine (HW1.out _).mono ?_); rintro e w' ⟨rfl, rfl⟩)
        | (go_at_call 33; (with_reducible refine (HW2.out _).mono ?_); rintro e w' ⟨rfl, rfl⟩)
        | (go_at_call 33; (with_reducible refine (HW3.out _).mono ?_); rintro e w' ⟨rfl, rfl⟩)
        | (go_at_call 34; (with_reducible refine (HD.out _ HB.out).mono ?_); rintro e w' ⟨rfl, rfl⟩)
        | (go_at_call 34; (with_reducible refine (HT.out _ HB.out).mono ?_); rintro e w' ⟨rfl, rfl⟩))
      all_goals (go_ret; exact done _ (by rw [← HRZ.out]; simp [*]))
end Go.Proofs.Ytdgjdbpbnipjcaa
