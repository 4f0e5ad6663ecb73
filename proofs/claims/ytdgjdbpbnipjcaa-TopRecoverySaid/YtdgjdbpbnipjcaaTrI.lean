/-
  EVENTS: placed, named, event.Check.
-/
import Derived.Test.YtdgjdbpbnipjcaaTrH
import Derived.Test.YtdgjdbpbnipjcaaTrB
import Derived.BigQuiet
import Derived.BigRegion
import Derived.Laws.StructEq
import Derived.StillTailTactics
import Derived.RegionTactic
import Derived.Deep.DeepCutAuto
import Derived.Deep.QuietTactic
import Derived.WalkSpells
import Derived.WalkLawsBesides
namespace Go.Proofs.Ytdgjdbpbnipjcaa
open Go.RowKit
set_option linter.unusedVariables false

theorem quo32 (p : Int) : ∃ Q : Int, (∀ t, binOp .quo t (.int .i64 p) (.int .i64 32) = pure (.int .i64 Q)) ∧ (0 ≤ p → p ≤ 9223372036854775807 → Q = p / 32) := by
  refine ⟨IntKind.i64.wrap (p.tdiv 32), fun t => by simp [go_sem, binOp], fun h0 h1 => ?_⟩
  rw [Int.tdiv_eq_ediv_of_nonneg h0, IntKind.wrap_i64]
  omega
theorem rem32 (p : Int) : ∃ Q : Int, (∀ t, binOp .rem t (.int .i64 p) (.int .i64 32) = pure (.int .i64 Q)) ∧ (0 ≤ p → Q = p % 32) := by
  refine ⟨p.tmod 32, fun t => by simp [go_sem, binOp], fun h0 => ?_⟩
  rw [Int.tmod_eq_emod_of_nonneg h0]
def placedB (f : FlL) (x : EvL) : Bool :=
  if x.k = 1 then decide (0 ≤ x.p) && decide (x.p / 32 < (f.dn : Int)) && decide (x.p % 32 < f.ds.getD (x.p / 32).toNat 0)
  else if x.k = 2 then inB x.p 0 63 else if x.k = 7 then inB x.p 0 ((f.tn : Int) - 1) else decide (x.p = 0)
def namedB (f : FlL) (x : EvL) : Bool :=
  (if x.k = 3 then inB x.r 0 (f.r - 1) else decide (x.r = 0)) && (if x.k = 3 ∨ x.k = 4 then inB x.e 1 1000000 else decide (x.e = 0))
def checkE (f : FlL) (x : EvL) : Int :=
  if fleetE f ≠ 0 then fleetE f
  else if (!inB x.d 0 (f.v - 1) || !inB x.s 1 1048576 || decide (x.a < 0) || decide (x.l < x.a) || decide (4294943999 < x.l)) = true then 1
  else if (!inB x.k 1 10) = true then 14
  else if (!inB x.b 0 (f.b - 1) || (decide (x.k = 10) && decide (x.b ≠ 0))) = true then 1
  else if (!placedB f x) = true then 7
  else if (!namedB f x) = true then 1 else 0
theorem fleetE_zero {f : FlL} (h : fleetE f = 0) : (1 ≤ f.b ∧ f.b ≤ 128) ∧ (1 ≤ f.r ∧ f.r ≤ 128) ∧ (1 ≤ f.v ∧ f.v ≤ 256) ∧ f.dn ≤ 32 ∧ f.tn ≤ 8 := by
  unfold fleetE at h
  split at h
  · cases h
  · next h1 =>
    split at h
    · cases h
    · next h2 =>
      simp [inB] at h1
      omega
/-- Two boxes: a fleet's and an event's. -/
structure TwoW (w : World) (g : Nat) (F E : Array Value) (W : World) : Prop where
  f : BlkAt W g F
  e : BlkAt W (g + 1) E
  bel : Below w.heap.size w W
theorem twoW_new (w : World) (F E : Array Value) (T1 T2 : TypeId) : TwoW w w.heap.size F E ((w.alloc (.cells F T1)).alloc (.cells E T2)) :=
  ⟨blkOld (blkNew rfl), blkNew (by simp), (below_alloc _ _).trans ((below_alloc _ _).mono (by simp))⟩
theorem TwoW.ext {w W W' : World} {g : Nat} {F E : Array Value} (h : TwoW w g F E W) (hb : Below W.heap.size W W') : TwoW w g F E W' := ⟨blkBelow hb h.f, blkBelow hb h.e, below_step h.bel hb⟩
set_option maxRecDepth 100000 in
set_option maxHeartbeats 4000000 in
theorem placed_any (f : FlL) (x : EvL) (w : World) (hf : FlM w f) (h1 : f.dn ≤ 100) (h2 : f.tn ≤ 100) (hx : EvR x) : Calls Try.prog 44 #[.agg (flA f), .agg (evA x)] w (RetB (.bool (placedB f x)) w) := by
  have HF := Lib.hid hf
  have HP : Hid (InI x.p) := Lib.hid (hx x.p (by simp [evL]))
  obtain ⟨T, hT⟩ : ∃ T, placedB f x = T := ⟨_, rfl⟩
  have HT := Lib.hid hT
  rw [hT]
  unfold placedB at HT
  have HW := Lib.hid (fun n lo hi W => within_any n lo hi W)
  clear hf hT hx
  have HX := Lib.hid (twoW_new w (flA f) (evA x) 24 27)
  have HSD : Hid (∀ W, Below w.heap.size w W → ∀ k, k < f.dn → ∃ b o, f.da = some ⟨b, o, none⟩ ∧ W.cell? ⟨b, o + k, none⟩ = some (.int .i64 (f.ds.getD k 0))) := Lib.hid (fun W hb k hk => sl_int (HF.out.d.ext hb) HF.out.dl k hk)
  clear HF
  obtain ⟨b, r, v, da, dn, dc, ds, ta, tn, tc, ts⟩ := f
  obtain ⟨d, s, a, l, k, bi, p, ri, e⟩ := x
  dsimp only [flA, evA] at *
  go_enter Try.func44, Try.ntmps44
  go_upto_region 1 with (fail)
  generalize (w.alloc (.cells #[.int .i64 b, .int .i64 r, .int .i64 v, .slice da dn dc, .slice ta tn tc] 24)).alloc (.cells #[.int .i64 d, .int .i64 s, .int .i64 a, .int .i64 l, .int .i64 k, .int .i64 bi, .int .i64 p, .int .i64 ri, .int .i64 e] 27) = W1 at *
  obtain ⟨c0, c1, c2, c3, c4⟩ := five_cells HX.out.f
  obtain ⟨e0, e1, e2, e3, e4, e5, e6, e7, e8⟩ := nine_cellsE HX.out.e
  have done : ∀ (n : Bool) (q : Nat), T = n → RetB (.bool T) w (.returned (.bool n)) (W1.drewN q) := fun n q h => ⟨by rw [h], below_drewN HX.out.bel q⟩
  have done0 : ∀ (n : Bool), T = n → RetB (.bool T) w (.returned (.bool n)) W1 := fun n h => ⟨by rw [h], HX.out.bel⟩
  clear c0 c1 c2 e0 e1 e2 e3 e5 e7 e8
  by_cases k1 : k = 1
  · subst k1
    obtain ⟨Q, hQ, HQ⟩ := quo32 p
    obtain ⟨R, hR, HR⟩ := rem32 p
    have HT1 : Hid ((decide (0 ≤ p) && decide (p / 32 < (dn : Int)) && decide (p % 32 < ds.getD (p / 32).toNat 0)) = T) := Lib.hid (by rw [← HT.out]; rfl)
    clear HT
    by_cases hp0 : 0 ≤ p
    · have hQ1 := HQ hp0 HP.out.2
      have hR1 := HR hp0
      clear HQ HR
      rw [← hQ1, ← hR1, decide_eq_true hp0] at HT1
      obtain ⟨q, hq⟩ : ∃ q : Nat, Q = (q : Int) := ⟨Q.toNat, by omega⟩
      clear hQ1 hR1
      subst hq
      by_cases hqd : q < dn
      · obtain ⟨gb, go, ea, hc⟩ := HSD.out W1 HX.out.bel q hqd
        subst ea
        have hqd' : (q : Int) < (dn : Int) := by omega
        have hq0 : (0 : Int) ≤ (q : Int) := by omega
        rw [decide_eq_true hqd', show ((q : Int)).toNat = q by omega] at HT1
        generalize ds.getD q 0 = D at *
        by_cases hRD : R < D
        · rw [decide_eq_true hRD] at HT1
          go_wp2
          go_quiet (fail)
          go_wp2
          go_ret
          exact done _ _ HT1.out.symm
        · rw [decide_eq_false hRD] at HT1
          go_wp2
          go_quiet (fail)
          go_wp2
          go_ret
          exact done _ _ (by rw [← HT1.out]; simp; omega)
      · have hqd' : ¬ (q : Int) < (dn : Int) := by omega
        rw [decide_eq_false hqd'] at HT1
        have HT2 : Hid (T = false) := Lib.hid (by rw [← HT1.out]; simp)
        go_wp2
        go_quiet (fail)
        go_wp2
        go_ret
        exact done _ _ HT2.out
    · rw [decide_eq_false hp0] at HT1
      have HT2 : Hid (T = false) := Lib.hid (by rw [← HT1.out]; simp)
      clear HQ HR
      go_wp2
      go_quiet (fail)
      go_wp2
      go_ret
      exact done _ _ HT2.out
  · rw [if_neg k1] at HT
    by_cases k2 : k = 2
    · subst k2
      rw [if_pos rfl] at HT
      have HW1 : Hid (∀ W, Calls Try.prog 33 #[.int .i64 p, .int .i64 0, .int .i64 63] W (fun e w' => e = .returned (.bool (inB p 0 63)) ∧ w' = W)) := Lib.hid (fun W => HW.out _ _ _ W)
      rw [HT.out] at HW1
      go_wp2_with (go_at_call 33; refine (HW1.out _).mono ?_; rintro e w' ⟨rfl, rfl⟩)
      go_ret
      exact done0 _ rfl
    · rw [if_neg k2] at HT
      by_cases k7 : k = 7
      · subst k7
        rw [if_pos rfl] at HT
        have HW1 : Hid (∀ W, Calls Try.prog 33 #[.int .i64 p, .int .i64 0, .int .i64 ((tn : Int) - 1)] W (fun e w' => e = .returned (.bool (inB p 0 ((tn : Int) - 1))) ∧ w' = W)) := Lib.hid (fun W => HW.out _ _ _ W)
        rw [HT.out] at HW1
        go_wp2_with (go_at_call 33; refine (HW1.out _).mono ?_; rintro e w' ⟨rfl, rfl⟩)
        go_ret
        exact done0 _ rfl
      · rw [if_neg k7] at HT
        by_cases hp0 : p = 0
        · rw [decide_eq_true hp0] at HT
          go_wp2
          go_ret
          exact done0 _ HT.out.symm
        · rw [decide_eq_false hp0] at HT
          go_wp2
          go_ret
          exact done0 _ (by rw [← HT.out]; simp [hp0])
set_option maxRecDepth 100000 in
set_option maxHeartbeats 4000000 in
theorem named_any (f : FlL) (x : EvL) (w : World) (hr : 1 ≤ f.r ∧ f.r ≤ 128) : Calls Try.prog 45 #[.agg (flA f), .agg (evA x)] w (RetB (.bool (namedB f x)) w) := by
  obtain ⟨T, hT⟩ : ∃ T, namedB f x = T := ⟨_, rfl⟩
  have HT := Lib.hid hT
  rw [hT]
  unfold namedB at HT
  have HW := Lib.hid (fun n lo hi W => within_any n lo hi W)
  clear hT
  have HX := Lib.hid (twoW_new w (flA f) (evA x) 24 27)
  obtain ⟨b, r, v, da, dn, dc, ds, ta, tn, tc, ts⟩ := f
  obtain ⟨d, s, a, l, k, bi, p, ri, e⟩ := x
  dsimp only [flA, evA] at *
  obtain ⟨hr1, hr2⟩ := hr
  go_enter Try.func45, Try.ntmps45
  go_upto_region 1 with (fail)
  generalize (w.alloc (.cells #[.int .i64 b, .int .i64 r, .int .i64 v, .slice da dn dc, .slice ta tn tc] 24)).alloc (.cells #[.int .i64 d, .int .i64 s, .int .i64 a, .int .i64 l, .int .i64 k, .int .i64 bi, .int .i64 p, .int .i64 ri, .int .i64 e] 27) = W1 at *
  obtain ⟨c0, c1, c2, c3, c4⟩ := five_cells HX.out.f
  obtain ⟨e0, e1, e2, e3, e4, e5, e6, e7, e8⟩ := nine_cellsE HX.out.e
  have done : ∀ (n : Bool) (q : Nat), T = n → RetB (.bool T) w (.returned (.bool n)) (W1.drewN q) := fun n q h => ⟨by rw [h], below_drewN HX.out.bel q⟩
  clear c0 c2 c3 c4 e0 e1 e2 e3 e5 e6
  obtain ⟨B1, hB1⟩ : ∃ B, inB ri 0 (r - 1) = B := ⟨_, rfl⟩
  obtain ⟨B2, hB2⟩ : ∃ B, inB e 1 1000000 = B := ⟨_, rfl⟩
  obtain ⟨B3, hB3⟩ : ∃ B, decide (ri = 0) = B := ⟨_, rfl⟩
  obtain ⟨B4, hB4⟩ : ∃ B, decide (e = 0) = B := ⟨_, rfl⟩
  have HW1 : Hid (∀ W, Calls Try.prog 33 #[.int .i64 ri, .int .i64 0, .int .i64 (r - 1)] W (fun e w' => e = .returned (.bool B1) ∧ w' = W)) := Lib.hid (fun W => by rw [← hB1]; exact HW.out _ _ _ W)
  have HW2 : Hid (∀ W, Calls Try.prog 33 #[.int .i64 e, .int .i64 1, .int .i64 1000000] W (fun e w' => e = .returned (.bool B2) ∧ w' = W)) := Lib.hid (fun W => by rw [← hB2]; exact HW.out _ _ _ W)
  have q1 : ∀ t, binOp .eql t (.int .i64 ri) (.int .i64 0) = pure (.bool B3) := fun t => by rw [← hB3]; simp only [go_sem]; rfl
  have q2 : ∀ t, binOp .eql t (.int .i64 e) (.int .i64 0) = pure (.bool B4) := fun t => by rw [← hB4]; simp only [go_sem]; rfl
  rw [hB1, hB2, hB3, hB4] at HT
  clear hB1 hB2 hB3 hB4 HW
  by_cases k3 : k = 3
  · subst k3
    have HT1 : Hid ((B1 && B2) = T) := Lib.hid (by rw [← HT.out]; rfl)
    clear HT
    go_quiet (fail)
    go_wp2_with (first
      | (go_at_call 33; (with_reducible refine (HW1.out _).mono ?_); rintro e w' ⟨rfl, rfl⟩)
      | (go_at_call 33; (with_reducible refine (HW2.out _).mono ?_); rintro e w' ⟨rfl, rfl⟩))
    all_goals (go_ret; exact done _ _ (by rw [← HT1.out]; simp [*]))
  · by_cases k4 : k = 4
    · subst k4
      have HT1 : Hid ((B3 && B2) = T) := Lib.hid (by rw [← HT.out]; rfl)
      clear HT
      go_quiet (fail)
      go_wp2_with (go_at_call 33; (with_reducible refine (HW2.out _).mono ?_); rintro e w' ⟨rfl, rfl⟩)
      all_goals (go_ret; exact done _ _ (by rw [← HT1.out]; simp [*]))
    · have HT1 : Hid ((B3 && B4) = T) := Lib.hid (by rw [← HT.out, if_neg k3, if_neg (show ¬ (k = 3 ∨ k = 4) by omega)])
      clear HT
      go_quiet (fail)
      go_wp2
      all_goals (go_ret; exact done _ _ (by rw [← HT1.out]; simp [*]))
set_option maxRecDepth 100000 in
set_option maxHeartbeats 4000000 in
theorem checkEv_any (f : FlL) (x : EvL) (w : World) (hf : FlM w f) (h1 : f.dn ≤ 100) (h2 : f.tn ≤ 100) (hx : EvR x) : Calls Try.prog 29 #[.agg (flA f), .agg (evA x)] w (RetB (.int .i64 (checkE f x)) w) := by
  have HFM := Lib.hid hf
  obtain ⟨T, hT⟩ : ∃ T, checkE f x = T := ⟨_, rfl⟩
  have HT := Lib.hid hT
  rw [hT]
  unfold checkE at HT
  have HFL : Hid (∀ W, Below w.heap.size w W → Calls Try.prog 26 #[.agg (flA f)] W (RetB (.int .i64 (fleetE f)) W)) := Lib.hid (fun W hb => fleet_any f W (hf.below hb) h1 h2)
  have HPL : Hid (∀ W, Below w.heap.size w W → Calls Try.prog 44 #[.agg (flA f), .agg (evA x)] W (RetB (.bool (placedB f x)) W)) := Lib.hid (fun W hb => placed_any f x W (hf.below hb) h1 h2 hx)
  have HNA : Hid (fleetE f = 0 → ∀ W, Calls Try.prog 45 #[.agg (flA f), .agg (evA x)] W (RetB (.bool (namedB f x)) W)) := Lib.hid (fun h W => named_any f x W (fleetE_zero h).2.1)
  have HZ : Hid (fleetE f = 0 → (1 ≤ f.b ∧ f.b ≤ 128) ∧ (1 ≤ f.v ∧ f.v ≤ 256)) := Lib.hid (fun h => ⟨(fleetE_zero h).1, (fleetE_zero h).2.2.1⟩)
  have HW := Lib.hid (fun n lo hi W => within_any n lo hi W)
  clear hT hf hx HFM
  have HX := Lib.hid (twoW_new w (flA f) (evA x) 24 27)
  generalize fleetE f = FE at *
  generalize placedB f x = PB at *
  generalize namedB f x = NB at *
  obtain ⟨b, r, v, da, dn, dc, ds, ta, tn, tc, ts⟩ := f
  obtain ⟨d, s, a, l, k, bi, p, ri, e⟩ := x
  dsimp only [flA, evA] at *
  go_enter Try.func29, Try.ntmps29
  go_upto_region 1 with (fail)
  generalize (w.alloc (.cells #[.int .i64 b, .int .i64 r, .int .i64 v, .slice da dn dc, .slice ta tn tc] 24)).alloc (.cells #[.int .i64 d, .int .i64 s, .int .i64 a, .int .i64 l, .int .i64 k, .int .i64 bi, .int .i64 p, .int .i64 ri, .int .i64 e] 27) = W1 at *
  obtain ⟨c0, c1, c2, c3, c4⟩ := five_cells HX.out.f
  go_wp2_with fail
  refine (HFL.out _ HX.out.bel).mono ?_
  rintro e1 w2 ⟨rfl, hb2⟩
  have HX2 := Lib.hid (HX.out.ext hb2)
  clear c0 c1 c2 c3 c4 hb2 HX
  generalize w.heap.size = g at HX2
  by_cases hFE : FE = 0
  case neg =>
    rw [if_pos hFE] at HT
    have hh := HT.out
    subst hh
    go_wp2
    go_ret
    exact ⟨rfl, HX2.out.bel⟩
  obtain ⟨⟨b1, b2⟩, v1, v2⟩ := HZ.out hFE
  have HNA2 := Lib.hid (HNA.out hFE)
  subst hFE
  rw [if_neg (by simp)] at HT
  obtain ⟨c0, c1, c2, c3, c4⟩ := five_cells HX2.out.f
  obtain ⟨e0, e1, e2, e3, e4, e5, e6, e7, e8⟩ := nine_cellsE HX2.out.e
  have done : ∀ (n : Int), T = n → RetB (.int .i64 T) w (.returned (.int .i64 n)) w2 := fun n h => ⟨by rw [h], HX2.out.bel⟩
  obtain ⟨B1, hB1⟩ : ∃ B, inB d 0 (v - 1) = B := ⟨_, rfl⟩
  obtain ⟨B2, hB2⟩ : ∃ B, inB s 1 1048576 = B := ⟨_, rfl⟩
  obtain ⟨B3, hB3⟩ : ∃ B, inB k 1 10 = B := ⟨_, rfl⟩
  obtain ⟨B4, hB4⟩ : ∃ B, inB bi 0 (b - 1) = B := ⟨_, rfl⟩
  have HW1 : Hid (∀ W, Calls Try.prog 33 #[.int .i64 d, .int .i64 0, .int .i64 (v - 1)] W (fun e w' => e = .returned (.bool B1) ∧ w' = W)) := Lib.hid (fun W => by rw [← hB1]; exact HW.out _ _ _ W)
  have HW2 : Hid (∀ W, Calls Try.prog 33 #[.int .i64 s, .int .i64 1, .int .i64 1048576] W (fun e w' => e = .returned (.bool B2) ∧ w' = W)) := Lib.hid (fun W => by rw [← hB2]; exact HW.out _ _ _ W)
  have HW3 : Hid (∀ W, Calls Try.prog 33 #[.int .i64 k, .int .i64 1, .int .i64 10] W (fun e w' => e = .returned (.bool B3) ∧ w' = W)) := Lib.hid (fun W => by rw [← hB3]; exact HW.out _ _ _ W)
  have HW4 : Hid (∀ W, Calls Try.prog 33 #[.int .i64 bi, .int .i64 0, .int .i64 (b - 1)] W (fun e w' => e = .returned (.bool B4) ∧ w' = W)) := Lib.hid (fun W => by rw [← hB4]; exact HW.out _ _ _ W)
  rw [hB1, hB2, hB3, hB4] at HT
  clear hB1 hB2 hB3 hB4 HW HFL HNA HZ
  go_upto_region 6 with (first
    | (go_at_call 33; (with_reducible refine (HW1.out _).mono ?_); rintro e w' ⟨rfl, rfl⟩)
    | (go_at_call 33; (with_reducible refine (HW2.out _).mono ?_); rintro e w' ⟨rfl, rfl⟩)
    | (go_at_call 33; (with_reducible refine (HW3.out _).mono ?_); rintro e w' ⟨rfl, rfl⟩)
    | (go_at_call 33; (with_reducible refine (HW4.out _).mono ?_); rintro e w' ⟨rfl, rfl⟩))
  all_goals (try (focus go_ret; exact done _ (by rw [← HT.out]; simp [*]; done)))
  have HT1 : Hid ((if (!B3) = true then 14 else if (!B4 || (decide (k = 10) && decide (bi ≠ 0))) = true then 1 else if (!PB) = true then 7 else if (!NB) = true then 1 else 0) = T) := Lib.hid (by rw [← HT.out]; simp [*] <;> (intros; omega))
  clear HT HW1 HW2
  cases B3 with
  | false =>
    go_wp2_with (go_at_call 33; (with_reducible refine (HW3.out _).mono ?_); rintro e w' ⟨rfl, rfl⟩)
    go_ret
    exact done _ (by rw [← HT1.out]; rfl)
  | true =>
  have HT4 : Hid ((if (!B4 || (decide (k = 10) && decide (bi ≠ 0))) = true then 1 else if (!PB) = true then 7 else if (!NB) = true then 1 else 0) = T) := Lib.hid (by rw [← HT1.out]; rfl)
  clear HT1
  cases B4 with
  | false =>
    go_wp2_with (first
      | (go_at_call 33; (with_reducible refine (HW3.out _).mono ?_); rintro e w' ⟨rfl, rfl⟩)
      | (go_at_call 33; (with_reducible refine (HW4.out _).mono ?_); rintro e w' ⟨rfl, rfl⟩))
    go_ret
    exact done _ (by rw [← HT4.out]; rfl)
  | true =>
  by_cases hkb : k = 10 ∧ ¬ bi = 0
  · obtain ⟨rfl, hbi⟩ := hkb
    have HT5 : Hid (T = 1) := Lib.hid (by rw [← HT4.out]; simp [hbi])
    clear HT4
    go_wp2_with (first
      | (go_at_call 33; (with_reducible refine (HW3.out _).mono ?_); rintro e w' ⟨rfl, rfl⟩)
      | (go_at_call 33; (with_reducible refine (HW4.out _).mono ?_); rintro e w' ⟨rfl, rfl⟩))
    go_ret
    exact done _ HT5.out
  have HT2 : Hid ((if (!PB) = true then 7 else if (!NB) = true then 1 else 0) = T) := Lib.hid (by rw [← HT4.out]; simp; intro h1 h2; exact absurd ⟨h1, h2⟩ hkb)
  clear HT4 done
  by_cases hk : k = 10
  · obtain rfl : bi = 0 := by by_cases h : bi = 0; exact h; exact absurd ⟨hk, h⟩ hkb
    subst hk
    clear hkb
    go_wp2_with (first
      | (go_at_call 33; (with_reducible refine (HW3.out _).mono ?_); rintro e w' ⟨rfl, rfl⟩)
      | (go_at_call 33; (with_reducible refine (HW4.out _).mono ?_); rintro e w' ⟨rfl, rfl⟩))
    refine (HPL.out _ HX2.out.bel).mono ?_
    rintro e1 w3 ⟨rfl, hb3⟩
    have HX3 := Lib.hid (HX2.out.ext hb3)
    clear c0 c1 c2 c3 c4 e0 e1 e2 e3 e4 e5 e6 e7 e8 hb3
    obtain ⟨c0, c1, c2, c3, c4⟩ := five_cells HX3.out.f
    obtain ⟨e0, e1, e2, e3, e4, e5, e6, e7, e8⟩ := nine_cellsE HX3.out.e
    cases PB with
    | false =>
      go_wp2
      go_ret
      exact ⟨by rw [← HT2.out]; rfl, HX3.out.bel⟩
    | true =>
      go_wp2_with fail
      refine (HNA2.out _).mono ?_
      rintro e1 w4 ⟨rfl, hb4⟩
      have HX4 := Lib.hid (HX3.out.ext hb4)
      clear c0 c1 c2 c3 c4 e0 e1 e2 e3 e4 e5 e6 e7 e8 hb4
      cases NB with
      | false =>
        go_wp2
        go_ret
        exact ⟨by rw [← HT2.out]; rfl, HX4.out.bel⟩
      | true =>
        go_wp2
        go_ret
        exact ⟨by rw [← HT2.out]; rfl, HX4.out.bel⟩
  · clear hkb
    go_wp2_with (first
      | (go_at_call 33; (with_reducible refine (HW3.out _).mono ?_); rintro e w' ⟨rfl, rfl⟩)
      | (go_at_call 33; (with_reducible refine (HW4.out _).mono ?_); rintro e w' ⟨rfl, rfl⟩))
    refine (HPL.out _ HX2.out.bel).mono ?_
    rintro e1 w3 ⟨rfl, hb3⟩
    have HX3 := Lib.hid (HX2.out.ext hb3)
    clear c0 c1 c2 c3 c4 e0 e1 e2 e3 e4 e5 e6 e7 e8 hb3
    obtain ⟨c0, c1, c2, c3, c4⟩ := five_cells HX3.out.f
    obtain ⟨e0, e1, e2, e3, e4, e5, e6, e7, e8⟩ := nine_cellsE HX3.out.e
    cases PB with
    | false =>
      go_wp2
      go_ret
      exact ⟨by rw [← HT2.out]; rfl, HX3.out.bel⟩
    | true =>
      go_wp2_with fail
      refine (HNA2.out _).mono ?_
      rintro e1 w4 ⟨rfl, hb4⟩
      have HX4 := Lib.hid (HX3.out.ext hb4)
      clear c0 c1 c2 c3 c4 e0 e1 e2 e3 e4 e5 e6 e7 e8 hb4
      cases NB with
      | false =>
        go_wp2
        go_ret
        exact ⟨by rw [← HT2.out]; rfl, HX4.out.bel⟩
      | true =>
        go_wp2
        go_ret
        exact ⟨by rw [← HT2.out]; rfl, HX4.out.bel⟩
end Go.Proofs.Ytdgjdbpbnipjcaa
