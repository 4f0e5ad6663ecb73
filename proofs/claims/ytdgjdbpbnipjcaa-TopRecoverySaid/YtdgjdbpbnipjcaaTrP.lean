/-
  EVENTS: slices.CompactFunc, walked. (Printed by gen_trp.py.)
-/
import Derived.Test.YtdgjdbpbnipjcaaTrO
import Derived.BigQuiet
import Derived.BigRegion
import Derived.Laws.StructEq
import Derived.StillTailTactics
import Derived.RegionTactic
import Derived.Deep.DeepCutAuto
import Derived.Deep.QuietTactic
import Derived.WalkSpells
import Derived.WalkLawsBesides
namespace Go.Proofs.Ytdgjdbpbnipjcaa
open Go.RowKit Go.Sort
set_option linter.unusedVariables false

theorem slE_from (g n cap k : Nat) (h : k < n) (hc : n ≤ cap) (w : World) : (Instr.slice 25 (.slice (some ⟨g, 0, none⟩) n cap) (some (.int .i64 (k : Int))) none none).run Try.prog w = .ok (.slice (some ⟨g, k * 9, none⟩) (n - k) (cap - k)) w := by
  have he : Try.prog.elem 25 = 27 := by simp [Program.elem, Try.underlying25]
  rw [run_slice_l w 25 (some ⟨g, 0, none⟩) n cap (by rw [he]; exact Try.underlying25) .i64 (k : Int) (by omega) (by omega), he, Try.sizeOf27]
  simp [Result.andThen, sliced, Addr.add, show ¬ cap = k by omega]
  exact fun h => h.symm
theorem slE_to (g n cap k : Nat) (h : k ≤ n) (hc : n ≤ cap) (w : World) : (Instr.slice 25 (.slice (some ⟨g, 0, none⟩) n cap) none (some (.int .i64 (k : Int))) none).run Try.prog w = .ok (.slice (some ⟨g, 0, none⟩) k cap) w := by
  have he : Try.prog.elem 25 = 27 := by simp [Program.elem, Try.underlying25]
  rw [run_slice_h w 25 (some ⟨g, 0, none⟩) n cap (by rw [he]; exact Try.underlying25) .i64 (k : Int) (by omega) (by omega), he, Try.sizeOf27]
  simp [Result.andThen, sliced, Addr.add]
def zerosE (n : Nat) : List Value := (Builtin.zeroCells #[.int .i64 0, .int .i64 0, .int .i64 0, .int .i64 0, .int .i64 0, .int .i64 0, .int .i64 0, .int .i64 0, .int .i64 0] n).toList
theorem zerosE_len (n : Nat) : (zerosE n).length = n * 9 := by unfold zerosE; simp [Builtin.zeroCells]
theorem zerosE_one (n : Nat) : ∀ v ∈ zerosE n, v.oneCell' = true := by
  intro v hv
  unfold zerosE Builtin.zeroCells at hv
  simp at hv
  obtain ⟨j, hj, e⟩ := hv
  have h9 : j % 9 < 9 := Nat.mod_lt _ (by decide)
  rw [← e]
  generalize j % 9 = q at *
  match q, h9 with
  | 0, _ => rfl
  | 1, _ => rfl
  | 2, _ => rfl
  | 3, _ => rfl
  | 4, _ => rfl
  | 5, _ => rfl
  | 6, _ => rfl
  | 7, _ => rfl
  | 8, _ => rfl
theorem clearE (w : World) (ty : TypeId) (g o n c : Nat) (hn : 0 < n) (hc : ∀ j, j < n * 9 → (w.cell? ⟨g, o + j, none⟩).isSome = true) (hf : ∀ j, j < n * 9 → w.frozen? ⟨g, o + j, none⟩ = false) :
    (Builtin.clear_ #[25] ty #[.slice (some ⟨g, o, none⟩) n c]).run Try.prog w = .ok (.tuple #[]) (w.setCells g o (zerosE n)) := by
  have hst := run_storeCells_cells (P := Try.prog) g o (zerosE n) 0 w (by rw [zerosE_len]; exact hc) (by rw [zerosE_len]; exact hf) (zerosE_one n)
  simp only [Nat.add_zero] at hst
  obtain ⟨m, rfl⟩ : ∃ m, n = m + 1 := ⟨n - 1, by omega⟩
  have hv : ∀ w, (zeroValue 27).run Try.prog w = .ok (.agg #[.int .i64 0, .int .i64 0, .int .i64 0, .int .i64 0, .int .i64 0, .int .i64 0, .int .i64 0, .int .i64 0, .int .i64 0]) w := Try.zeroValue27
  unfold zerosE at hst ⊢
  simp [Builtin.clear_, run_underlying Try.underlying25, hv, Value.cells, hst]
set_option maxRecDepth 100000 in
set_option maxHeartbeats 2000000 in
theorem compact_main (l : List EvL) {g n cap : Nat} (w : World) (hr : w.ownsRow g 27 9 (.slice (some ⟨g, 0, none⟩) n cap) n (flatV evA l)) (hl : l.length = n) (hn : n ≤ 1000000) (h2 : 2 ≤ n) :
    Calls Try.prog 41 #[.slice (some ⟨g, 0, none⟩) n cap, .func (.func 42) #[] #[]] w (fun e w' => ∃ m, e = .returned (.slice (some ⟨g, 0, none⟩) m cap) ∧ w'.ownsRow g 27 9 (.slice (some ⟨g, 0, none⟩) m cap) m (flatV evA (cptL l)) ∧ w.grownBy w' (some g)) := by
  have mixed : Try.prog.follows .mixedOrders = true := srtLay.mixed
  have eg : ∀ args w, (callFunc 42 args).run Try.prog w = .ok (.enter 42 args) w := enters_of Try.func42 (by kernel_rfl) rfl
  have HR : Hid (RwE w w g cap n l) := Lib.hid ⟨hr, hl, World.grownBy.refl _ _⟩
  have HL := Lib.hid hl
  have hcap : n ≤ cap := by rcases hr.2 with ⟨h, _⟩ | ⟨_, _, _, h, _, _, h1, _⟩ <;> cases h; exact h1
  obtain ⟨D, hD⟩ : ∃ D, fdFrom l (n - 1) 1 = D := ⟨_, rfl⟩
  have HD := Lib.hid hD
  have HAN : Hid ((D < n → cptL l = l.take D ++ kp l D (n - D - 1)) ∧ (n ≤ D → cptL l = l)) := Lib.hid ⟨fun h => by unfold cptL; rw [hl, hD, if_pos h], fun h => by unfold cptL; rw [hl, hD, if_neg (by omega)]⟩
  clear hr hl hD
  have h2' : ¬ (n : Int) < 2 := by omega
  have hs1 : ∀ k : Nat, k < n → ∀ W, (Instr.slice 25 (.slice (some ⟨g, 0, none⟩) n cap) (some (.int .i64 (k : Int))) none none).run Try.prog W = .ok (.slice (some ⟨g, k * 9, none⟩) (n - k) (cap - k)) W := fun k hk W => slE_from g n cap k hk hcap W
  have hs2 : ∀ k : Nat, k ≤ n → ∀ W, (Instr.slice 25 (.slice (some ⟨g, 0, none⟩) n cap) none (some (.int .i64 (k : Int))) none).run Try.prog W = .ok (.slice (some ⟨g, 0, none⟩) k cap) W := fun k hk W => slE_to g n cap k hk hcap W
  have HS1 := Lib.hid hs1
  have HS2 := Lib.hid hs2
  clear hs1 hs2
  go_enter Try.func41, Try.ntmps41
  go_wp2_with fail
  go_loopw [5] (fun i wr => ∃ k : Nat, 1 ≤ k ∧ k ≤ n ∧ i = .int .i64 (k : Int) ∧ Hid (fdFrom l (n - k) k = D) ∧ Hid (RwE w wr g cap n l)) (fun i _ => n - (intOf i).toNat)
  case atStart => exact ⟨1, by omega, by omega, rfl, HD, HR⟩
  case round =>
    clear HR HD
    obtain ⟨k, hk1, hk, rfl, HK, HR⟩ := hrel
    have hk0 : (0 : Int) ≤ (k : Int) := by omega
    by_cases hkn : k < n
    · have hkn' : (k : Int) < (n : Int) := by omega
      obtain ⟨k1, hk1e⟩ : ∃ k1, k = k1 + 1 := ⟨k - 1, by omega⟩
      have HKE := Lib.hid hk1e
      have hsub : (k : Int) - 1 = (k1 : Int) := by omega
      have hwr : IntKind.i64.wrap (k1 : Int) = (k1 : Int) := by rw [IntKind.wrap_i64]; omega
      have hk10 : (0 : Int) ≤ (k1 : Int) := by omega
      have hk1n : (k1 : Int) < (n : Int) := by omega
      have HF : Hid (fdFrom l (n - k) k = if numEq (l.getD k EvL.zero) (l.getD k1 EvL.zero) = true then k else fdFrom l (n - (k + 1)) (k + 1)) := Lib.hid (by
        rw [show n - k = (n - (k + 1)) + 1 by omega]
        show (if numEq (l.getD k EvL.zero) (l.getD (k - 1) EvL.zero) = true then k else fdFrom l (n - (k + 1)) (k + 1)) = _
        rw [show k - 1 = k1 by omega])
      have hc1 := fun j v => HR.out.cells k hkn j v
      have hc2 := fun j v => HR.out.cells k1 (by omega) j v
      have HS := Lib.hid (fun W => set2_any (l.getD k EvL.zero) (l.getD k1 EvL.zero) W)
      clear hk1e
      generalize l.getD k EvL.zero = x at *
      generalize l.getD k1 EvL.zero = y at *
      obtain ⟨Bq, hBq⟩ : ∃ Bq, numEq x y = Bq := ⟨_, rfl⟩
      rw [hBq] at HS HF
      clear hBq
      obtain ⟨x0, x1, x2, x3, x4, x5, x6, x7, x8⟩ := x
      obtain ⟨y0, y1, y2, y3, y4, y5, y6, y7, y8⟩ := y
      dsimp only [evA] at *
      have p0 : ∀ n' os', (grow (wr.drewN n') os').cell? ⟨g, k * 9, none⟩ = some (.int .i64 x0) := gcell (hc1 0 _ rfl)
      have p1 : ∀ n' os', (grow (wr.drewN n') os').cell? ⟨g, k * 9 + 1, none⟩ = some (.int .i64 x1) := gcell (hc1 1 _ rfl)
      have p2 : ∀ n' os', (grow (wr.drewN n') os').cell? ⟨g, k * 9 + 2, none⟩ = some (.int .i64 x2) := gcell (hc1 2 _ rfl)
      have p3 : ∀ n' os', (grow (wr.drewN n') os').cell? ⟨g, k * 9 + 3, none⟩ = some (.int .i64 x3) := gcell (hc1 3 _ rfl)
      have p4 : ∀ n' os', (grow (wr.drewN n') os').cell? ⟨g, k * 9 + 4, none⟩ = some (.int .i64 x4) := gcell (hc1 4 _ rfl)
      have p5 : ∀ n' os', (grow (wr.drewN n') os').cell? ⟨g, k * 9 + 5, none⟩ = some (.int .i64 x5) := gcell (hc1 5 _ rfl)
      have p6 : ∀ n' os', (grow (wr.drewN n') os').cell? ⟨g, k * 9 + 6, none⟩ = some (.int .i64 x6) := gcell (hc1 6 _ rfl)
      have p7 : ∀ n' os', (grow (wr.drewN n') os').cell? ⟨g, k * 9 + 7, none⟩ = some (.int .i64 x7) := gcell (hc1 7 _ rfl)
      have p8 : ∀ n' os', (grow (wr.drewN n') os').cell? ⟨g, k * 9 + 8, none⟩ = some (.int .i64 x8) := gcell (hc1 8 _ rfl)
      have q0 : ∀ n' os', (grow (wr.drewN n') os').cell? ⟨g, k1 * 9, none⟩ = some (.int .i64 y0) := gcell (hc2 0 _ rfl)
      have q1 : ∀ n' os', (grow (wr.drewN n') os').cell? ⟨g, k1 * 9 + 1, none⟩ = some (.int .i64 y1) := gcell (hc2 1 _ rfl)
      have q2 : ∀ n' os', (grow (wr.drewN n') os').cell? ⟨g, k1 * 9 + 2, none⟩ = some (.int .i64 y2) := gcell (hc2 2 _ rfl)
      have q3 : ∀ n' os', (grow (wr.drewN n') os').cell? ⟨g, k1 * 9 + 3, none⟩ = some (.int .i64 y3) := gcell (hc2 3 _ rfl)
      have q4 : ∀ n' os', (grow (wr.drewN n') os').cell? ⟨g, k1 * 9 + 4, none⟩ = some (.int .i64 y4) := gcell (hc2 4 _ rfl)
      have q5 : ∀ n' os', (grow (wr.drewN n') os').cell? ⟨g, k1 * 9 + 5, none⟩ = some (.int .i64 y5) := gcell (hc2 5 _ rfl)
      have q6 : ∀ n' os', (grow (wr.drewN n') os').cell? ⟨g, k1 * 9 + 6, none⟩ = some (.int .i64 y6) := gcell (hc2 6 _ rfl)
      have q7 : ∀ n' os', (grow (wr.drewN n') os').cell? ⟨g, k1 * 9 + 7, none⟩ = some (.int .i64 y7) := gcell (hc2 7 _ rfl)
      have q8 : ∀ n' os', (grow (wr.drewN n') os').cell? ⟨g, k1 * 9 + 8, none⟩ = some (.int .i64 y8) := gcell (hc2 8 _ rfl)
      clear hc1 hc2
      go_upto_region 6 with (fail)
      go_quiet_grown (first | (go_at_call 42; (with_reducible refine Calls.grown_of (HS.out _))))
      have HR2 := Lib.hid (HR.out.ext ⟨nq, osq, rfl⟩)
      clear p0 p1 p2 p3 p4 p5 p6 p7 p8 q0 q1 q2 q3 q4 q5 q6 q7 q8
      clear HR HS
      generalize grow (wr.drewN nq) osq = W2 at *
      cases Bq with
      | false =>
        have HK2 : Hid (fdFrom l (n - (k + 1)) (k + 1) = D) := Lib.hid (by rw [← HK.out, HF.out, if_neg (by decide)])
        go_wp2_with fail
        go_roundw
        case rel => exact ⟨k + 1, by omega, by omega, by go_num, HK2, HR2⟩
        case measure => simp [intOf]; omega
      | true =>
        have hDk : D = k := by rw [← HK.out, HF.out, if_pos rfl]
        subst hDk
        obtain ⟨N2, hN2⟩ : ∃ N2, n - D = N2 := ⟨_, rfl⟩
        obtain ⟨C2, hC2⟩ : ∃ C2, cap - D = C2 := ⟨_, rfl⟩
        have hs1 := HS1.out D hkn
        rw [hN2, hC2] at hs1
        have HN2 := Lib.hid hN2
        have HFI : Hid (cptL l = l.take D ++ kp l D (n - D - 1)) := Lib.hid (HAN.out.1 hkn)
        clear HF HK HAN hN2 hC2 HKE hsub hwr hk10 hk1n
        go_wp2_with fail
        go_loopw [5, 7] (fun i v wr => ∃ (q kk : Nat) (C : List EvL), 1 ≤ q ∧ q ≤ N2 ∧ kk + 1 ≤ D + q ∧ i = .int .i64 (kk : Int) ∧ v = .int .i64 (q : Int) ∧ Hid (kk = D + (kp l D (q - 1)).length ∧ C.take kk = l.take D ++ kp l D (q - 1)) ∧ Hid (∀ j, D + q ≤ j + 1 → C.getD j EvL.zero = l.getD j EvL.zero) ∧ Hid (RwE w wr g cap n C)) (fun _ v _ => N2 - (intOf v).toNat)
        case atStart => exact ⟨1, D, l, by omega, by have := HN2.out; omega, by omega, rfl, rfl, Lib.hid ⟨by simp [kp], by simp [kp]⟩, Lib.hid (fun _ _ => rfl), HR2⟩
        case round =>
          clear HR2
          obtain ⟨q, kk, C, hq1, hq, hkk, rfl, rfl, HKK, HCJ, HR⟩ := hrel
          have hq0 : (0 : Int) ≤ (q : Int) := by omega
          have hkk0 : (0 : Int) ≤ (kk : Int) := by omega
          have hkkn : kk < n := by have := HN2.out; omega
          by_cases hqn : q < N2
          · have hqn' : (q : Int) < (N2 : Int) := by omega
            obtain ⟨q1, hq1e⟩ : ∃ q1, q = q1 + 1 := ⟨q - 1, by omega⟩
            have HQE := Lib.hid hq1e
            have hN2b : N2 ≤ 1000000 := by have := HN2.out; omega
            have hsub : (q : Int) - 1 = (q1 : Int) := by omega
            have hwr : IntKind.i64.wrap (q1 : Int) = (q1 : Int) := by have := HN2.out; rw [IntKind.wrap_i64]; omega
            have hq10 : (0 : Int) ≤ (q1 : Int) := by omega
            have hq1n : (q1 : Int) < (N2 : Int) := by omega
            have hkkn' : (kk : Int) < (n : Int) := by omega
            have HX1 : Hid (C.getD (D + q) EvL.zero = l.getD (D + q) EvL.zero) := Lib.hid (HCJ.out _ (by omega))
            have HX2 : Hid (C.getD (D + q1) EvL.zero = l.getD (D + q1) EvL.zero) := Lib.hid (HCJ.out _ (by omega))
            have HKP : Hid (kp l D q = kp l D q1 ++ if numEq (C.getD (D + q) EvL.zero) (C.getD (D + q1) EvL.zero) = true then [] else [C.getD (D + q) EvL.zero]) := Lib.hid (by
              rw [HX1.out, HX2.out, hq1e]
              show kp l D q1 ++ _ = _
              rw [show D + 1 + q1 = D + (q1 + 1) by omega])
            have hn1 : D + q < n := by have := HN2.out; omega
            have hc1 := fun j v hv => (show wr.cell? ⟨g, D * 9 + q * 9 + j, none⟩ = some v by rw [← Nat.add_mul]; exact HR.out.cells (D + q) hn1 j v hv)
            have hc2 := fun j v hv => (show wr.cell? ⟨g, D * 9 + q1 * 9 + j, none⟩ = some v by rw [← Nat.add_mul]; exact HR.out.cells (D + q1) (by omega) j v hv)
            have HS := Lib.hid (fun W => set2_any (C.getD (D + q) EvL.zero) (C.getD (D + q1) EvL.zero) W)
            have HPU : Hid (∀ (W' : World) (x : EvL), RwE w W' g cap n C → RwE w (((((((((W'.setCell ⟨g, kk * 9, none⟩ (.int .i64 x.d)).setCell ⟨g, kk * 9 + 1, none⟩ (.int .i64 x.s)).setCell ⟨g, kk * 9 + 2, none⟩ (.int .i64 x.a)).setCell ⟨g, kk * 9 + 3, none⟩ (.int .i64 x.l)).setCell ⟨g, kk * 9 + 4, none⟩ (.int .i64 x.k)).setCell ⟨g, kk * 9 + 5, none⟩ (.int .i64 x.b)).setCell ⟨g, kk * 9 + 6, none⟩ (.int .i64 x.p)).setCell ⟨g, kk * 9 + 7, none⟩ (.int .i64 x.r)).setCell ⟨g, kk * 9 + 8, none⟩ (.int .i64 x.e)) g cap n (C.set kk x)) := Lib.hid (fun W' x h => h.put kk hkkn x)
            have HKQ : Hid (q - 1 = q1) := Lib.hid (by omega)
            clear hq1e HX2 hn1
            generalize hgx : C.getD (D + q) EvL.zero = x at *
            generalize hgy : C.getD (D + q1) EvL.zero = y at *
            have HGX := Lib.hid hgx
            clear hgx hgy
            obtain ⟨Bq, hBq⟩ : ∃ Bq, numEq x y = Bq := ⟨_, rfl⟩
            rw [hBq] at HS HKP
            clear hBq
            obtain ⟨x0, x1, x2, x3, x4, x5, x6, x7, x8⟩ := x
            obtain ⟨y0, y1, y2, y3, y4, y5, y6, y7, y8⟩ := y
            dsimp only [evA] at *
            have pa0 : ∀ n' os', (grow (wr.drewN n') os').cell? ⟨g, D * 9 + q * 9, none⟩ = some (.int .i64 x0) := gcell (hc1 0 _ rfl)
            have pa1 : ∀ n' os', (grow (wr.drewN n') os').cell? ⟨g, D * 9 + q * 9 + 1, none⟩ = some (.int .i64 x1) := gcell (hc1 1 _ rfl)
            have pa2 : ∀ n' os', (grow (wr.drewN n') os').cell? ⟨g, D * 9 + q * 9 + 2, none⟩ = some (.int .i64 x2) := gcell (hc1 2 _ rfl)
            have pa3 : ∀ n' os', (grow (wr.drewN n') os').cell? ⟨g, D * 9 + q * 9 + 3, none⟩ = some (.int .i64 x3) := gcell (hc1 3 _ rfl)
            have pa4 : ∀ n' os', (grow (wr.drewN n') os').cell? ⟨g, D * 9 + q * 9 + 4, none⟩ = some (.int .i64 x4) := gcell (hc1 4 _ rfl)
            have pa5 : ∀ n' os', (grow (wr.drewN n') os').cell? ⟨g, D * 9 + q * 9 + 5, none⟩ = some (.int .i64 x5) := gcell (hc1 5 _ rfl)
            have pa6 : ∀ n' os', (grow (wr.drewN n') os').cell? ⟨g, D * 9 + q * 9 + 6, none⟩ = some (.int .i64 x6) := gcell (hc1 6 _ rfl)
            have pa7 : ∀ n' os', (grow (wr.drewN n') os').cell? ⟨g, D * 9 + q * 9 + 7, none⟩ = some (.int .i64 x7) := gcell (hc1 7 _ rfl)
            have pa8 : ∀ n' os', (grow (wr.drewN n') os').cell? ⟨g, D * 9 + q * 9 + 8, none⟩ = some (.int .i64 x8) := gcell (hc1 8 _ rfl)
            have pb0 : ∀ n' os', (grow (wr.drewN n') os').cell? ⟨g, D * 9 + q1 * 9, none⟩ = some (.int .i64 y0) := gcell (hc2 0 _ rfl)
            have pb1 : ∀ n' os', (grow (wr.drewN n') os').cell? ⟨g, D * 9 + q1 * 9 + 1, none⟩ = some (.int .i64 y1) := gcell (hc2 1 _ rfl)
            have pb2 : ∀ n' os', (grow (wr.drewN n') os').cell? ⟨g, D * 9 + q1 * 9 + 2, none⟩ = some (.int .i64 y2) := gcell (hc2 2 _ rfl)
            have pb3 : ∀ n' os', (grow (wr.drewN n') os').cell? ⟨g, D * 9 + q1 * 9 + 3, none⟩ = some (.int .i64 y3) := gcell (hc2 3 _ rfl)
            have pb4 : ∀ n' os', (grow (wr.drewN n') os').cell? ⟨g, D * 9 + q1 * 9 + 4, none⟩ = some (.int .i64 y4) := gcell (hc2 4 _ rfl)
            have pb5 : ∀ n' os', (grow (wr.drewN n') os').cell? ⟨g, D * 9 + q1 * 9 + 5, none⟩ = some (.int .i64 y5) := gcell (hc2 5 _ rfl)
            have pb6 : ∀ n' os', (grow (wr.drewN n') os').cell? ⟨g, D * 9 + q1 * 9 + 6, none⟩ = some (.int .i64 y6) := gcell (hc2 6 _ rfl)
            have pb7 : ∀ n' os', (grow (wr.drewN n') os').cell? ⟨g, D * 9 + q1 * 9 + 7, none⟩ = some (.int .i64 y7) := gcell (hc2 7 _ rfl)
            have pb8 : ∀ n' os', (grow (wr.drewN n') os').cell? ⟨g, D * 9 + q1 * 9 + 8, none⟩ = some (.int .i64 y8) := gcell (hc2 8 _ rfl)
            clear hc1 hc2
            go_upto_region 11 with (fail)
            go_quiet_grown (first | (go_at_call 42; (with_reducible refine Calls.grown_of (HS.out _))))
            have HR2 := Lib.hid (HR.out.ext ⟨nq, osq, rfl⟩)
            clear pa0 pa1 pa2 pa3 pa4 pa5 pa6 pa7 pa8 pb0 pb1 pb2 pb3 pb4 pb5 pb6 pb7 pb8
            clear hsub hwr hq10 hq1n
            generalize grow (wr.drewN nq) osq = W3 at *
            cases Bq with
            | true =>
              have HK2 : Hid (kk = D + (kp l D (q + 1 - 1)).length ∧ C.take kk = l.take D ++ kp l D (q + 1 - 1)) := Lib.hid (by
                rw [Nat.add_sub_cancel, HKP.out, if_pos rfl, List.append_nil, ← HKQ.out]; exact HKK.out)
              have HC2 : Hid (∀ j, D + (q + 1) ≤ j + 1 → C.getD j EvL.zero = l.getD j EvL.zero) := Lib.hid (fun j hj => HCJ.out j (by omega))
              clear HR HS HPU
              go_wp2_with fail
              go_roundw
              case rel => exact ⟨q + 1, kk, C, by omega, by omega, by omega, rfl, by go_num, HK2, HC2, HR2⟩
              case measure => simp [intOf]; omega
            | false =>
              have HR3 := Lib.hid (HPU.out W3 ⟨x0, x1, x2, x3, x4, x5, x6, x7, x8⟩ HR2.out)
              dsimp only at HR3
              have HK2 : Hid (kk + 1 = D + (kp l D (q + 1 - 1)).length ∧ (C.set kk ⟨x0, x1, x2, x3, x4, x5, x6, x7, x8⟩).take (kk + 1) = l.take D ++ kp l D (q + 1 - 1)) := Lib.hid (by
                have hkl : kk < C.length := by rw [HR2.out.len]; exact hkkn
                rw [Nat.add_sub_cancel, HKP.out, if_neg (by decide), ← List.append_assoc]
                refine ⟨by rw [List.length_append, ← HKQ.out]; have := HKK.out.1; simp; omega, ?_⟩
                rw [← HKQ.out, ← HKK.out.2, List.take_succ_eq_append_getElem (by simpa using hkl)]
                simp [List.take_set_of_le])
              have HC2 : Hid (∀ j, D + (q + 1) ≤ j + 1 → (C.set kk ⟨x0, x1, x2, x3, x4, x5, x6, x7, x8⟩).getD j EvL.zero = l.getD j EvL.zero) := Lib.hid (fun j hj => by
                rw [← HCJ.out j (by omega), List.getD_eq_getElem?_getD, List.getD_eq_getElem?_getD, List.getElem?_set_ne (by omega)])
              have hn1 : D + q < n := by have := HN2.out; omega
              have hc1 := fun j v hv => (show W3.cell? ⟨g, D * 9 + q * 9 + j, none⟩ = some v by rw [← Nat.add_mul]; exact HR2.out.cells (D + q) hn1 j v (by rw [HGX.out]; exact hv))
              have pc0 : W3.cell? ⟨g, D * 9 + q * 9, none⟩ = some (.int .i64 x0) := hc1 0 _ rfl
              have pc1 : W3.cell? ⟨g, D * 9 + q * 9 + 1, none⟩ = some (.int .i64 x1) := hc1 1 _ rfl
              have pc2 : W3.cell? ⟨g, D * 9 + q * 9 + 2, none⟩ = some (.int .i64 x2) := hc1 2 _ rfl
              have pc3 : W3.cell? ⟨g, D * 9 + q * 9 + 3, none⟩ = some (.int .i64 x3) := hc1 3 _ rfl
              have pc4 : W3.cell? ⟨g, D * 9 + q * 9 + 4, none⟩ = some (.int .i64 x4) := hc1 4 _ rfl
              have pc5 : W3.cell? ⟨g, D * 9 + q * 9 + 5, none⟩ = some (.int .i64 x5) := hc1 5 _ rfl
              have pc6 : W3.cell? ⟨g, D * 9 + q * 9 + 6, none⟩ = some (.int .i64 x6) := hc1 6 _ rfl
              have pc7 : W3.cell? ⟨g, D * 9 + q * 9 + 7, none⟩ = some (.int .i64 x7) := hc1 7 _ rfl
              have pc8 : W3.cell? ⟨g, D * 9 + q * 9 + 8, none⟩ = some (.int .i64 x8) := hc1 8 _ rfl
              obtain ⟨zz, hzz⟩ : ∃ zz, C.getD kk EvL.zero = zz := ⟨_, rfl⟩
              have hc3 := fun j v hv => HR2.out.cells kk hkkn j v (by rw [hzz]; exact hv)
              clear hzz
              obtain ⟨z0, z1, z2, z3, z4, z5, z6, z7, z8⟩ := zz
              have pd0 : W3.cell? ⟨g, kk * 9, none⟩ = some (.int .i64 z0) := hc3 0 _ rfl
              have pd1 : W3.cell? ⟨g, kk * 9 + 1, none⟩ = some (.int .i64 z1) := hc3 1 _ rfl
              have pd2 : W3.cell? ⟨g, kk * 9 + 2, none⟩ = some (.int .i64 z2) := hc3 2 _ rfl
              have pd3 : W3.cell? ⟨g, kk * 9 + 3, none⟩ = some (.int .i64 z3) := hc3 3 _ rfl
              have pd4 : W3.cell? ⟨g, kk * 9 + 4, none⟩ = some (.int .i64 z4) := hc3 4 _ rfl
              have pd5 : W3.cell? ⟨g, kk * 9 + 5, none⟩ = some (.int .i64 z5) := hc3 5 _ rfl
              have pd6 : W3.cell? ⟨g, kk * 9 + 6, none⟩ = some (.int .i64 z6) := hc3 6 _ rfl
              have pd7 : W3.cell? ⟨g, kk * 9 + 7, none⟩ = some (.int .i64 z7) := hc3 7 _ rfl
              have pd8 : W3.cell? ⟨g, kk * 9 + 8, none⟩ = some (.int .i64 z8) := hc3 8 _ rfl
              have f0 := HR2.out.fz (kk * 9)
              have f1 := HR2.out.fz (kk * 9 + 1)
              have f2 := HR2.out.fz (kk * 9 + 2)
              have f3 := HR2.out.fz (kk * 9 + 3)
              have f4 := HR2.out.fz (kk * 9 + 4)
              have f5 := HR2.out.fz (kk * 9 + 5)
              have f6 := HR2.out.fz (kk * 9 + 6)
              have f7 := HR2.out.fz (kk * 9 + 7)
              have f8 := HR2.out.fz (kk * 9 + 8)
              clear HR HS HPU hc1 hc3 hn1 HKP
              go_wp2_with fail
              go_roundw
              case rel => exact ⟨q + 1, kk + 1, _, by omega, by omega, by omega, by go_num, by go_num, HK2, HC2, HR3⟩
              case measure => simp [intOf]; omega
          · obtain rfl : q = N2 := by omega
            have hs3 := HS1.out kk hkkn
            have hs4 := HS2.out kk (by omega)
            have hcl : ∀ ty, (Builtin.clear_ #[25] ty #[.slice (some ⟨g, kk * 9, none⟩) (n - kk) (cap - kk)]).run Try.prog wr = .ok (.tuple #[]) (wr.setCells g (kk * 9) (zerosE (n - kk))) := fun ty => clearE wr ty g (kk * 9) (n - kk) (cap - kk) (by omega) (fun j hj => by
              rw [HR.out.row.cellAt (kk * 9 + j) (by omega), List.getElem?_eq_getElem (by rw [flatE_len, HR.out.len]; omega)]; rfl) (fun j _ => HR.out.fz _)
            obtain ⟨xs', r1, r2, r3⟩ := setCells_row (zerosE (n - kk)) (kk * 9) wr _ HR.out.row
            have HFIN : Hid ((wr.setCells g (kk * 9) (zerosE (n - kk))).ownsRow g 27 9 (.slice (some ⟨g, 0, none⟩) kk cap) kk (flatV evA (cptL l)) ∧ w.grownBy (wr.setCells g (kk * 9) (zerosE (n - kk))) (some g)) := Lib.hid ⟨by
              have h := own_short r1 (show kk ≤ n by omega)
              rw [r2, flatE_take, HKK.out.2, HN2.out.symm, ← HFI.out] at h
              exact h, HR.out.gr.trans r3⟩
            clear r1 r2 r3 HR HCJ HKK HFI hs1
            generalize wr.setCells g (kk * 9) (zerosE (n - kk)) = W3 at *
            go_wp2_with fail
            go_ret
            exact ⟨kk, rfl, HFIN.out.1, HFIN.out.2⟩
    · obtain rfl : k = n := by omega
      have hD : D = k := by rw [← HK.out, Nat.sub_self]; exact HL.out
      have HFI := Lib.hid (HAN.out.2 (by omega))
      clear HK HAN hD
      go_wp2_with fail
      go_ret
      exact ⟨k, rfl, by rw [HFI.out]; exact HR.out.row, HR.out.gr⟩
theorem compact_any (l : List EvL) {B n : Nat} {v : Value} (w : World) (hr : w.ownsRow B 27 9 v n (flatV evA l)) (hl : l.length = n) (hn : n ≤ 1000000) :
    Calls Try.prog 41 #[v, .func (.func 42) #[] #[]] w (fun e w' => ∃ v', e = .returned v' ∧ w'.ownsRow B 27 9 v' (cptL l).length (flatV evA (cptL l)) ∧ w.grownBy w' v.ownBlock) := by
  by_cases h2 : n < 2
  · have h2' : (n : Int) < 2 := by omega
    have e := cptL_short l (by omega)
    have HQ : Hid (w.ownsRow B 27 9 v (cptL l).length (flatV evA (cptL l))) := Lib.hid (by rw [e, hl]; exact hr)
    obtain ⟨ao, cap, rfl, hs⟩ := sl_of_own hr
    clear hr hs e
    go_enter Try.func41, Try.ntmps41
    go_wp2
    go_ret
    exact ⟨_, rfl, HQ.out, World.grownBy.refl _ _⟩
  · rcases hr.2 with ⟨_, hz⟩ | ⟨g, cap, cur, rfl, hB, hg, hnc, hcm, hcs, htk⟩
    · omega
    · have h := compact_main l w (g := g) (n := n) (cap := cap) ⟨hr.1, .inr ⟨g, cap, cur, rfl, Nat.le_refl _, hg, hnc, hcm, hcs, htk⟩⟩ hl hn (by omega)
      refine h.mono fun e w' ⟨m, he, ho, hgr⟩ => ⟨_, he, ?_, hgr⟩
      have hm : m = (cptL l).length := by have := ho.1; rw [flatE_len] at this; omega
      rw [← hm]
      exact ownsRow_mono ho hB
end Go.Proofs.Ytdgjdbpbnipjcaa
