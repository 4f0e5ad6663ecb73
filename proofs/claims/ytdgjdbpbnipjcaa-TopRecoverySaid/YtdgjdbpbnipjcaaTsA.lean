/-
  CUSTODY: run, Spots.
-/
import Derived.Test.YtdgjdbpbnipjcaaTrY
import Derived.Test.YtdgjdbpbnipjcaaTrQ
import Derived.BigQuiet
import Derived.BigRegion
import Derived.Laws.StructEq
import Derived.StillTailTactics
import Derived.RegionTactic
import Derived.Deep.DeepCutAuto
import Derived.Deep.QuietTactic
import Derived.WalkSpells
import Derived.WalkLawsBesides
namespace Go.Proofs.Ytdgjdbpbnipjcaa
open Go.RowKit Go.Maps
set_option linter.unusedVariables false

def stepS (fl : FlL) (σ : StL) (x : EvL) : StL :=
  if checkE fl x = 0 then (if x.k = 10 then σ else if checkS fl σ x = 0 then doS σ x else σ) else σ
def foldS (fl : FlL) (n : Nat) (S : List EvL) (k : Nat) : StL := (S.take k).foldl (stepS fl) (beginS n)
theorem foldS_step (fl : FlL) (n : Nat) (S : List EvL) (k : Nat) (h : k < S.length) : foldS fl n S (k + 1) = stepS fl (foldS fl n S k) (S.getD k EvL.zero) := by
  unfold foldS
  rw [List.take_succ_eq_append_getElem h, List.foldl_append]
  simp [List.getD, h]
theorem inv_step {fl : FlL} {n : Nat} {σ : StL} (inv : InvS n σ) (x : EvL) (hx : EvR x) (hfl : fl.b = (n : Int)) : InvS n (stepS fl σ x) := by
  unfold stepS
  split
  · next h1 =>
    split
    · exact inv
    · split
      · next h2 => exact inv_do inv x hx h1 h2 hfl
      · exact inv
  · exact inv
theorem inv_fold {fl : FlL} {n : Nat} (S : List EvL) (hS : ∀ x ∈ S, EvR x) (hfl : fl.b = (n : Int)) : ∀ k, k ≤ S.length → InvS n (foldS fl n S k)
  | 0, _ => inv_begin n
  | k + 1, h => by
    rw [foldS_step fl n S k (by omega)]
    refine inv_step (inv_fold S hS hfl k (by omega)) _ (hS _ ?_) hfl
    rw [List.getD_eq_getElem?_getD, List.getElem?_eq_getElem (by omega)]
    exact List.getElem_mem _
theorem addRow {c : CuP} {B : Nat} {fl : FlL} {N : Nat} {W : World} {σ : StL} (h : CuW c B fl N W σ) {B1 n : Nat} {v : Value} {xs : List Value} (hr : W.ownsRow B1 27 9 v n xs) :
    ∃ c', c'.g = c.g ∧ c'.n = c.n ∧ CuW c' B fl N W σ ∧ ∀ W' N' σ', CuW c' B fl N' W' σ' → W'.ownsRow B1 27 9 v n xs := by
  rcases hr.2 with ⟨hv, hn⟩ | ⟨g, cap, cur, hv, hB, hg, rest⟩
  · exact ⟨c, rfl, rfl, h, fun W' N' σ' _ => ⟨hr.1, .inl ⟨hv, hn⟩⟩⟩
  · exact ⟨⟨c.g, c.sg, c.bo, c.bu, c.n, (g, cur) :: c.L⟩, rfl, rfl, h.addL hg, fun W' N' σ' h' => ⟨hr.1, .inr ⟨g, cap, cur, hv, hB, h'.fr (g, cur) (List.mem_cons_self ..), rest⟩⟩⟩
set_option maxRecDepth 100000 in
set_option maxHeartbeats 1000000 in
theorem run_bad (fl : FlL) (ao : Option Addr) (len cap : Nat) (w : World) (hfm : FlM w fl) (h1 : fl.dn ≤ 100) (h2 : fl.tn ≤ 100) (h0 : fleetE fl ≠ 0) :
    Calls Try.prog 19 #[.agg (flA fl), .slice ao len cap, .nilFunc] w (RetB (.tuple #[.pointer none, .int .i64 (fleetE fl)]) w) := by
  have HFL : Hid (∀ W, Below w.heap.size w W → Calls Try.prog 26 #[.agg (flA fl)] W (RetB (.int .i64 (fleetE fl)) W)) := Lib.hid (fun W hb => fleet_any fl W (hfm.below hb) h1 h2)
  clear hfm
  generalize fleetE fl = FE at *
  obtain ⟨b, r, v, da, dn, dc, ds, ta, tn, tc, ts⟩ := fl
  dsimp only [flA] at *
  have HB : Hid (Below w.heap.size w (w.alloc (.cells #[.int .i64 b, .int .i64 r, .int .i64 v, .slice da dn dc, .slice ta tn tc] 24))) := Lib.hid (below_alloc _ _)
  have HC : Hid (BlkAt (w.alloc (.cells #[.int .i64 b, .int .i64 r, .int .i64 v, .slice da dn dc, .slice ta tn tc] 24)) w.heap.size #[.int .i64 b, .int .i64 r, .int .i64 v, .slice da dn dc, .slice ta tn tc]) := Lib.hid (blkNew rfl)
  go_enter Try.func19, Try.ntmps19
  go_upto_region 1 with (fail)
  generalize w.alloc (.cells #[.int .i64 b, .int .i64 r, .int .i64 v, .slice da dn dc, .slice ta tn tc] 24) = W1 at *
  obtain ⟨c0, c1, c2, c3, c4⟩ := five_cells HC.out
  go_wp2_with fail
  refine (HFL.out _ HB.out).mono ?_
  rintro e w2 ⟨rfl, hb⟩
  have HB2 := Lib.hid (below_step HB.out hb)
  clear hb c0 c1 c2 c3 c4
  go_wp2_with fail
  go_ret2
  exact ⟨rfl, HB2.out⟩
set_option maxRecDepth 100000 in
set_option maxHeartbeats 2000000 in
theorem run_ok (fl : FlL) (n : Nat) (hfl : fl.b = (n : Int)) (h128 : n ≤ 128) (h0 : fleetE fl = 0) (l : List EvL) (hl : ∀ x ∈ l, EvR x) (ao : Option Addr) (len cap : Nat) (w : World) (hs : Sl w 9 ao len cap (flatV evA l)) (hlen : l.length = len) (h1000 : len ≤ 1000) (hfm : FlM w fl) (h1 : fl.dn ≤ 100) (h2 : fl.tn ≤ 100) :
    Calls Try.prog 19 #[.agg (flA fl), .slice ao len cap, .nilFunc] w (fun e w' => ∃ c N B0, e = .returned (.tuple #[.pointer (some ⟨c.g, 0, none⟩), .int .i64 0]) ∧ CuW c B0 fl N w' (foldS fl n (setL l) (setL l).length) ∧ c.n = n ∧ w.heap.size ≤ B0 ∧ Below w.heap.size w w') := by
  have HFM := Lib.hid hfm
  have HFL : Hid (∀ W, Below w.heap.size w W → Calls Try.prog 26 #[.agg (flA fl)] W (RetB (.int .i64 (fleetE fl)) W)) := Lib.hid (fun W hb => fleet_any fl W (hfm.below hb) h1 h2)
  have HBE := Lib.hid (fun W => begin_any fl n W hfl h128)
  have HSE : Hid (∀ W, Below w.heap.size w W → Calls Try.prog 28 #[.slice ao len cap] W (RetOwnV W (setL l))) := Lib.hid (fun W hb => set_any l ao len cap W (hs.ext hb) hlen (by omega))
  have HSM : Hid (∀ x ∈ setL l, EvR x) := Lib.hid (fun x hx => hl x (setL_mem l x hx))
  have HM : Hid ((setL l).length ≤ 1000) := Lib.hid (by have := setL_len l; omega)
  have HCE := Lib.hid (fun W (x : EvL) (hx : EvR x) (hb : Below w.heap.size w W) => checkEv_any fl x W (hfm.below hb) h1 h2 hx)
  have HCS := Lib.hid (fun (W : World) (c : CuP) (B N : Nat) (σ : StL) (x : EvL) (h : CuW c B fl N W σ) (hb : Below w.heap.size w W) (hn : c.n = n) (hx : EvR x) (hck : checkE fl x = 0) => checkS_any h (hfm.below hb) (by omega) x hx hck (by rw [hn]; exact hfl))
  have HDO := Lib.hid (fun (W : World) (c : CuP) (B N : Nat) (σ : StL) (x : EvL) (h : CuW c B fl N W σ) (hN : N < 100000) (inv : InvS n σ) (hn : c.n = n) (hx : EvR x) (hck : checkE fl x = 0) (hcs : checkS fl σ x = 0) => doS_any h hN (by rw [hn]; exact inv) x hx hck hcs (by rw [hn]; exact hfl))
  have HIN := Lib.hid (fun k => inv_fold (fl := fl) (setL l) HSM.out hfl k)
  clear hfm hs hl hlen hfl
  generalize setL l = S at *
  rw [h0] at HFL
  have HF0 := Lib.hid (show flA fl = #[.int .i64 fl.b, .int .i64 fl.r, .int .i64 fl.v, .slice fl.da fl.dn fl.dc, .slice fl.ta fl.tn fl.tc] from rfl)
  have hfa : flA fl = #[.int .i64 fl.b, .int .i64 fl.r, .int .i64 fl.v, .slice fl.da fl.dn fl.dc, .slice fl.ta fl.tn fl.tc] := rfl
  rw [hfa] at HFL HBE HCE ⊢
  clear hfa HF0 h0
  have hnf : ∀ w : World, (binOp .neq 67 .nilFunc .nilFunc).run Try.prog w = .ok (.bool false) w := fun w => by kernel_rfl
  have HB : Hid (Below w.heap.size w (w.alloc (.cells #[.int .i64 fl.b, .int .i64 fl.r, .int .i64 fl.v, .slice fl.da fl.dn fl.dc, .slice fl.ta fl.tn fl.tc] 24))) := Lib.hid (below_alloc _ _)
  have HC : Hid (BlkAt (w.alloc (.cells #[.int .i64 fl.b, .int .i64 fl.r, .int .i64 fl.v, .slice fl.da fl.dn fl.dc, .slice fl.ta fl.tn fl.tc] 24)) w.heap.size #[.int .i64 fl.b, .int .i64 fl.r, .int .i64 fl.v, .slice fl.da fl.dn fl.dc, .slice fl.ta fl.tn fl.tc]) := Lib.hid (blkNew rfl)
  go_enter Try.func19, Try.ntmps19
  go_upto_region 1 with (fail)
  generalize w.alloc (.cells #[.int .i64 fl.b, .int .i64 fl.r, .int .i64 fl.v, .slice fl.da fl.dn fl.dc, .slice fl.ta fl.tn fl.tc] 24) = W1 at *
  obtain ⟨c0, c1, c2, c3, c4⟩ := five_cells HC.out
  go_wp2_with fail
  refine (HFL.out _ HB.out).mono ?_
  rintro e w2 ⟨rfl, hb⟩
  have HB2 := Lib.hid (below_step HB.out hb)
  have HC2 := Lib.hid (blkBelow hb HC.out)
  clear hb c0 c1 c2 c3 c4 HB HC HFL
  obtain ⟨c0, c1, c2, c3, c4⟩ := five_cells HC2.out
  go_wp2_with fail
  refine (HBE.out _).mono ?_
  rintro e w3 ⟨c, rfl, hcn, hcl, hcu, hb⟩
  have HB3 := Lib.hid (below_step HB2.out hb)
  have HC3 := Lib.hid (blkBelow hb HC2.out)
  have HBB : Hid (w.heap.size < w2.heap.size) := Lib.hid (HC2.out.elim fun E h => (Array.getElem?_eq_some_iff.1 h).1)
  have HCU3 := Lib.hid hcu
  clear hb hcu c0 c1 c2 c3 c4 HC2 HBE hcl
  go_wp2_with fail
  refine (HSE.out _ HB3.out).mono ?_
  rintro e w4 ⟨v, rfl, ho, hb⟩
  have HB4 := Lib.hid (below_step HB3.out hb)
  have HC4 := Lib.hid (blkBelow hb HC3.out)
  obtain ⟨c', hg', hn', hcu, hrow⟩ := addRow (HCU3.out.ext hb) ho
  obtain ⟨av, cv, rfl, _⟩ := sl_of_own ho
  have HROW := Lib.hid (fun W' N' σ' (h : CuW c' w2.heap.size fl N' W' σ') => (sl_of_own (hrow W' N' σ' h)))
  have HCU := Lib.hid hcu
  have HN : Hid (c'.n = n) := Lib.hid (hn'.trans hcn)
  rw [← hg']
  clear hb ho hrow hcu hg' hn' hcn HCU3 HC3 HB3 HSE
  generalize w2.heap.size = B0 at *
  have HSL : Hid (S.length = S.length) := Lib.hid rfl
  obtain ⟨M, hM⟩ : ∃ M, S.length = M := ⟨_, rfl⟩
  have HMM := Lib.hid hM
  rw [hM] at HM HROW HIN ⊢
  have hM1 := HM.out
  clear hM HSL
  go_wp2_with fail
  go_loopw [23] (fun i wr => ∃ k : Nat, k ≤ M ∧ i = .int .i64 (k : Int) ∧ Hid (CuW c' B0 fl (2 * k) wr (foldS fl n S k)) ∧ Hid (Below B0 w4 wr)) (fun i _ => M - (intOf i).toNat)
  case atStart => exact ⟨0, by omega, rfl, HCU, Lib.hid (Below.refl _ _)⟩
  case round =>
    clear HCU
    obtain ⟨k, hk, rfl, HCU, HBL⟩ := hrel
    have hk0 : (0 : Int) ≤ (k : Int) := by omega
    by_cases hkM : k < M
    · have hkM' : (k : Int) < (M : Int) := by omega
      obtain ⟨av', cv', eav, hsl⟩ := HROW.out wr _ _ HCU.out
      cases eav
      obtain ⟨b1, o1, e1, hc1⟩ := flat_at EvL.zero evA 9 (by decide) (fun _ => rfl) hsl HMM.out k hkM
      subst e1
      have HX : Hid (EvR (S.getD k EvL.zero)) := Lib.hid (HSM.out _ (by rw [List.getD_eq_getElem?_getD, List.getElem?_eq_getElem (by have := HMM.out; omega)]; exact List.getElem_mem _))
      have HST : Hid (foldS fl n S (k + 1) = stepS fl (foldS fl n S k) (S.getD k EvL.zero)) := Lib.hid (foldS_step fl n S k (by have := HMM.out; omega))
      have HIV : Hid (InvS n (foldS fl n S k)) := Lib.hid (HIN.out k hk)
      have HBW : Hid (Below w.heap.size w wr) := Lib.hid (HB4.out.trans (HBL.out.mono (Nat.le_of_lt HBB.out)))
      have HCW : Hid (BlkAt wr w.heap.size #[.int .i64 fl.b, .int .i64 fl.r, .int .i64 fl.v, .slice fl.da fl.dn fl.dc, .slice fl.ta fl.tn fl.tc]) := Lib.hid (blkU_low HBL.out HBB.out HC4.out)
      generalize foldS fl n S k = σ at *
      generalize S.getD k EvL.zero = x at *
      have HCK := Lib.hid (fun W hb => HCE.out W x HX.out hb)
      have HCH := Lib.hid (fun W σ h hb hck => HCS.out W c' B0 (2 * k) σ x h hb HN.out HX.out hck)
      have HDD := Lib.hid (fun W h inv hck hcs => HDO.out W c' B0 (2 * k) σ x h (by omega) inv HN.out HX.out hck hcs)
      obtain ⟨CK, hCK⟩ : ∃ CK, checkE fl x = CK := ⟨_, rfl⟩
      obtain ⟨CS, hCS⟩ : ∃ CS, checkS fl σ x = CS := ⟨_, rfl⟩
      have HSS : Hid (stepS fl σ x = if CK = 0 then (if x.k = 10 then σ else if CS = 0 then doS σ x else σ) else σ) := Lib.hid (by unfold stepS; rw [hCK, hCS])
      have HCHS := Lib.hid (fun W h hb hck => HCH.out W σ h hb hck)
      rw [hCK] at HCK HCHS HDD
      rw [hCS] at HCHS HDD
      rw [HST.out.symm] at HSS
      clear hCK hCS HST HCH hsl HX
      obtain ⟨σ2, hσ2⟩ : ∃ σ2, foldS fl n S (k + 1) = σ2 := ⟨_, rfl⟩
      rw [hσ2] at HSS
      have HFE := Lib.hid hσ2
      clear hσ2
      generalize hdo : doS σ x = σd at *
      have HSA : Hid ((CK ≠ 0 → σ2 = σ) ∧ (x.k = 10 → σ2 = σ) ∧ (CS ≠ 0 → σ2 = σ) ∧ (CK = 0 → x.k ≠ 10 → CS = 0 → σ2 = σd)) := Lib.hid ⟨fun h => by rw [HSS.out, if_neg h], fun h => by rw [HSS.out, if_pos h, ite_self], fun h => by rw [HSS.out, if_neg h, ite_self, ite_self], fun h1 h2 h3 => by rw [HSS.out, if_pos h1, if_neg h2, if_pos h3]⟩
      clear hdo HSS
      obtain ⟨d, s, a, l, kk, b, p, r, e⟩ := x
      dsimp only [evA] at *
      have p0 : wr.cell? ⟨b1, o1 + k * 9, none⟩ = some (.int .i64 d) := hc1 0 _ rfl
      have p1 : wr.cell? ⟨b1, o1 + k * 9 + 1, none⟩ = some (.int .i64 s) := hc1 1 _ rfl
      have p2 : wr.cell? ⟨b1, o1 + k * 9 + 2, none⟩ = some (.int .i64 a) := hc1 2 _ rfl
      have p3 : wr.cell? ⟨b1, o1 + k * 9 + 3, none⟩ = some (.int .i64 l) := hc1 3 _ rfl
      have p4 : wr.cell? ⟨b1, o1 + k * 9 + 4, none⟩ = some (.int .i64 kk) := hc1 4 _ rfl
      have p5 : wr.cell? ⟨b1, o1 + k * 9 + 5, none⟩ = some (.int .i64 b) := hc1 5 _ rfl
      have p6 : wr.cell? ⟨b1, o1 + k * 9 + 6, none⟩ = some (.int .i64 p) := hc1 6 _ rfl
      have p7 : wr.cell? ⟨b1, o1 + k * 9 + 7, none⟩ = some (.int .i64 r) := hc1 7 _ rfl
      have p8 : wr.cell? ⟨b1, o1 + k * 9 + 8, none⟩ = some (.int .i64 e) := hc1 8 _ rfl
      clear hc1
      go_upto_region 8 with (fail)
      have hb := below_alloc wr (.cells #[.int .i64 d, .int .i64 s, .int .i64 a, .int .i64 l, .int .i64 kk, .int .i64 b, .int .i64 p, .int .i64 r, .int .i64 e] 27)
      have HE5 : Hid (BlkAt (wr.alloc (.cells #[.int .i64 d, .int .i64 s, .int .i64 a, .int .i64 l, .int .i64 kk, .int .i64 b, .int .i64 p, .int .i64 r, .int .i64 e] 27)) wr.heap.size #[.int .i64 d, .int .i64 s, .int .i64 a, .int .i64 l, .int .i64 kk, .int .i64 b, .int .i64 p, .int .i64 r, .int .i64 e]) := Lib.hid (blkNew rfl)
      have HF5 := Lib.hid (blkBelow hb HCW.out)
      have HU5 := Lib.hid (HCU.out.ext hb)
      have HV5 := Lib.hid (below_step HBW.out hb)
      have HK5 : Hid (Below B0 w4 (wr.alloc (.cells #[.int .i64 d, .int .i64 s, .int .i64 a, .int .i64 l, .int .i64 kk, .int .i64 b, .int .i64 p, .int .i64 r, .int .i64 e] 27))) := Lib.hid (HBL.out.trans (hb.mono HCU.out.size))
      clear hb p0 p1 p2 p3 p4 p5 p6 p7 p8 HCU HBL HBW HCW
      generalize wr.alloc (.cells #[.int .i64 d, .int .i64 s, .int .i64 a, .int .i64 l, .int .i64 kk, .int .i64 b, .int .i64 p, .int .i64 r, .int .i64 e] 27) = W5 at *
      generalize wr.heap.size = eb at *
      have h2k : 2 * (k + 1) = 2 * k + 2 := by omega
      have H2K := Lib.hid h2k
      clear h2k
      obtain ⟨c0, c1, c2, c3, c4⟩ := five_cells HF5.out
      obtain ⟨e0, e1, e2, e3, e4, e5, e6, e7, e8⟩ := nine_cellsE HE5.out
      go_wp2_with fail
      refine (HCK.out _ HV5.out).mono ?_
      rintro e' w6 ⟨rfl, hb⟩
      have HE6 := Lib.hid (blkBelow hb HE5.out)
      have HF6 := Lib.hid (blkBelow hb HF5.out)
      have HU6 := Lib.hid (HU5.out.ext hb)
      have HV6 := Lib.hid (below_step HV5.out hb)
      have HK6 : Hid (Below B0 w4 w6) := Lib.hid (HK5.out.trans (hb.mono HU5.out.size))
      clear hb c0 c1 c2 c3 c4 e0 e1 e2 e3 e4 e5 e6 e7 e8
      obtain ⟨c0, c1, c2, c3, c4⟩ := five_cells HF6.out
      obtain ⟨e0, e1, e2, e3, e4, e5, e6, e7, e8⟩ := nine_cellsE HE6.out
      by_cases hck : CK = 0
      · subst hck
        by_cases h10 : kk = 10
        · subst h10
          have HS2 : Hid (CuW c' B0 fl (2 * (k + 1)) w6 σ2) := Lib.hid (by rw [HSA.out.2.1 (by trivial)]; exact HU6.out.mono (by omega))
          go_wp2_with fail
          go_roundw
          case rel => exact ⟨k + 1, by omega, by go_num, by rw [HFE.out]; exact HS2, HK6⟩
          case measure => simp [intOf]; omega
        · go_wp2_with fail
          refine (HCHS.out _ HU6.out HV6.out (by trivial)).mono ?_
          rintro e' w7 ⟨rfl, hb⟩
          have HE7 := Lib.hid (blkBelow hb HE6.out)
          have HF7 := Lib.hid (blkBelow hb HF6.out)
          have HU7 := Lib.hid (HU6.out.ext hb)
          have HV7 := Lib.hid (below_step HV6.out hb)
          have HK7 : Hid (Below B0 w4 w7) := Lib.hid (HK6.out.trans (hb.mono HU6.out.size))
          clear hb c0 c1 c2 c3 c4 e0 e1 e2 e3 e4 e5 e6 e7 e8
          obtain ⟨c0, c1, c2, c3, c4⟩ := five_cells HF7.out
          obtain ⟨e0, e1, e2, e3, e4, e5, e6, e7, e8⟩ := nine_cellsE HE7.out
          by_cases hcs : CS = 0
          · subst hcs
            go_wp2_with fail
            refine (HDD.out _ HU7.out HIV.out (by trivial) (by trivial)).mono ?_
            rintro e' w8 ⟨rfl, hc, hb⟩
            have HS2 : Hid (CuW c' B0 fl (2 * (k + 1)) w8 σ2) := Lib.hid (by rw [HSA.out.2.2.2 (by trivial) h10 (by trivial), H2K.out]; exact hc)
            have HK8 := Lib.hid (HK7.out.trans hb)
            clear hc hb c0 c1 c2 c3 c4 e0 e1 e2 e3 e4 e5 e6 e7 e8
            go_wp2_with fail
            go_roundw
            case rel => exact ⟨k + 1, by omega, by go_num, by rw [HFE.out]; exact HS2, HK8⟩
            case measure => simp [intOf]; omega
          · have HS2 : Hid (CuW c' B0 fl (2 * (k + 1)) w7 σ2) := Lib.hid (by rw [HSA.out.2.2.1 hcs]; exact HU7.out.mono (by omega))
            go_wp2_with fail
            go_roundw
            case rel => exact ⟨k + 1, by omega, by go_num, by rw [HFE.out]; exact HS2, HK7⟩
            case measure => simp [intOf]; omega
      · have HS2 : Hid (CuW c' B0 fl (2 * (k + 1)) w6 σ2) := Lib.hid (by rw [HSA.out.1 hck]; exact HU6.out.mono (by omega))
        go_wp2_with fail
        go_roundw
        case rel => exact ⟨k + 1, by omega, by go_num, by rw [HFE.out]; exact HS2, HK6⟩
        case measure => simp [intOf]; omega
    · obtain rfl : k = M := by omega
      have HFIN : Hid (Below w.heap.size w wr) := Lib.hid (HB4.out.trans (HBL.out.mono (Nat.le_of_lt HBB.out)))
      go_wp2_with fail
      go_ret2
      exact ⟨c', _, B0, rfl, by rw [HMM.out]; exact HCU.out, HN.out, Nat.le_of_lt HBB.out, HFIN.out⟩
/-- What Spots answers. -/
def spotsL (fl : FlL) (l : List EvL) : List SpL := if fleetE fl = 0 then (foldS fl fl.b.toNat (setL l) (setL l).length).sp else []
def RetSp (w : World) (er : Int) (xs : List SpL) (e : Ending) (w' : World) : Prop := ∃ v, e = .returned (.tuple #[v, .int .i64 er]) ∧ w'.ownsRow w.heap.size 60 4 v xs.length (flatV spA xs) ∧ Below w.heap.size w w'
set_option maxRecDepth 100000 in
set_option maxHeartbeats 2000000 in
theorem spots_any (fl : FlL) (l : List EvL) (hl : ∀ x ∈ l, EvR x) (ao : Option Addr) (len cap : Nat) (w : World) (hs : Sl w 9 ao len cap (flatV evA l)) (hlen : l.length = len) (h1000 : len ≤ 1000) (hfm : FlM w fl) (h1 : fl.dn ≤ 100) (h2 : fl.tn ≤ 100) :
    Calls Try.prog 9 #[.agg (flA fl), .slice ao len cap] w (RetSp w (fleetE fl) (spotsL fl l)) := by
  have hfa : flA fl = #[.int .i64 fl.b, .int .i64 fl.r, .int .i64 fl.v, .slice fl.da fl.dn fl.dc, .slice fl.ta fl.tn fl.tc] := rfl
  have HB : Hid (Below w.heap.size w (w.alloc (.cells #[.int .i64 fl.b, .int .i64 fl.r, .int .i64 fl.v, .slice fl.da fl.dn fl.dc, .slice fl.ta fl.tn fl.tc] 24))) := Lib.hid (below_alloc _ _)
  have HC : Hid (BlkAt (w.alloc (.cells #[.int .i64 fl.b, .int .i64 fl.r, .int .i64 fl.v, .slice fl.da fl.dn fl.dc, .slice fl.ta fl.tn fl.tc] 24)) w.heap.size #[.int .i64 fl.b, .int .i64 fl.r, .int .i64 fl.v, .slice fl.da fl.dn fl.dc, .slice fl.ta fl.tn fl.tc]) := Lib.hid (blkNew rfl)
  by_cases h0 : fleetE fl = 0
  · obtain ⟨⟨hb1, hb2⟩, _⟩ := fleetE_zero h0
    obtain ⟨n, hn⟩ : ∃ n : Nat, fl.b = (n : Int) := ⟨fl.b.toNat, by omega⟩
    have HRU := Lib.hid (run_ok fl n hn (by omega) h0 l hl ao len cap _ (hs.ext HB.out) hlen h1000 (hfm.below HB.out) h1 h2)
    have HSP : Hid (spotsL fl l = (foldS fl n (setL l) (setL l).length).sp) := Lib.hid (by unfold spotsL; rw [if_pos h0, hn, Int.toNat_natCast])
    rw [h0]
    obtain ⟨sp, hsp⟩ : ∃ sp, spotsL fl l = sp := ⟨_, rfl⟩
    rw [hsp] at HSP ⊢
    rw [hfa] at HRU ⊢
    clear hsp hfa hs hfm hl hlen h0 hb1 hb2 hn
    generalize foldS fl n (setL l) (setL l).length = σ at *
    go_enter Try.func9, Try.ntmps9
    go_upto_region 1 with (fail)
    generalize w.alloc (.cells #[.int .i64 fl.b, .int .i64 fl.r, .int .i64 fl.v, .slice fl.da fl.dn fl.dc, .slice fl.ta fl.tn fl.tc] 24) = W1 at *
    obtain ⟨c0, c1, c2, c3, c4⟩ := five_cells HC.out
    go_wp2_with fail
    refine HRU.out.mono ?_
    rintro e w2 ⟨c, N, B0, rfl, hcu, hcn, hB, hb⟩
    obtain ⟨d4, d5, d6, d7⟩ := hcu.cells
    have HFIN : Hid (w2.ownsRow w.heap.size 60 4 (.slice (some ⟨c.sg, 0, none⟩) c.n c.n) sp.length (flatV spA sp) ∧ Below w.heap.size w w2) := Lib.hid (by
      obtain ⟨F, nO, nU, DO, DU, h⟩ := hcu
      have hl := h.len
      rw [HSP.out, hl]
      exact ⟨ownsRow_mono h.row (Nat.le_trans HB.out.size hB), below_step HB.out hb⟩)
    clear hcu hcn hB hb c0 c1 c2 c3 c4 HRU HSP HB HC
    go_wp2_with fail
    go_ret2
    exact ⟨_, rfl, HFIN.out.1, HFIN.out.2⟩
  · have HRU := Lib.hid (run_bad fl ao len cap _ (hfm.below HB.out) h1 h2 h0)
    have HSP : Hid (spotsL fl l = []) := Lib.hid (by unfold spotsL; rw [if_neg h0])
    rw [HSP.out]
    rw [hfa] at HRU ⊢
    clear hfa hs hfm hl hlen HSP
    generalize fleetE fl = FE at *
    go_enter Try.func9, Try.ntmps9
    go_upto_region 1 with (fail)
    generalize w.alloc (.cells #[.int .i64 fl.b, .int .i64 fl.r, .int .i64 fl.v, .slice fl.da fl.dn fl.dc, .slice fl.ta fl.tn fl.tc] 24) = W1 at *
    obtain ⟨c0, c1, c2, c3, c4⟩ := five_cells HC.out
    go_wp2_with fail
    refine HRU.out.mono ?_
    rintro e w2 ⟨rfl, hb⟩
    have HFIN := Lib.hid (below_step HB.out hb)
    clear hb c0 c1 c2 c3 c4 HRU HB HC
    go_wp2_with fail
    go_ret2
    exact ⟨_, rfl, World.ownsRow_nil _ _ _ _, HFIN.out⟩
end Go.Proofs.Ytdgjdbpbnipjcaa
