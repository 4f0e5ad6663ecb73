/-
  CUSTODY: begin, parked, count, riding.
-/
import Derived.Test.YtdgjdbpbnipjcaaTrR
import Derived.Maps.RangeWalk
import Derived.BigQuiet
import Derived.BigRegion
import Derived.Laws.StructEq
import Derived.StillTailTactics
import Derived.RegionTactic
import Derived.Deep.DeepCutAuto
import Derived.Deep.QuietTactic
import Derived.WalkSpells
import Derived.WalkLawsBesides
namespace Go.Proofs.Ytdgjdbpbnipjcaa
open Go.RowKit Go.Maps
set_option linter.unusedVariables false

def spShop : SpL := ⟨5, 0, 0, false⟩
def beginS (n : Nat) : StL := ⟨List.replicate n spShop, fun _ => none, fun _ => false, []⟩
def begin0 (n : Nat) : StL := ⟨List.replicate n SpL.zero, fun _ => none, fun _ => false, []⟩
theorem infoSp : (Try.prog.info? 60).map (fun i => (i.zero, i.size, i.bytes)) = some (some (.agg #[.int .i64 0, .int .i64 0, .int .i64 0, .bool false]), 4, 32) := by kernel_rfl
theorem made_spots (n : Nat) : (madeCells (Value.agg #[.int .i64 0, .int .i64 0, .int .i64 0, .bool false]).cells (n * 4)).toList = flatV spA (List.replicate n SpL.zero) := by
  have hl : (flatV spA (List.replicate n SpL.zero)).length = n * 4 := by rw [flatV_len spA 4 (fun _ => rfl)]; simp
  apply List.ext_getElem?
  intro t
  by_cases ht : t < n * 4
  · have e := flatV_get SpL.zero spA 4 (fun _ => rfl) (List.replicate n SpL.zero) (t / 4) (t % 4) (by simp; omega) (by omega)
    rw [show t / 4 * 4 + t % 4 = t by omega] at e
    rw [e]
    have h4 : t % 4 < 4 := Nat.mod_lt _ (by decide)
    have hg : (List.replicate n SpL.zero).getD (t / 4) SpL.zero = SpL.zero := by
      rw [List.getD_eq_getElem?_getD, List.getElem?_replicate]; split <;> rfl
    rw [hg]
    simp [madeCells, Value.cells, ht]
    generalize t % 4 = q at *
    match q, h4 with
    | 0, _ => rfl
    | 1, _ => rfl
    | 2, _ => rfl
    | 3, _ => rfl
  · have e1 : (flatV spA (List.replicate n SpL.zero))[t]? = none := List.getElem?_eq_none (by rw [hl]; omega)
    have e2 : (madeCells (Value.agg #[.int .i64 0, .int .i64 0, .int .i64 0, .bool false]).cells (n * 4)).toList[t]? = none := List.getElem?_eq_none (by simp [madeCells]; omega)
    rw [e1, e2]
theorem make_spots (n : Nat) (hn : n ≤ 1000) : ∃ Z : Array Value, (∀ w, (Instr.makeSlice 37 (.int .i64 (n : Int)) (.int .i64 (n : Int))).run Try.prog w = .ok (.slice (some ⟨w.heap.size, 0, none⟩) n n) (w.alloc (.cells Z 60))) ∧ Z.toList = flatV spA (List.replicate n SpL.zero) := by
  obtain ⟨i, hi, hz, hsz, hby⟩ := info_parts infoSp
  refine ⟨madeCells (Value.agg #[.int .i64 0, .int .i64 0, .int .i64 0, .bool false]).cells (n * 4), fun w => ?_, made_spots n⟩
  have := run_make (P := Try.prog) (w := w) 37 60 i (.agg #[.int .i64 0, .int .i64 0, .int .i64 0, .bool false]) Try.underlying37 hi hz .i64 .i64 (n : Int) (n : Int) (by omega) (by omega) (by rw [hby]; omega) (by omega)
  rw [hsz, Int.toNat_natCast] at this
  exact this
theorem km_empty {W : World} {b : Nat} (h : W.heap[b]? = some (.map #[] 0)) : KmAt W b 0 (.map []) (fun _ => none) :=
  ⟨⟨#[], 0, h, ⟨by simp, MapKept.stamped_empty 0, by simp⟩, Nat.le_refl _, rfl⟩, fun k _ => rfl⟩
theorem begin_cu {W : World} {fl : FlL} {B g sg bo bu n : Nat} {Z : Array Value} (hZ : Z.toList = flatV spA (List.replicate n SpL.zero)) (hn : n ≤ 1000)
    (h1 : W.heap[g]? = some (.cells (stA2 ⟨g, sg, bo, bu, n, []⟩ fl) 58)) (h2 : W.heap[sg]? = some (.cells Z 60)) (h3 : W.heap[bo]? = some (.map #[] 0)) (h4 : W.heap[bu]? = some (.map #[] 0))
    (b1 : B ≤ g) (b2 : B ≤ sg) (b3 : B ≤ bo) (b4 : B ≤ bu) (hne : bo ≠ bu) : CuW ⟨g, sg, bo, bu, n, []⟩ B fl 0 W (begin0 n) := by
  have hl : (flatV spA (List.replicate n SpL.zero)).length = n * 4 := by rw [flatV_len spA 4 (fun _ => rfl)]; simp
  have hzs : Z.size = n * 4 := by rw [← Array.length_toList, hZ, hl]
  exact ⟨fun _ => none, 0, 0, .map [], .map [], h1, ⟨hl, .inr ⟨sg, n, Z, rfl, b2, h2, Nat.le_refl _, by unfold maxLen; omega, hzs, by rw [hZ, ← hl, List.take_length]; rfl⟩⟩, by simp [begin0],
    (km_empty h3).same (fun _ => rfl), (km_empty h4).same (fun _ => rfl), Nat.le_refl _, Nat.le_refl _, (fun k q t e => by cases e), (fun k k' q t t' e => by cases e), fun _ => rfl, (fun k p e => by cases e), b1, b3, b4, hne, (fun p hp => by cases hp)⟩
theorem bel_al {w W : World} (o : Obj) (h : Below w.heap.size w W) : Below w.heap.size w (W.alloc o) := below_step h (below_alloc _ _)
theorem bel_dr {w W : World} (h : Below w.heap.size w W) : Below w.heap.size w W.drew := below_drew h
theorem rep_step (n k : Nat) (h : k < n) : (List.replicate k spShop ++ List.replicate (n - k) SpL.zero).set k spShop = List.replicate (k + 1) spShop ++ List.replicate (n - (k + 1)) SpL.zero := by
  rw [List.set_append_right _ _ (by simp), List.length_replicate, Nat.sub_self, show n - k = (n - (k + 1)) + 1 by omega, List.replicate_succ (n := n - (k + 1)), List.set_cons_zero, List.replicate_succ' (n := k), List.append_assoc]
  rfl
theorem rep_get (n k : Nat) (h : k < n) : (List.replicate k spShop ++ List.replicate (n - k) SpL.zero).getD k SpL.zero = SpL.zero := by
  rw [List.getD_eq_getElem?_getD, List.getElem?_append_right (by simp)]
  simp [show 0 < n - k by omega]
theorem CuAt.putShop {c : CuP} {B : Nat} {fl : FlL} {N : Nat} {W : World} {σ : StL} {F : Gh} {nO nU : Nat} {DO DU : DataW Value} (h : CuAt c B fl N W σ F nO nU DO DU) (k : Nat) (hk : k < c.n) (hx : σ.sp.getD k SpL.zero = SpL.zero) :
    CuAt c B fl N (W.setCell ⟨c.sg, k * 4, none⟩ (.int .i64 5)) { σ with sp := σ.sp.set k spShop } F nO nU DO DU ∧ Below B W (W.setCell ⟨c.sg, k * 4, none⟩ (.int .i64 5)) := by
  have s0 := h.row.stored (k * 4) (.int .i64 5)
  have hr := s0.1
  have hkl : k < σ.sp.length := by rw [h.len]; exact hk
  have e := flat_set4 σ.sp k spShop hkl
  have g : ∀ j v, (spA SpL.zero)[j]? = some v → (flatV spA σ.sp)[k * 4 + j]? = some v := fun j v hv => by
    rw [flatV_get SpL.zero spA 4 (fun _ => rfl) σ.sp k j hkl ((Array.getElem?_eq_some_iff.1 hv).1), hx]; exact hv
  have st : ∀ (L : List Value) (i m : Nat) (u v : Value), m ≠ i → L[i]? = some v → (L.set m u).set i v = L.set m u := fun L i m u v hne hv => by
    have h2 : (L.set m u)[i]? = some v := by rw [List.getElem?_set_ne hne]; exact hv
    obtain ⟨hi, hv'⟩ := List.getElem?_eq_some_iff.1 h2
    conv => lhs; rw [← hv']
    exact List.set_getElem_self hi
  have g1 : ((flatV spA σ.sp).set (k * 4) (.int .i64 spShop.w)).set (k * 4 + 1) (.int .i64 spShop.p) = (flatV spA σ.sp).set (k * 4) (.int .i64 spShop.w) := st _ _ _ _ _ (by omega) (g 1 _ rfl)
  have g2 : ((flatV spA σ.sp).set (k * 4) (.int .i64 spShop.w)).set (k * 4 + 2) (.int .i64 spShop.r) = (flatV spA σ.sp).set (k * 4) (.int .i64 spShop.w) := st _ _ _ _ _ (by omega) (g 2 _ rfl)
  have g3 : ((flatV spA σ.sp).set (k * 4) (.int .i64 spShop.w)).set (k * 4 + 3) (.bool spShop.z) = (flatV spA σ.sp).set (k * 4) (.int .i64 spShop.w) := st _ _ _ _ _ (by omega) (g 3 _ rfl)
  rw [g1, g2, g3] at e
  rw [show (Value.int .i64 5) = .int .i64 spShop.w from rfl, e] at hr
  exact ⟨h.rowTurn s0.2 hr (by simpa using h.len), h.below s0.2 h.rowblk.2⟩
set_option maxRecDepth 100000 in
set_option maxHeartbeats 4000000 in
theorem begin_any (fl : FlL) (n : Nat) (w : World) (hn : fl.b = (n : Int)) (h128 : n ≤ 128) :
    Calls Try.prog 27 #[.agg (flA fl)] w (fun e w' => ∃ c, e = .returned (.pointer (some ⟨c.g, 0, none⟩)) ∧ c.n = n ∧ c.L = [] ∧ CuW c w.heap.size fl 0 w' (beginS n) ∧ Below w.heap.size w w') := by
  have hmm := @run_makeMap Try.prog
  obtain ⟨Z, hmk, hZ⟩ := make_spots n (by omega)
  have HZ := Lib.hid hZ
  have HCU := Lib.hid (fun (W : World) (g sg bo bu : Nat) => begin_cu (W := W) (fl := fl) (B := w.heap.size) (g := g) (sg := sg) (bo := bo) (bu := bu) (n := n) (Z := Z) HZ.out (by omega))
  clear hZ HZ
  obtain ⟨b, r, v, da, dn, dc, ds, ta, tn, tc, ts⟩ := fl
  dsimp only at hn
  subst hn
  dsimp only [flA, stA2] at *
  have HB : Hid (Below w.heap.size w (w.alloc (.cells #[.int .i64 (n : Int), .int .i64 r, .int .i64 v, .slice da dn dc, .slice ta tn tc] 24))) := Lib.hid (below_alloc _ _)
  have HC : Hid (BlkAt (w.alloc (.cells #[.int .i64 (n : Int), .int .i64 r, .int .i64 v, .slice da dn dc, .slice ta tn tc] 24)) w.heap.size #[.int .i64 (n : Int), .int .i64 r, .int .i64 v, .slice da dn dc, .slice ta tn tc]) := Lib.hid (blkNew rfl)
  go_enter Try.func27, Try.ntmps27
  go_upto_region 1 with (fail)
  have hz0 : w.heap.size < (w.alloc (.cells #[.int .i64 (n : Int), .int .i64 r, .int .i64 v, .slice da dn dc, .slice ta tn tc] 24)).heap.size := by simp
  generalize hw1 : w.alloc (.cells #[.int .i64 (n : Int), .int .i64 r, .int .i64 v, .slice da dn dc, .slice ta tn tc] 24) = W1 at *
  clear hw1
  have hz1 : w.heap.size < W1.heap.size + 1 := by omega
  have hz2 : w.heap.size < W1.heap.size + 1 + 1 := by omega
  have hz3 : w.heap.size < W1.heap.size + 1 + 1 + 1 := by omega
  obtain ⟨c0, c1, c2, c3, c4⟩ := five_cells HC.out
  go_cut [3] (fun p wx => ∃ c : CuP, p = .pointer (some ⟨c.g, 0, none⟩) ∧ c.n = n ∧ c.L = [] ∧ Hid (CuW c w.heap.size ⟨n, r, v, da, dn, dc, ds, ta, tn, tc, ts⟩ 0 wx (begin0 n)) ∧ Hid (Below w.heap.size w wx))
  case first =>
    go_region
    all_goals
      go_wp2_with fail
      go_meet
      first
        | (refine ⟨⟨W1.heap.size + 1 + 1 + 1, W1.heap.size, W1.heap.size + 1, W1.heap.size + 1 + 1, n, []⟩, rfl, rfl, rfl, Lib.hid (HCU.out _ _ _ _ _ ?_ ?_ ?_ ?_ ?_ ?_ ?_ ?_ ?_), Lib.hid ?_⟩ <;> first | omega | (focus ((repeat (first | ((with_reducible refine hp_new ?_); focus (simp; done)) | (with_reducible refine hp_drew ?_) | (with_reducible refine hp_old ?_))); done)) | (focus ((repeat (first | (with_reducible exact HB.out) | (with_reducible refine bel_dr ?_) | (with_reducible refine bel_al _ ?_))); done)))
        | (refine ⟨⟨W1.heap.size + 1 + 1 + 1, W1.heap.size, W1.heap.size + 1 + 1, W1.heap.size + 1, n, []⟩, rfl, rfl, rfl, Lib.hid (HCU.out _ _ _ _ _ ?_ ?_ ?_ ?_ ?_ ?_ ?_ ?_ ?_), Lib.hid ?_⟩ <;> first | omega | (focus ((repeat (first | ((with_reducible refine hp_new ?_); focus (simp; done)) | (with_reducible refine hp_drew ?_) | (with_reducible refine hp_old ?_))); done)) | (focus ((repeat (first | (with_reducible exact HB.out) | (with_reducible refine bel_dr ?_) | (with_reducible refine bel_al _ ?_))); done)))
        | (refine ⟨⟨W1.heap.size + 1 + 1 + 1, W1.heap.size + 1, W1.heap.size, W1.heap.size + 1 + 1, n, []⟩, rfl, rfl, rfl, Lib.hid (HCU.out _ _ _ _ _ ?_ ?_ ?_ ?_ ?_ ?_ ?_ ?_ ?_), Lib.hid ?_⟩ <;> first | omega | (focus ((repeat (first | ((with_reducible refine hp_new ?_); focus (simp; done)) | (with_reducible refine hp_drew ?_) | (with_reducible refine hp_old ?_))); done)) | (focus ((repeat (first | (with_reducible exact HB.out) | (with_reducible refine bel_dr ?_) | (with_reducible refine bel_al _ ?_))); done)))
        | (refine ⟨⟨W1.heap.size + 1 + 1 + 1, W1.heap.size + 1, W1.heap.size + 1 + 1, W1.heap.size, n, []⟩, rfl, rfl, rfl, Lib.hid (HCU.out _ _ _ _ _ ?_ ?_ ?_ ?_ ?_ ?_ ?_ ?_ ?_), Lib.hid ?_⟩ <;> first | omega | (focus ((repeat (first | ((with_reducible refine hp_new ?_); focus (simp; done)) | (with_reducible refine hp_drew ?_) | (with_reducible refine hp_old ?_))); done)) | (focus ((repeat (first | (with_reducible exact HB.out) | (with_reducible refine bel_dr ?_) | (with_reducible refine bel_al _ ?_))); done)))
        | (refine ⟨⟨W1.heap.size + 1 + 1 + 1, W1.heap.size + 1 + 1, W1.heap.size, W1.heap.size + 1, n, []⟩, rfl, rfl, rfl, Lib.hid (HCU.out _ _ _ _ _ ?_ ?_ ?_ ?_ ?_ ?_ ?_ ?_ ?_), Lib.hid ?_⟩ <;> first | omega | (focus ((repeat (first | ((with_reducible refine hp_new ?_); focus (simp; done)) | (with_reducible refine hp_drew ?_) | (with_reducible refine hp_old ?_))); done)) | (focus ((repeat (first | (with_reducible exact HB.out) | (with_reducible refine bel_dr ?_) | (with_reducible refine bel_al _ ?_))); done)))
        | (refine ⟨⟨W1.heap.size + 1 + 1 + 1, W1.heap.size + 1 + 1, W1.heap.size + 1, W1.heap.size, n, []⟩, rfl, rfl, rfl, Lib.hid (HCU.out _ _ _ _ _ ?_ ?_ ?_ ?_ ?_ ?_ ?_ ?_ ?_), Lib.hid ?_⟩ <;> first | omega | (focus ((repeat (first | ((with_reducible refine hp_new ?_); focus (simp; done)) | (with_reducible refine hp_drew ?_) | (with_reducible refine hp_old ?_))); done)) | (focus ((repeat (first | (with_reducible exact HB.out) | (with_reducible refine bel_dr ?_) | (with_reducible refine bel_al _ ?_))); done)))
  case rest =>
    obtain ⟨c, rfl, hcn, hcl, HCW, HBW⟩ := hcut
    clear HCU HC HB hmk hmm c0 c1 c2 c3 c4 hz0 hz1 hz2 hz3
    obtain ⟨W2, hW2⟩ : ∃ W', W' = wc := ⟨_, rfl⟩
    subst hW2
    obtain ⟨F, nO, nU, DO, DU, hcu⟩ := HCW.out
    obtain ⟨d4, d5, d6, d7⟩ := hcu.cells
    obtain ⟨cg, sg, bo, bu, n', cl⟩ := c
    dsimp only at hcn hcl d4 d5 d6 d7 hcu
    subst hcn
    subst hcl
    clear hcu
    go_wp2_with fail
    go_loopw [18] (fun i wr => ∃ k : Nat, k ≤ n' ∧ i = .int .i64 (k : Int) ∧ Hid (CuW ⟨cg, sg, bo, bu, n', []⟩ w.heap.size ⟨n', r, v, da, dn, dc, ds, ta, tn, tc, ts⟩ 0 wr ⟨List.replicate k spShop ++ List.replicate (n' - k) SpL.zero, fun _ => none, fun _ => false, []⟩) ∧ Hid (Below w.heap.size w wr)) (fun i _ => n' - (intOf i).toNat)
    case atStart => exact ⟨0, by omega, rfl, Lib.hid (by simpa [begin0] using HCW.out), HBW⟩
    case round =>
      clear HCW HBW d4 d5 d6 d7
      obtain ⟨k, hk, rfl, HCW, HBW⟩ := hrel
      have hk0 : (0 : Int) ≤ (k : Int) := by omega
      by_cases hkn : k < n'
      · have hkn' : (k : Int) < (n' : Int) := by omega
        obtain ⟨F, nO, nU, DO, DU, hcu⟩ := HCW.out
        obtain ⟨d4, d5, d6, d7⟩ := hcu.cells
        have e0 : wr.cell? ⟨sg, k * 4, none⟩ = some (.int .i64 0) := hcu.spot k hkn 0 _ (by rw [rep_get n' k hkn]; rfl)
        have f0 : wr.frozen? ⟨sg, k * 4, none⟩ = false := hcu.sfz _
        have hp := hcu.putShop k hkn (rep_get n' k hkn)
        have HP : Hid (CuW ⟨cg, sg, bo, bu, n', []⟩ w.heap.size ⟨n', r, v, da, dn, dc, ds, ta, tn, tc, ts⟩ 0 (wr.setCell ⟨sg, k * 4, none⟩ (.int .i64 5)) ⟨List.replicate (k + 1) spShop ++ List.replicate (n' - (k + 1)) SpL.zero, fun _ => none, fun _ => false, []⟩) := Lib.hid (by
          rw [← rep_step n' k hkn]; exact ⟨_, _, _, _, _, hp.1⟩)
        have HPB := Lib.hid (HBW.out.trans hp.2)
        dsimp only at d4 d5 d6 d7
        clear hcu hp HCW
        go_wp2_with fail
        go_roundw
        case rel => exact ⟨k + 1, by omega, by go_num, HP, HPB⟩
        case measure => simp [intOf]; omega
      · obtain rfl : k = n' := by omega
        go_wp2_with fail
        go_ret
        exact ⟨⟨cg, sg, bo, bu, k, []⟩, rfl, rfl, rfl, by have := HCW.out; rw [Nat.sub_self, List.replicate_zero, List.append_nil] at this; exact this, HBW.out⟩
end Go.Proofs.Ytdgjdbpbnipjcaa
