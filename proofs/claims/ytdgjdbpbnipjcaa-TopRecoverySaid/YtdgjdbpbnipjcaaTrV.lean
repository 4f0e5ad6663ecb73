/-
  CUSTODY: parked, count, riding.
-/
import Derived.Test.YtdgjdbpbnipjcaaTrR
import Derived.Test.YtdgjdbpbnipjcaaBase4
import Derived.Maps.RangeWalk
import Derived.BigQuiet
import Derived.BigRegion
import Derived.Laws.StructEq
import Derived.StillTailTactics
import Derived.RegionTactic
import Derived.Deep.DeepCutAuto
import Derived.Deep.QuietTactic
import Derived.WalkSpells
import Derived.WalkLawsBesides
namespace Go.Proofs.Ytdgjdbpbnipjcaa
open Go.RowKit Go.Maps
set_option linter.unusedVariables false

def parkedB (x : SpL) : Bool := decide (x.w = 1) || decide (x.w = 2)
set_option maxHeartbeats 1000000 in
theorem parked_any (x : SpL) (w : World) : Calls Try.prog 47 #[.agg (spA x)] w (RetB (.bool (parkedB x)) w) := by
  by_cases h1 : x.w = 1
  · rw [show parkedB x = true by simp [parkedB, h1]]
    obtain ⟨x0, x1, x2, x3⟩ := x
    dsimp only [spA] at *
    go_enter Try.func47, Try.ntmps47
    go_wp2
    go_ret
    exact ⟨rfl, below_alloc _ _⟩
  · by_cases h2 : x.w = 2
    · rw [show parkedB x = true by simp [parkedB, h2]]
      obtain ⟨x0, x1, x2, x3⟩ := x
      dsimp only [spA] at *
      subst h2
      clear h1
      go_enter Try.func47, Try.ntmps47
      go_wp2
      go_ret
      exact ⟨rfl, below_alloc _ _⟩
    · rw [show parkedB x = false by simp [parkedB, h1, h2]]
      obtain ⟨x0, x1, x2, x3⟩ := x
      dsimp only [spA] at *
      go_enter Try.func47, Try.ntmps47
      go_wp2
      go_ret
      exact ⟨by simp [h1, h2], below_alloc _ _⟩
def atB (wh pl : Int) (x : SpL) : Bool := decide (x.w = wh) && decide (x.p = pl)
def countN (sp : List SpL) (wh pl : Int) : Nat := sp.countP (atB wh pl)
theorem countN_step (sp : List SpL) (wh pl : Int) (k : Nat) (h : k < sp.length) : countN (sp.take (k + 1)) wh pl = countN (sp.take k) wh pl + if atB wh pl (sp.getD k SpL.zero) = true then 1 else 0 := by
  unfold countN
  rw [List.take_succ_eq_append_getElem h, List.countP_append]
  simp [List.countP_cons, List.getD, h]
theorem countN_le (sp : List SpL) (wh pl : Int) (k : Nat) : countN (sp.take k) wh pl ≤ k := by
  unfold countN
  have := List.countP_le_length (p := atB wh pl) (l := sp.take k)
  rw [List.length_take] at this
  omega
set_option maxRecDepth 100000 in
set_option maxHeartbeats 2000000 in
theorem count_any {c : CuP} {B : Nat} {fl : FlL} {N : Nat} {w : World} {σ : StL} (h : CuW c B fl N w σ) (hn : c.n ≤ 1000) (wh pl : Int) :
    Calls Try.prog 48 #[.pointer (some ⟨c.g, 0, none⟩), .int .i64 wh, .int .i64 pl] w (RetB (.int .i64 (countN σ.sp wh pl : Int)) w) := by
  obtain ⟨F, nO, nU, DO, DU, h⟩ := h
  obtain ⟨d4, d5, d6, d7⟩ := h.cells
  have HC := Lib.hid h
  clear h d4 d6 d7
  go_enter Try.func48, Try.ntmps48
  go_wp2_with fail
  go_loopw [7, 15] (fun m i wr => ∃ k : Nat, k ≤ c.n ∧ i = .int .i64 (k : Int) ∧ m = .int .i64 (countN (σ.sp.take k) wh pl : Int) ∧ Hid (Below w.heap.size w wr)) (fun _ i _ => c.n - (intOf i).toNat)
  case atStart => exact ⟨0, by omega, rfl, by simp [countN], Lib.hid (Below.refl _ _)⟩
  case round =>
    obtain ⟨k, hk, rfl, rfl, HB⟩ := hrel
    have hk0 : (0 : Int) ≤ (k : Int) := by omega
    have hcl := countN_le σ.sp wh pl k
    have hc0 : (0 : Int) ≤ (countN (σ.sp.take k) wh pl : Int) := by omega
    by_cases hkn : k < c.n
    · have hkn' : (k : Int) < (c.n : Int) := by omega
      have hcu := HC.out.ext HB.out
      have hst := countN_step σ.sp wh pl k (by rw [HC.out.len]; exact hkn)
      have hc1 := fun j v hv => hcu.spot k hkn j v hv
      generalize σ.sp.getD k SpL.zero = x at *
      obtain ⟨x0, x1, x2, x3⟩ := x
      have e0 : wr.cell? ⟨c.sg, k * 4, none⟩ = some (.int .i64 x0) := hc1 0 _ rfl
      have e1 : wr.cell? ⟨c.sg, k * 4 + 1, none⟩ = some (.int .i64 x1) := hc1 1 _ rfl
      have e2 : wr.cell? ⟨c.sg, k * 4 + 2, none⟩ = some (.int .i64 x2) := hc1 2 _ rfl
      have e3 : wr.cell? ⟨c.sg, k * 4 + 3, none⟩ = some (.bool x3) := hc1 3 _ rfl
      have HB2 := Lib.hid (fun o => below_step HB.out (below_alloc wr o))
      clear hc1 hcu
      by_cases hw : x0 = wh
      · by_cases hp : x1 = pl
        · rw [if_pos (by simp [atB, hw, hp])] at hst
          have HST : Hid ((countN (σ.sp.take (k + 1)) wh pl : Int) = (countN (σ.sp.take k) wh pl : Int) + 1) := Lib.hid (by omega)
          clear hst
          generalize (countN (σ.sp.take k) wh pl) = m at *
          go_wp2_with fail
          go_roundw
          case rel => exact ⟨k + 1, by omega, by go_num, by rw [HST.out], Lib.hid (HB2.out _)⟩
          case measure => simp [intOf]; omega
        · rw [if_neg (by simp [atB, hp])] at hst
          have HST : Hid ((countN (σ.sp.take (k + 1)) wh pl : Int) = (countN (σ.sp.take k) wh pl : Int)) := Lib.hid (by omega)
          clear hst
          generalize (countN (σ.sp.take k) wh pl) = m at *
          go_wp2_with fail
          go_roundw
          case rel => exact ⟨k + 1, by omega, by go_num, by rw [HST.out], Lib.hid (HB2.out _)⟩
          case measure => simp [intOf]; omega
      · rw [if_neg (by simp [atB, hw])] at hst
        have HST : Hid ((countN (σ.sp.take (k + 1)) wh pl : Int) = (countN (σ.sp.take k) wh pl : Int)) := Lib.hid (by omega)
        clear hst
        generalize (countN (σ.sp.take k) wh pl) = m at *
        go_wp2_with fail
        go_roundw
        case rel => exact ⟨k + 1, by omega, by go_num, by rw [HST.out], Lib.hid (HB2.out _)⟩
        case measure => simp [intOf]; omega
    · obtain rfl : k = c.n := by omega
      have HT : Hid (σ.sp.take c.n = σ.sp) := Lib.hid (by rw [← HC.out.len, List.take_length])
      rw [HT.out]
      go_wp2_with fail
      go_ret
      exact ⟨rfl, HB.out⟩
def ridingB (σ : StL) (r : Int) : Bool := σ.ks.any fun k => match σ.o k with
  | some t => decide (t.r = r)
  | none => false
theorem riding_true {σ : StL} {r k : Int} {t : TpL} (hk : k ∈ σ.ks) (ho : σ.o k = some t) (hr : t.r = r) : ridingB σ r = true := by
  unfold ridingB
  rw [List.any_eq_true]
  exact ⟨k, hk, by rw [ho]; simpa using hr⟩
theorem riding_false {σ : StL} {r : Int} (h : ∀ k t, σ.o k = some t → ¬ t.r = r) : ridingB σ r = false := by
  unfold ridingB
  rw [List.any_eq_false]
  intro k _
  cases ho : σ.o k with
  | none => simp
  | some t => simpa using h k t ho
set_option maxRecDepth 100000 in
set_option maxHeartbeats 2000000 in
theorem riding_any {c : CuP} {B : Nat} {fl : FlL} {N : Nat} {w : World} {σ : StL} (h : CuW c B fl N w σ) (rider : Int) :
    Calls Try.prog 49 #[.pointer (some ⟨c.g, 0, none⟩), .int .i64 rider] w (RetB (.bool (ridingB σ rider)) w) := by
  obtain ⟨F, nO, nU, DO, DU, h⟩ := h
  obtain ⟨d4, d5, d6, d7⟩ := h.cells
  have HC := Lib.hid h
  have hom := h.mo.1
  clear h d4 d5 d7
  go_enter Try.func49, Try.ntmps49
  go_wp2_with (first | (at_range; refine wpList_range_own _ rfl _ 55 rfl 3 _ kmLaw2 Try.underlying55 rdV2 c.bo nO DO rfl hom ?_; intro w0 hrg0 hg0 hs0))
  go_frame
  have HRG0 := Lib.hid hrg0
  have HB0 : Hid (Below w.heap.size w w0) := Lib.hid (Below.grown (Below.refl _ _) hg0 (Nat.le_refl _) (fun k e => by cases e))
  clear hrg0 hg0 hs0 hom d6
  go_loopw [6] (fun _ wr => ∃ left cnt, Hid (wr.ranges Try.prog 3 rdV2 c.bo w.heap.size nO DO left cnt) ∧ Hid (∀ k q t, F k = some (q, t) → left (.int .i64 k) = false → ¬ t.r = rider) ∧ Hid (∀ z, left z = true → has DO z = true) ∧ Hid (Below w.heap.size w wr)) (fun _ wr => wr.rangeLeft c.bo w.heap.size)
  case atStart =>
    refine ⟨_, _, HRG0, Lib.hid (fun k q t e hl => ?_), Lib.hid (fun _ h => h), HB0⟩
    have h2 := HC.out.mo.2 k (HC.out.hk k _ e).2
    rw [show ptrV F k = some (.pointer (some ⟨q, 0, none⟩)) by unfold ptrV; rw [e]; rfl] at h2
    dsimp only at h2
    rw [h2.1] at hl
    cases hl
  case round =>
    clear HRG0 HB0
    obtain ⟨left, cnt, HRG, HNO, HHA, HB⟩ := hrel
    go_wp2_with (first | (at_next; refine wpList_next_ranges _ rfl _ rfl 3 kmLaw2 rdV2 (Value.int .i64) id (fun key kl hkey => by obtain ⟨x, rfl, _⟩ := Maps.keyOf_int_inv Try.underlying3 hkey; exact ⟨x, rfl⟩) (fun v y _ => ⟨v, rfl⟩) c.bo w.heap.size nO DO left cnt rfl HRG.out ?_ ?_))
    · intro hc0 hl0
      have HF : Hid (ridingB σ rider = false) := Lib.hid (riding_false (fun k t ho => by
        rw [HC.out.ab k] at ho
        obtain ⟨p, hp, rfl⟩ := Option.map_eq_some_iff.1 ho
        exact HNO.out k p.1 p.2 hp (hl0 _)))
      clear hc0 hl0
      go_wp2_with fail
      go_ret
      exact ⟨congrArg (fun b => Ending.returned (.bool b)) HF.out.symm, HB.out⟩
    · intro x v kl y yp w1 cnt1 hkey hlx hR hat hrg1 hlt hg1 hs1 hen
      obtain ⟨x', ex, rfl, hwf⟩ := Maps.keyOf_int_inv Try.underlying3 hkey
      cases ex
      have hix : InI x := wf_i64 hwf
      have hy : y = .held v := by unfold rdV2 at hR; exact (Prod.mk.inj (Option.some.inj hR)).1.symm
      have h2 := HC.out.mo.2 x hix
      have hhas := HHA.out _ hlx
      obtain ⟨q, t, hF⟩ : ∃ q t, F x = some (q, t) := by
        cases hFx : F x with
        | none =>
          rw [show ptrV F x = none by unfold ptrV; rw [hFx]; rfl] at h2
          dsimp only at h2
          rw [h2] at hhas; cases hhas
        | some p => exact ⟨p.1, p.2, rfl⟩
      rw [show ptrV F x = some (.pointer (some ⟨q, 0, none⟩)) by unfold ptrV; rw [hF]; rfl] at h2
      dsimp only at h2
      have hv : v = .pointer (some ⟨q, 0, none⟩) := by
        have h3 := h2.2 (.held v)
        rw [hat, hy] at h3
        exact DataW.held.inj h3
      subst hv
      have hbq := hp_below HB.out (HC.out.tr x q t hF).1
      have hqr : q ≠ w.heap.size := fun e => by
        have := (Array.getElem?_eq_some_iff.1 (HC.out.tr x q t hF).1).1
        omega
      have hbq1 := blkG hbq hg1 hqr
      have t0 : w1.cell? ⟨q, 0, none⟩ = some (.int .i64 t.r) := by rw [cell_of_row _ _ _ _ _ _ hbq1]; rfl
      have HB1 : Hid (Below w.heap.size w w1) := Lib.hid (Below.grown HB.out hg1 HB.out.size (fun k e => by cases e; exact Nat.le_refl _))
      have HRG1 := Lib.hid hrg1
      have HX : Hid (x ∈ σ.ks ∧ σ.o x = some t) := Lib.hid ⟨(HC.out.hk x _ hF).1, by rw [HC.out.ab, hF]; rfl⟩
      have HNO1 : Hid (¬ t.r = rider → ∀ k q' t', F k = some (q', t') → (left (.int .i64 k) && !(Lit.int .i64 k).sameKey (.int .i64 x)) = false → ¬ t'.r = rider) := Lib.hid (fun hne k q' t' e hl => by
        rcases Bool.and_eq_false_iff.1 hl with hl | hl
        · exact HNO.out k q' t' e hl
        · have hkx : k = x := by
            have : (Lit.int .i64 k).sameKey (.int .i64 x) = true := by simpa using hl
            by_cases hkx : k = x
            · exact hkx
            · simp [Lit.sameKey] at this
              exact absurd this hkx
          rw [hkx, hF] at e
          cases e
          exact hne)
      have HHA1 : Hid (∀ z, (left z && !z.sameKey (.int .i64 x)) = true → has DO z = true) := Lib.hid (fun z hz => HHA.out z (Bool.and_eq_true_iff.1 hz).1)
      have HLT : Hid (w1.rangeLeft c.bo w.heap.size < wr.rangeLeft c.bo w.heap.size) := Lib.hid (by rw [hrg1.left_eq, HRG.out.left_eq]; exact hlt)
      clear hkey hlx hR hat hrg1 hlt hg1 hs1 hwf hix hy h2 hhas hbq hqr hbq1
      obtain ⟨tr, tb, tz⟩ := t
      by_cases htr : tr = rider
      · have HF : Hid (ridingB σ rider = true) := Lib.hid (riding_true HX.out.1 HX.out.2 htr)
        go_wp2_with fail
        go_ret
        exact ⟨congrArg (fun b => Ending.returned (.bool b)) HF.out.symm, HB1.out⟩
      · have HNO2 := Lib.hid (HNO1.out htr)
        go_wp2_with fail
        go_roundw
        case rel => exact ⟨_, _, HRG1, HNO2, HHA1, HB1⟩
        case measure => exact HLT.out
end Go.Proofs.Ytdgjdbpbnipjcaa
