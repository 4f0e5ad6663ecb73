/-
  FORECAST, THE WALKS: Expected.
-/
import Derived.Test.YtjfakdbgcinpcaaProg
import Derived.Test.YtjfakdbgcinpcaaBase7
import Derived.Test.YtjfakdbgcinpcaaDraw4
import Derived.Test.YtjfakdbgcinpcaaFcP
import Derived.Test.YtjfakdbgcinpcaaFc1
import Derived.Test.YtjfakdbgcinpcaaFc2
import Derived.Test.YtjfakdbgcinpcaaHeld
import Derived.BigQuiet
import Derived.Laws.StructEq
import Derived.StillTailTactics
import Derived.RegionTactic
import Derived.Deep.DeepCutAuto
import Derived.Deep.QuietTactic
import Derived.WalkSpells
import Derived.WalkLawsBesides
namespace Go.Proofs.Ytjfakdbgcinpcaa
open Go.RowKit
set_option linter.unusedVariables false

set_option maxRecDepth 100000 in
set_option maxHeartbeats 2000000 in
theorem fsum_any (l : List Int) (k p s sl st : Int) (h : Nat) (ao : Option Addr) (len cap : Nat) (b1 b2 b3 b4 b5 : Nat) (w : World) (hs : Sl w 1 ao len cap (cs i64v l)) (hl : goodC l) (hr : okR k p)
    (c1 : w.cell? ⟨b1, 0, none⟩ = some (.int .i64 h)) (c2 : w.cell? ⟨b2, 0, none⟩ = some (.int .i64 s)) (c3 : w.cell? ⟨b3, 0, none⟩ = some (.int .i64 sl)) (c4 : w.cell? ⟨b4, 0, none⟩ = some (.int .i64 k)) (c5 : w.cell? ⟨b5, 0, none⟩ = some (.int .i64 p))
    (y0 : 0 ≤ s) (y1 : s < st) (y2 : 0 ≤ sl) (y3 : sl < 168) (y4 : h ≤ 168) (y5 : st ≤ 32) (hlen : (len : Int) = st * 168) :
    Calls Try.prog 27 #[.slice ao len cap, .pointer (some ⟨b1, 0, none⟩), .pointer (some ⟨b2, 0, none⟩), .pointer (some ⟨b3, 0, none⟩), .pointer (some ⟨b4, 0, none⟩), .pointer (some ⟨b5, 0, none⟩)] w (fun e w' => e = .returned (.int .i64 (expS l k p s sl h)) ∧ ∃ m, w' = w.drewN m) := by
  have hbd := expS_bounds s sl hl hr
  have HB := Lib.hid hbd
  have HL := Lib.hid hl
  have HR := Lib.hid hr
  have HPL := Lib.hid (fun j => plc_lt (s := s) (sl := sl) (st := st) j y0 y1 y2)
  have HLEN := Lib.hid hlen
  clear hbd hl hr hlen
  go_enter Try.func27, Try.ntmps27
  go_wp2
  go_loopw [8, 13] (fun n i wr => ∃ (j : Nat) (S : Int), j ≤ h ∧ i = .int .i64 j ∧ n = .int .i64 S ∧ Hid (S = expS l k p s sl j) ∧ ∃ m, wr = w.drewN m) (fun _ i _ => h - (intOf i).toNat)
  case atStart => exact ⟨0, 0, by omega, rfl, rfl, rfl, 0, rfl⟩
  case round =>
    obtain ⟨j, S, hj, rfl, rfl, hS, hm⟩ := hrel
    have C1 : wr.cell? ⟨b1, 0, none⟩ = some (.int .i64 h) := by obtain ⟨m, rfl⟩ := hm; exact c1
    have C2 : wr.cell? ⟨b2, 0, none⟩ = some (.int .i64 s) := by obtain ⟨m, rfl⟩ := hm; exact c2
    have C3 : wr.cell? ⟨b3, 0, none⟩ = some (.int .i64 sl) := by obtain ⟨m, rfl⟩ := hm; exact c3
    have C4 : wr.cell? ⟨b4, 0, none⟩ = some (.int .i64 k) := by obtain ⟨m, rfl⟩ := hm; exact c4
    have C5 : wr.cell? ⟨b5, 0, none⟩ = some (.int .i64 p) := by obtain ⟨m, rfl⟩ := hm; exact c5
    have HM := Lib.hid hm
    by_cases hjl : j < h
    · obtain ⟨q1, q2⟩ := HPL.out j
      obtain ⟨b, off, e0, hcell⟩ := hs.at_ (plc s sl j) (by have := HLEN.out; omega) 0
      subst e0
      have hcell' : wr.cell? ⟨b, off + plc s sl j, none⟩ = some (.int .i64 (l.getD (plc s sl j) 0)) := by obtain ⟨m, rfl⟩ := hm; exact hcell
      have hx := HL.out (plc s sl j)
      have hnext : expS l k p s sl (j + 1) = expS l k p s sl j + rq (l.getD (plc s sl j) 0) k p := rfl
      have hrt := rate_ok (rateBad_of HR.out hx.1 hx.2)
      have hcall := fun w => rate_any (l.getD (plc s sl j) 0) k p w
      rw [hrt] at hcall
      have hrb := rq_bounds (rateBad_of HR.out hx.1 hx.2)
      have hSb := HB.out j
      rw [← hS.out] at hSb
      have HN := Lib.hid hnext
      clear hcell hnext hrt hm
      generalize l.getD (plc s sl j) 0 = x at *
      generalize rq x k p = X at *
      generalize plc s sl j = q at *
      have hcall' : ∀ w, Calls Try.prog 26 #[.int .i64 x, .int .i64 k, .int .i64 p] w (fun e w' => e = .returned (.tuple #[.int .i64 X, .int .i64 0]) ∧ w' = w) := hcall
      have HCALL := Lib.hid hcall'
      clear hcall hcall'
      have hrem : (sl + (j : Int)).tmod 168 = (sl + (j : Int)) % 168 := Int.tmod_eq_emod_of_nonneg (by omega)
      have hw1 : IntKind.i64.wrap (s * 168) = s * 168 := by rw [IntKind.wrap_i64]; omega
      have hw2 : IntKind.i64.wrap (sl + (j : Int)) = sl + (j : Int) := by rw [IntKind.wrap_i64]; omega
      have r0 : 0 ≤ (sl + (j : Int)) % 168 := by omega
      have r1 : (sl + (j : Int)) % 168 < 168 := by omega
      generalize (sl + (j : Int)) % 168 = r at *
      have hjl' : (j : Int) < (h : Int) := by omega
      have hj0 : (0 : Int) ≤ (j : Int) := by omega
      have hql : (q : Int) < (len : Int) := by have := HLEN.out; omega
      have hq0 : (0 : Int) ≤ (q : Int) := by omega
      have hq : IntKind.i64.wrap (s * 168 + r) = (q : Int) := by rw [IntKind.wrap_i64]; omega
      obtain ⟨hSb0, hSb1⟩ := hSb
      obtain ⟨hrb0, hrb1⟩ := hrb
      clear hx q1 q2
      have hSX : S + X ≤ 1000000000000 := by
        have : (j : Int) * 1001000000 ≤ 168 * 1001000000 := by omega
        omega
      clear hSb1
      go_wp2
      go_quiet ((go_at_call 26; exact Calls.quiet_of_same (HCALL.out _)))
      go_wp2
      go_roundw
      case rel => exact ⟨j + 1, S + X, by omega, by go_num, by go_num, by show _ = _; rw [HN.out, hS.out], by obtain ⟨m, hm⟩ := HM.out; subst hm; exact ⟨m + nq, World.drewN_drewN _ _ _⟩⟩
      case measure => simp [intOf]; omega
    · have hjh : j = h := by omega
      subst hjh
      have hSS := hS.out
      have HSS := Lib.hid hSS
      clear hSS hS
      go_wp2
      go_ret
      exact ⟨congrArg (fun b => Ending.returned (.int .i64 b)) HSS.out, hm⟩

def expc (st : Int) (xs ys : List Int) (k p s sl h : Int) : Int × Int × Int :=
  if okC st xs ys ≠ 0 then (0, 0, okC st xs ys) else if s < 0 ∨ st ≤ s then (0, 0, 7) else if ¬ okR k p ∨ sl < 0 ∨ 168 ≤ sl ∨ h < 0 ∨ 168 < h then (0, 0, 1) else (expS xs k p s sl h.toNat, expS ys k p s sl h.toNat, 0)
theorem okC_ok {st : Int} {xs ys : List Int} (h : okC st xs ys = 0) : 1 ≤ st ∧ st ≤ 32 ∧ (xs.length : Int) = st * 168 ∧ (ys.length : Int) = st * 168 ∧ goodC xs ∧ goodC ys := by
  unfold okC at h
  split at h
  · cases h
  · split at h
    · cases h
    · split at h
      · cases h
      · rename_i q1 q2 q3
        have q4 : xs.any badC = false ∧ ys.any badC = false := by
          cases e1 : xs.any badC <;> cases e2 : ys.any badC <;> simp [e1, e2] at q3 ⊢
        have g : ∀ l : List Int, l.any badC = false → goodC l := fun l hl j => by
          by_cases hj : j < l.length
          · rw [List.any_eq_false] at hl
            have := hl l[j] (List.getElem_mem hj)
            unfold badC at this
            simp at this
            simp [List.getD, hj]
            omega
          · rw [show l.getD j 0 = 0 by simp [List.getD, List.getElem?_eq_none (by omega : l.length ≤ j)]]
            omega
        exact ⟨by omega, by omega, by omega, by omega, g _ q4.1, g _ q4.2⟩
theorem exp_cells {w W W' : World} {v0 v1 v2 v3 v4 v5 v6 v7 : Value} {E F : TypeId} (hW : W = ((((((w.alloc (.cells #[v0, v1, v2] E)).alloc (.cells #[v3] F)).alloc (.cells #[v4] F)).alloc (.cells #[v5] F)).alloc (.cells #[v6] F)).alloc (.cells #[v7] F))) (hb : Below W.heap.size W W') :
    W'.cell? ⟨w.heap.size, 0, none⟩ = some v0 ∧ W'.cell? ⟨w.heap.size, 1, none⟩ = some v1 ∧ W'.cell? ⟨w.heap.size, 2, none⟩ = some v2 ∧ W'.cell? ⟨w.heap.size + 1, 0, none⟩ = some v3 ∧ W'.cell? ⟨w.heap.size + 1 + 1, 0, none⟩ = some v4 ∧ W'.cell? ⟨w.heap.size + 1 + 1 + 1, 0, none⟩ = some v5 ∧
      W'.cell? ⟨w.heap.size + 1 + 1 + 1 + 1, 0, none⟩ = some v6 ∧ W'.cell? ⟨w.heap.size + 1 + 1 + 1 + 1 + 1, 0, none⟩ = some v7 ∧ Below w.heap.size w W' := by
  subst hW
  have h0 : W'.heap[w.heap.size]? = some (.cells #[v0, v1, v2] E) := hp_below hb (hp_old (hp_old (hp_old (hp_old (hp_old (hp_new (by simp)))))))
  have h1 : W'.heap[w.heap.size + 1]? = some (.cells #[v3] F) := hp_below hb (hp_old (hp_old (hp_old (hp_old (hp_new (by simp))))))
  have h2 : W'.heap[w.heap.size + 1 + 1]? = some (.cells #[v4] F) := hp_below hb (hp_old (hp_old (hp_old (hp_new (by simp)))))
  have h3 : W'.heap[w.heap.size + 1 + 1 + 1]? = some (.cells #[v5] F) := hp_below hb (hp_old (hp_old (hp_new (by simp))))
  have h4 : W'.heap[w.heap.size + 1 + 1 + 1 + 1]? = some (.cells #[v6] F) := hp_below hb (hp_old (hp_new (by simp)))
  have h5 : W'.heap[w.heap.size + 1 + 1 + 1 + 1 + 1]? = some (.cells #[v7] F) := hp_below hb (hp_new (by simp))
  refine ⟨?_, ?_, ?_, ?_, ?_, ?_, ?_, ?_, below_step (below_step (below_step (below_step (below_step (below_step (below_alloc _ _) (below_alloc _ _)) (below_alloc _ _)) (below_alloc _ _)) (below_alloc _ _)) (below_alloc _ _)) hb⟩
  · rw [cell_of_row _ _ _ _ _ _ h0]; rfl
  · rw [cell_of_row _ _ _ _ _ _ h0]; rfl
  · rw [cell_of_row _ _ _ _ _ _ h0]; rfl
  · rw [cell_of_row _ _ _ _ _ _ h1]; rfl
  · rw [cell_of_row _ _ _ _ _ _ h2]; rfl
  · rw [cell_of_row _ _ _ _ _ _ h3]; rfl
  · rw [cell_of_row _ _ _ _ _ _ h4]; rfl
  · rw [cell_of_row _ _ _ _ _ _ h5]; rfl
theorem check_s {st : Int} {xs ys : List Int} {a1 a2 : Option Addr} {l1 c1 l2 c2 : Nat} {e : Int} {w W : World} (h : Hid (okC st xs ys = e)) (h1 : Hid (Sl w 1 a1 l1 c1 (cs i64v xs))) (h2 : Hid (Sl w 1 a2 l2 c2 (cs i64v ys))) (hb : Below w.heap.size w W) :
    Calls Try.prog 25 #[.agg #[.int .i64 st, .slice a1 l1 c1, .slice a2 l2 c2]] W (RetB (.int .i64 e) W) := by
  have := check_any st xs ys a1 l1 c1 a2 l2 c2 W (h1.out.ext hb) (h2.out.ext hb)
  rw [h.out] at this
  exact this
theorem below6 (w : World) (o1 o2 o3 o4 o5 o6 : Obj) : Below w.heap.size w ((((((w.alloc o1).alloc o2).alloc o3).alloc o4).alloc o5).alloc o6) :=
  below_step (below_step (below_step (below_step (below_step (below_alloc _ _) (below_alloc _ _)) (below_alloc _ _)) (below_alloc _ _)) (below_alloc _ _)) (below_alloc _ _)
theorem go3 {r : Int × Int × Int} {a b c : Int} {w w' : World} (h : Hid (r = (a, b, c))) (hb : Below w.heap.size w w') : RetT3 r w (.returned (.tuple #[.int .i64 a, .int .i64 b, .int .i64 c])) w' := retT3_of h.out hb

end Go.Proofs.Ytjfakdbgcinpcaa
