/-
  LOCKS, THE WALKS: a call of a lock.
-/
import Derived.Test.YtgfgkgidpinmoaaProg
import Derived.Test.YtgfgkgidpinmoaaBase3
import Derived.Test.YtgfgkgidpinmoaaBase5
import Derived.Test.YtgfgkgidpinmoaaBase6
import Derived.Test.YtgfgkgidpinmoaaBase7
import Derived.Test.YtgfgkgidpinmoaaBase14
import Derived.Test.YtgfgkgidpinmoaaTok1
import Derived.Test.YtgfgkgidpinmoaaLockP
import Derived.Test.YtgfgkgidpinmoaaLock1
import Derived.Test.YtgfgkgidpinmoaaLock2
import Derived.Test.YtgfgkgidpinmoaaLock3
import Derived.Test.YtgfgkgidpinmoaaLock4
import Derived.Test.YtgfgkgidpinmoaaLockQ
import Derived.Test.YtgfgkgidpinmoaaHeld
import Derived.BigQuiet
import Derived.Laws.StructEq
import Derived.StillTailTactics
import Derived.RegionTactic
import Derived.BigRegion
import Derived.Deep.RegionHeld3
import Derived.Deep.DeepCutAuto
import Derived.Deep.QuietTactic
import Derived.WalkSpells
import Derived.WalkLawsBesides
namespace Go.Proofs.Ytgfgkgidpinmoaa
open Go.RowKit
set_option linter.unusedVariables false

theorem lkRet_from {g : Nat} {v : Value} {w w1 : World} {r : LS × Int} {e : Ending} {W' : World} (hb : Below w.heap.size w w1) (h : LkRet g v w1 r e W') : LkRet g v w r e W' := by
  obtain ⟨he, v', h1, h2, h3, h4⟩ := h
  exact ⟨he, v', h1, Fr.trans (Fr.of_below hb) (Fresh.refl _ _) h2, Fresh.trans (Fresh.refl _ _) hb.size h3, fun hne => ⟨(h4 hne).1, below_step hb (h4 hne).2⟩⟩
theorem op_cells {W : World} {k : Nat} {x0 x1 x2 x3 x4 x5 x6 x7 x8 x9 x10 x11 : Value} (h : BlkAt W k #[x0, x1, x2, x3, x4, x5, x6, x7, x8, x9, x10, x11]) : W.cell? ⟨k, 0, none⟩ = some x0 ∧ W.cell? ⟨k, 1, none⟩ = some x1 ∧ W.cell? ⟨k, 2, none⟩ = some x2 ∧ W.cell? ⟨k, 3, none⟩ = some x3 ∧ W.cell? ⟨k, 4, none⟩ = some x4 ∧ W.cell? ⟨k, 5, none⟩ = some x5 ∧ W.cell? ⟨k, 6, none⟩ = some x6 ∧ W.cell? ⟨k, 7, none⟩ = some x7 ∧ W.cell? ⟨k, 8, none⟩ = some x8 ∧ W.cell? ⟨k, 9, none⟩ = some x9 ∧ W.cell? ⟨k, 10, none⟩ = some x10 ∧ W.cell? ⟨k, 11, none⟩ = some x11 := by
  obtain ⟨E, h⟩ := h
  refine ⟨?_, ?_, ?_, ?_, ?_, ?_, ?_, ?_, ?_, ?_, ?_, ?_⟩ <;> rw [cell_of_row _ _ _ _ _ _ h] <;> rfl
theorem four_cells {W : World} {k : Nat} {x y z u : Value} (h : BlkAt W k #[x, y, z, u]) : W.cell? ⟨k, 0, none⟩ = some x ∧ W.cell? ⟨k, 1, none⟩ = some y ∧ W.cell? ⟨k, 2, none⟩ = some z ∧ W.cell? ⟨k, 3, none⟩ = some u := by
  obtain ⟨E, h⟩ := h
  refine ⟨?_, ?_, ?_, ?_⟩ <;> rw [cell_of_row _ _ _ _ _ _ h] <;> rfl
theorem sl_op {w : World} {ao : Option Addr} {len cap : Nat} {l : List OpL} (h : Sl w 12 ao len cap (ocs l)) (hl : l.length = len) (k : Nat) (hk : k < len) :
    ∃ b o, ao = some ⟨b, o, none⟩ ∧ ∀ j v, (opA (l.getD k OpL.zero))[j]? = some v → w.cell? ⟨b, o + k * 12 + j, none⟩ = some v := by
  have hj : ∀ j v, (opA (l.getD k OpL.zero))[j]? = some v → j < 12 := fun j v e => (Array.getElem?_eq_some_iff.1 e).1
  obtain ⟨b, o, e, _, hc⟩ := h.addr (by have := h.hlen; omega)
  refine ⟨b, o, e, fun j v hv => ?_⟩
  have := hc (k * 12 + j) v (by rw [ocs_get l k j (by omega) (hj j v hv)]; exact hv)
  rw [Nat.add_assoc]
  exact this
theorem kind_lt (c : UInt8) : c.toNat < 256 := c.toNat_lt
theorem kind_eq {c : UInt8} {k : UInt8} (h : (c.toNat : Int) = (k.toNat : Int)) : c = k := UInt8.toNat.inj (Int.ofNat.inj h)

set_option maxRecDepth 100000 in
set_option maxHeartbeats 600000 in
theorem do_any {g : Nat} {v : Value} {s : LS} (o : OpL) (w : World) (h : Hid (LockAt w g v s)) (hn : s.reps.length ≤ 512) :
    Calls Try.prog 48 #[.pointer (some ⟨g, 0, none⟩), .agg (opA o)] w (LkRet g v w (s.turn o)) := by
  obtain ⟨T, hT⟩ : ∃ T, s.turn o = T := ⟨_, rfl⟩
  rw [hT]
  unfold LS.turn at hT
  obtain ⟨c, b, r, d, f, t, n, tag, lo, hi, place, loc⟩ := o
  dsimp only at hT
  simp only [opA]
  have HB := Lib.hid (below_alloc w (.cells #[b8 c, .int .i64 b, .int .i64 r, .int .i64 d, .int .i64 f, .int .i64 t, .int .i64 n, u64 tag, .int .i64 lo, .int .i64 hi, .int .i64 place, .int .i64 loc] 74))
  have HL : Hid (LockAt (w.alloc (.cells #[b8 c, .int .i64 b, .int .i64 r, .int .i64 d, .int .i64 f, .int .i64 t, .int .i64 n, u64 tag, .int .i64 lo, .int .i64 hi, .int .i64 place, .int .i64 loc] 74)) g v s) := h.out.below HB.out
  by_cases q0 : c = 0
  · have q0' : (c.toNat : Int) = 0 := by subst q0; rfl
    rw [if_pos q0] at hT
    clear q0
    have hcall := fun w hw => unlock_any (g := g) (v := v) (s := s) b r d f t n tag lo hi loc w hw hn
    rw [hT] at hcall
    have HC := Lib.hid hcall
    clear hT hcall
    go_enter Try.func48, Try.ntmps48
    go_wp2_with fail
    refine (HC.out _ HL).mono ?_
    rintro e w1 ⟨rfl, hr⟩
    have HR := Lib.hid hr
    clear hr
    go_wp2
    go_ret
    exact lkRet_from HB.out ⟨rfl, HR.out⟩
  · have q0' : ¬ (c.toNat : Int) = 0 := fun e => q0 (kind_eq e)
    rw [if_neg q0] at hT
    by_cases q1 : c = 1
    · have q1' : (c.toNat : Int) = 1 := by subst q1; rfl
      rw [if_pos q1] at hT
      clear q1
      have hcall := fun w hw => pause_any (g := g) (v := v) (s := s) loc w hw hn
      rw [hT] at hcall
      have HC := Lib.hid hcall
      clear hT hcall
      go_enter Try.func48, Try.ntmps48
      go_wp2_with fail
      refine (HC.out _ HL).mono ?_
      rintro e w1 ⟨rfl, hr⟩
      have HR := Lib.hid hr
      clear hr
      go_wp2
      go_ret
      exact lkRet_from HB.out ⟨rfl, HR.out⟩
    · have q1' : ¬ (c.toNat : Int) = 1 := fun e => q1 (kind_eq e)
      rw [if_neg q1] at hT
      by_cases q2 : c = 2
      · have q2' : (c.toNat : Int) = 2 := by subst q2; rfl
        rw [if_pos q2] at hT
        clear q2
        have hcall := fun w hw => resume_any (g := g) (v := v) (s := s) loc w hw hn
        rw [hT] at hcall
        have HC := Lib.hid hcall
        clear hT hcall
        go_enter Try.func48, Try.ntmps48
        go_wp2_with fail
        refine (HC.out _ HL).mono ?_
        rintro e w1 ⟨rfl, hr⟩
        have HR := Lib.hid hr
        clear hr
        go_wp2
        go_ret
        exact lkRet_from HB.out ⟨rfl, HR.out⟩
      · have q2' : ¬ (c.toNat : Int) = 2 := fun e => q2 (kind_eq e)
        rw [if_neg q2] at hT
        have hcall := fun w hw => close_any (g := g) (v := v) (s := s) place loc w hw hn
        rw [hT] at hcall
        have HC := Lib.hid hcall
        clear hT hcall
        go_enter Try.func48, Try.ntmps48
        go_wp2_with fail
        refine (HC.out _ HL).mono ?_
        rintro e w1 ⟨rfl, hr⟩
        have HR := Lib.hid hr
        clear hr
        go_wp2
        go_ret
        exact lkRet_from HB.out ⟨rfl, HR.out⟩
end Go.Proofs.Ytgfgkgidpinmoaa
