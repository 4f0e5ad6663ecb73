/-
  TOKENS, THE WALKS: Parse.
-/
import Derived.Test.YtomilmaeiokaaaaProg
import Derived.Test.YtomilmaeiokaaaaBase15
import Derived.Test.YtomilmaeiokaaaaMacP
import Derived.Test.YtomilmaeiokaaaaTokP
import Derived.Test.YtomilmaeiokaaaaTkP
import Derived.Test.YtomilmaeiokaaaaTok1
import Derived.Test.YtomilmaeiokaaaaTok2
import Derived.Test.YtomilmaeiokaaaaWire1
import Derived.Test.YtomilmaeiokaaaaWire2
import Derived.Test.YtomilmaeiokaaaaWire5
import Derived.Test.YtomilmaeiokaaaaWire6
import Derived.Test.YtomilmaeiokaaaaTkE
import Derived.Test.YtomilmaeiokaaaaTkT
import Derived.Test.YtomilmaeiokaaaaTkV
import Derived.Test.YtomilmaeiokaaaaTkD
import Derived.Test.YtomilmaeiokaaaaTkR
import Derived.Test.YtomilmaeiokaaaaHeld
import Derived.BigQuiet
import Derived.Defers
import Derived.Recover
import Derived.Laws.StructEq
import Derived.StillTailTactics
import Derived.RegionTactic
import Derived.BigRegion
import Derived.Deep.DeepCutAuto
import Derived.Deep.QuietTactic
import Derived.WalkSpells
import Derived.WalkLawsBesides
namespace Go.Proofs.Ytomilmaeiokaaaa
open Go.RowKit
set_option linter.unusedVariables false

/-- The deferred closure, in a frame that panics. -/
theorem catch_pan {P Q : Nat} {x0 x1 x2 x3 x4 x5 x6 y : Value} (pv : Value) (u : TypeId) (w : World) (hP : BlkAt w P #[x0, x1, x2, x3, x4, x5, x6]) (hQ : BlkAt w Q #[y]) (hne : P ≠ Q) :
    CallsD Try.prog 49 #[.pointer (some ⟨P, 0, none⟩), .pointer (some ⟨Q, 0, none⟩)] (.panicking [{ v := .iface u pv, recovered := false }]) w fun e u' w' =>
      e = .returned (.tuple #[]) ∧ u' = .panicking [{ v := .iface u pv, recovered := true }] ∧ w' = (((((((w.setCell ⟨P, 0, none⟩ (.int .i64 0)).setCell ⟨P, 1, none⟩ (.int .i64 0)).setCell ⟨P, 2, none⟩ (.int .i64 0)).setCell ⟨P, 3, none⟩ (.int .i64 0)).setCell ⟨P, 4, none⟩ (.int .i64 0)).setCell ⟨P, 5, none⟩ (.int .i64 0)).setCell ⟨P, 6, none⟩ (.int .u64 0)).setCell ⟨Q, 0, none⟩ (.int .i64 3) := by
  obtain ⟨c0, c1, c2, c3, c4, c5, c6⟩ := tok_cells (w := w) (E := 0) hP
  have f0 := blkX_frozen (i := 0) hP
  have f1 := blkX_frozen (i := 1) hP
  have f2 := blkX_frozen (i := 2) hP
  have f3 := blkX_frozen (i := 3) hP
  have f4 := blkX_frozen (i := 4) hP
  have f5 := blkX_frozen (i := 5) hP
  have f6 := blkX_frozen (i := 6) hP
  have d0 : w.cell? ⟨Q, 0, none⟩ = some y := hQ.elim fun E h => by rw [cell_of_row _ _ _ _ _ _ h]; rfl
  have g0 := blkX_frozen (i := 0) hQ
  have hne' : ¬ Q = P := fun e => hne e.symm
  clear hP hQ
  refine callsD_of_wpS Try.func49 rfl fun c₀ cs hu => ?_
  apply wpS_seq
  apply wpS_region
  simp [wpOpsS, go_sem, recoverD, hu, Try.ntmps49, Exit.thenS]
  refine wpS_cond (t := true) (by simp [Act.eval, Array.replicate]) ?_
  simp only [if_true]
  apply wpS_region
  simp [wpOpsS, go_sem, c0, c1, c2, c3, c4, c5, c6, d0, f0, f1, f2, f3, f4, f5, f6, g0, bodyPostS, results, Try.results49]
/-- .. in a frame that returns. -/
theorem catch_ret {p q : Addr} (w : World) :
    CallsD Try.prog 49 #[.pointer (some p), .pointer (some q)] .returning w fun e u' w' => e = .returned (.tuple #[]) ∧ u' = .returning ∧ w' = w := by
  refine callsD_of_wpS Try.func49 rfl fun c₀ cs hu => ?_
  apply wpS_seq
  apply wpS_region
  simp [wpOpsS, go_sem, recoverD, hu, Try.ntmps49, Exit.thenS]
  refine wpS_cond (t := false) (by simp [Act.eval, Array.replicate]) ?_
  simp only [Bool.false_eq_true, if_false]
  refine wpS_of_wp (wp_skip ?_)
  cases c₀
  simp_all [bodyPostS, results, Try.results49]
/-- .. told by blocks. -/
theorem catch_pan2 {P Q : Nat} {x0 x1 x2 x3 x4 x5 x6 y : Value} (pv : Value) (u : TypeId) (w0 w : World) (hP : BlkAt w P #[x0, x1, x2, x3, x4, x5, x6]) (hQ : BlkAt w Q #[y]) (hne : P ≠ Q) (hb : Below w0.heap.size w0 w) (h1 : w0.heap.size ≤ P) (h2 : w0.heap.size ≤ Q) :
    CallsD Try.prog 49 #[.pointer (some ⟨P, 0, none⟩), .pointer (some ⟨Q, 0, none⟩)] (.panicking [{ v := .iface u pv, recovered := false }]) w fun e u' w' =>
      e = .returned (.tuple #[]) ∧ u' = .panicking [{ v := .iface u pv, recovered := true }] ∧ BlkAt w' P #[.int .i64 0, .int .i64 0, .int .i64 0, .int .i64 0, .int .i64 0, .int .i64 0, .int .u64 0] ∧ BlkAt w' Q #[.int .i64 3] ∧ Below w0.heap.size w0 w' := by
  refine (catch_pan pv u w hP hQ hne).mono ?_
  rintro e u' w' ⟨he, hu, rfl⟩
  refine ⟨he, hu, ?_, ?_, ?_⟩
  · refine blkX_other ?_ (by exact hne)
    have h := blkX_set (i := 6) (v := .int .u64 0) (blkX_set (i := 5) (v := .int .i64 0) (blkX_set (i := 4) (v := .int .i64 0) (blkX_set (i := 3) (v := .int .i64 0) (blkX_set (i := 2) (v := .int .i64 0) (blkX_set (i := 1) (v := .int .i64 0) (blkX_set (i := 0) (v := .int .i64 0) hP))))))
    simpa using h
  · have h := blkX_set (i := 0) (v := .int .i64 3) (blkX_other (a := ⟨P, 6, none⟩) (v := .int .u64 0) (blkX_other (a := ⟨P, 5, none⟩) (v := .int .i64 0) (blkX_other (a := ⟨P, 4, none⟩) (v := .int .i64 0) (blkX_other (a := ⟨P, 3, none⟩) (v := .int .i64 0) (blkX_other (a := ⟨P, 2, none⟩) (v := .int .i64 0) (blkX_other (a := ⟨P, 1, none⟩) (v := .int .i64 0) (blkX_other (a := ⟨P, 0, none⟩) (v := .int .i64 0) hQ (by exact fun e => hne e.symm)) (by exact fun e => hne e.symm)) (by exact fun e => hne e.symm)) (by exact fun e => hne e.symm)) (by exact fun e => hne e.symm)) (by exact fun e => hne e.symm)) (by exact fun e => hne e.symm))
    simpa using h
    done
  · exact (((((((hb.setCell (by exact h1) _).setCell (by exact h1) _).setCell (by exact h1) _).setCell (by exact h1) _).setCell (by exact h1) _).setCell (by exact h1) _).setCell (by exact h1) _).setCell (by exact h2) _
theorem decB_len (cl : List UInt8) (h : cl.length ≤ 200) : (decB cl).length ≤ 200 := by
  have key : ∀ k, k ≤ cl.length → (decS (cl.take k)).1.length ≤ k ∧ True := by
    intro k
    induction k with
    | zero => intro _; exact ⟨by simp [decS], trivial⟩
    | succ k ih =>
      intro hk
      have h1 := (ih (by omega)).1
      rw [decS_take cl k (by omega)]
      refine ⟨?_, trivial⟩
      unfold decStep
      split
      · simp; omega
      · dsimp only; omega
  have := (key cl.length (Nat.le_refl _)).1
  rw [List.take_length] at this
  unfold decB
  omega
structure ParW (w W : World) : Prop where
  p : BlkAt W w.heap.size #[.int .i64 0, .int .i64 0, .int .i64 0, .int .i64 0, .int .i64 0, .int .i64 0, .int .u64 0]
  q : BlkAt W (w.heap.size + 1) #[.int .i64 0]
  lo : Below w.heap.size w W
theorem par_mk0 (w : World) (E F : TypeId) : ParW w ((w.alloc (.cells #[.int .i64 0, .int .i64 0, .int .i64 0, .int .i64 0, .int .i64 0, .int .i64 0, .int .u64 0] E)).alloc (.cells #[.int .i64 0] F)) := ⟨blkOld (blkNew rfl), blkNew (by simp), below_step (below_alloc _ _) (below_alloc _ _)⟩
theorem par_step {w W W' : World} (h : ParW w W) (hb : Below W.heap.size W W') : ParW w W' := ⟨blkBelow hb h.p, blkBelow hb h.q, below_step h.lo hb⟩
set_option maxRecDepth 100000 in
set_option maxHeartbeats 1000000 in
theorem parse_long (s : ByteArray) (w : World) (h : (200 : Int) < (s.size : Int)) : Calls Try.prog 31 #[.string s] w (RetB (.tuple #[.agg #[.int .i64 0, .int .i64 0, .int .i64 0, .int .i64 0, .int .i64 0, .int .i64 0, .int .u64 0], .int .i64 3]) w) := by
  have hmf : ∀ (fn : Fn) (first cap : Array Value) (w : World), (Instr.makeFunc fn first cap).run Try.prog w = .ok (.func fn first cap) w := fun _ _ _ _ => rfl
  have HQ := Lib.hid (par_mk0 w 36 37)
  go_enter_defers Try.func31, Try.ntmps31
  go_wp2
  refine leaves_cons (f := 49) (args := #[.pointer (some ⟨w.heap.size, 0, none⟩), .pointer (some ⟨w.heap.size + 1, 0, none⟩)]) (by simp) (by simp [go_sem]) ?_
  refine (catch_pan2 (P := w.heap.size) (Q := w.heap.size + 1) _ _ w _ HQ.out.p HQ.out.q (by omega) HQ.out.lo (Nat.le_refl _) (by omega)).mono ?_
  rintro e u' w'' ⟨rfl, rfl, hz, hy, hb⟩
  obtain ⟨z0, z1, z2, z3, z4, z5, z6⟩ := tok_cells (w := w) (E := 0) hz
  have y0 : w''.cell? ⟨w.heap.size + 1, 0, none⟩ = some (.int .i64 3) := hy.elim fun E h => by rw [cell_of_row _ _ _ _ _ _ h]; rfl
  clear hz hy
  simp [Leaves, settle, results, Try.results31, go_sem, z0, z1, z2, z3, z4, z5, z6, y0]
  exact ⟨rfl, hb⟩
set_option maxRecDepth 100000 in
set_option maxHeartbeats 1000000 in
theorem parse_dec (s : ByteArray) (w : World) (hs : s.data.toList.length ≤ 200) (m : Nat) (hm : m < s.data.toList.length) (hall : ∀ j, j < m → idxA (s.data.toList.getD j 0) < 32) (hbad : ¬ idxA (s.data.toList.getD m 0) < 32) : Calls Try.prog 31 #[.string s] w (RetB (.tuple #[.agg #[.int .i64 0, .int .i64 0, .int .i64 0, .int .i64 0, .int .i64 0, .int .i64 0, .int .u64 0], .int .i64 3]) w) := by
  have hmf : ∀ (fn : Fn) (first cap : Array Value) (w : World), (Instr.makeFunc fn first cap).run Try.prog w = .ok (.func fn first cap) w := fun _ _ _ _ => rfl
  have HQ := Lib.hid (par_mk0 w 36 37)
  have hss : s.size = s.data.toList.length := (Array.length_toList (xs := s.data)).symm
  have hlt : ¬ (200 : Int) < (s.size : Int) := by omega
  have HD := Lib.hid (fun w => decoded_bad s w hs m hm hall hbad)
  clear hs hm hall hbad hss
  go_enter_defers Try.func31, Try.ntmps31
  go_wp2_with fail
  refine (HD.out _).mono ?_
  rintro e w1 ⟨rfl, hb1⟩
  have HQ1 := Lib.hid (par_step HQ.out hb1)
  clear hb1
  go_wp2
  refine leaves_cons (f := 49) (args := #[.pointer (some ⟨w.heap.size, 0, none⟩), .pointer (some ⟨w.heap.size + 1, 0, none⟩)]) (by simp) (by simp [go_sem]) ?_
  refine (catch_pan2 (P := w.heap.size) (Q := w.heap.size + 1) _ _ w _ HQ1.out.p HQ1.out.q (by omega) HQ1.out.lo (Nat.le_refl _) (by omega)).mono ?_
  rintro e u' w'' ⟨rfl, rfl, hz, hy, hb⟩
  obtain ⟨z0, z1, z2, z3, z4, z5, z6⟩ := tok_cells (w := w) (E := 0) hz
  have y0 : w''.cell? ⟨w.heap.size + 1, 0, none⟩ = some (.int .i64 3) := hy.elim fun E h => by rw [cell_of_row _ _ _ _ _ _ h]; rfl
  clear hz hy
  simp [Leaves, settle, results, Try.results31, go_sem, z0, z1, z2, z3, z4, z5, z6, y0]
  exact ⟨rfl, hb⟩
set_option maxRecDepth 100000 in
set_option maxHeartbeats 1000000 in
theorem parse_read (s : ByteArray) (w : World) (hs : s.data.toList.length ≤ 200) (hall : ∀ j, j < s.data.toList.length → idxA (s.data.toList.getD j 0) < 32) (hbad : ∀ l at_, rdS (decB s.data.toList) 6 = some (l, at_) → ¬ ((decB s.data.toList).length : Int) - at_ = 8) : Calls Try.prog 31 #[.string s] w (RetB (.tuple #[.agg #[.int .i64 0, .int .i64 0, .int .i64 0, .int .i64 0, .int .i64 0, .int .i64 0, .int .u64 0], .int .i64 3]) w) := by
  have hmf : ∀ (fn : Fn) (first cap : Array Value) (w : World), (Instr.makeFunc fn first cap).run Try.prog w = .ok (.func fn first cap) w := fun _ _ _ _ => rfl
  have HQ := Lib.hid (par_mk0 w 36 37)
  have hss : s.size = s.data.toList.length := (Array.length_toList (xs := s.data)).symm
  have hlt : ¬ (200 : Int) < (s.size : Int) := by omega
  have HD := Lib.hid (fun w => decoded_ok s w hs hall)
  have hdl := decB_len s.data.toList hs
  have HRD := Lib.hid (fun a c W hS => read_bad (decB s.data.toList) a (decB s.data.toList).length c W hS (by omega) hbad)
  clear hs hall hbad hss hdl
  go_enter_defers Try.func31, Try.ntmps31
  go_wp2_with fail
  refine (HD.out _).mono ?_
  rintro e w1 ⟨a1, c1, rfl, HS1, hb1⟩
  have HQ1 := Lib.hid (par_step HQ.out hb1)
  clear hb1
  go_wp2_with fail
  refine (HRD.out _ _ _ HS1.out).mono ?_
  rintro e w2 ⟨rfl, hb2⟩
  have HQ2 := Lib.hid (par_step HQ1.out hb2)
  clear hb2
  go_wp2
  refine leaves_cons (f := 49) (args := #[.pointer (some ⟨w.heap.size, 0, none⟩), .pointer (some ⟨w.heap.size + 1, 0, none⟩)]) (by simp) (by simp [go_sem]) ?_
  refine (catch_pan2 (P := w.heap.size) (Q := w.heap.size + 1) _ _ w _ HQ2.out.p HQ2.out.q (by omega) HQ2.out.lo (Nat.le_refl _) (by omega)).mono ?_
  rintro e u' w'' ⟨rfl, rfl, hz, hy, hb⟩
  obtain ⟨z0, z1, z2, z3, z4, z5, z6⟩ := tok_cells (w := w) (E := 0) hz
  have y0 : w''.cell? ⟨w.heap.size + 1, 0, none⟩ = some (.int .i64 3) := hy.elim fun E h => by rw [cell_of_row _ _ _ _ _ _ h]; rfl
  clear hz hy
  simp [Leaves, settle, results, Try.results31, go_sem, z0, z1, z2, z3, z4, z5, z6, y0]
  exact ⟨rfl, hb⟩
set_option maxRecDepth 100000 in
set_option maxHeartbeats 1000000 in
theorem parse_num (s : ByteArray) (w : World) (hs : s.data.toList.length ≤ 200) (hall : ∀ j, j < s.data.toList.length → idxA (s.data.toList.getD j 0) < 32) (l1 l2 l3 l4 l5 l6 : Int) (at_ : Nat) (hrd : rdS (decB s.data.toList) 6 = some ([l1, l2, l3, l4, l5, l6], (at_ : Int))) (h8 : (decB s.data.toList).length = at_ + 8) (hbad : Tok.bad ⟨l1, l2, l3, l4, l5, l6⟩) : Calls Try.prog 31 #[.string s] w (RetB (.tuple #[.agg #[.int .i64 0, .int .i64 0, .int .i64 0, .int .i64 0, .int .i64 0, .int .i64 0, .int .u64 0], .int .i64 3]) w) := by
  have hmf : ∀ (fn : Fn) (first cap : Array Value) (w : World), (Instr.makeFunc fn first cap).run Try.prog w = .ok (.func fn first cap) w := fun _ _ _ _ => rfl
  have HQ := Lib.hid (par_mk0 w 36 37)
  have hss : s.size = s.data.toList.length := (Array.length_toList (xs := s.data)).symm
  have hlt : ¬ (200 : Int) < (s.size : Int) := by omega
  have HD := Lib.hid (fun w => decoded_ok s w hs hall)
  have hdl := decB_len s.data.toList hs
  have HRD := Lib.hid (fun a c W hS => read_ok (decB s.data.toList) l1 l2 l3 l4 l5 l6 at_ a (decB s.data.toList).length c W hS (by omega) hrd h8)
  have HTX := Lib.hid (fun W => text_bad l1 l2 l3 l4 l5 l6 (tagR ((decB s.data.toList).drop at_)) W (chk_bad hbad))
  clear hs hall hbad hss hdl hrd h8
  generalize tagR ((decB s.data.toList).drop at_) = G at *
  go_enter_defers Try.func31, Try.ntmps31
  go_wp2_with fail
  refine (HD.out _).mono ?_
  rintro e w1 ⟨a1, c1, rfl, HS1, hb1⟩
  have HQ1 := Lib.hid (par_step HQ.out hb1)
  clear hb1
  go_wp2_with fail
  refine (HRD.out _ _ _ HS1.out).mono ?_
  rintro e w2 ⟨rfl, hb2⟩
  have HQ2 := Lib.hid (par_step HQ1.out hb2)
  clear hb2
  go_upto_region 5 with (fail)
  have HQ3 := Lib.hid (par_step HQ2.out (below_alloc _ (.cells #[.int .i64 l1, .int .i64 l2, .int .i64 l3, .int .i64 l4, .int .i64 l5, .int .i64 l6, u64 G] 36)))
  have HT3 : Hid (BlkAt (w2.alloc (.cells #[.int .i64 l1, .int .i64 l2, .int .i64 l3, .int .i64 l4, .int .i64 l5, .int .i64 l6, u64 G] 36)) w2.heap.size #[.int .i64 l1, .int .i64 l2, .int .i64 l3, .int .i64 l4, .int .i64 l5, .int .i64 l6, u64 G]) := blkNew rfl
  generalize w2.alloc (.cells #[.int .i64 l1, .int .i64 l2, .int .i64 l3, .int .i64 l4, .int .i64 l5, .int .i64 l6, u64 G] 36) = W3 at *
  generalize w2.heap.size = xb at *
  obtain ⟨c0, c1', c2, c3, c4, c5, c6⟩ := tok_cells (w := w) (E := 0) HT3.out
  go_wp2_with fail
  refine (HTX.out _).mono ?_
  rintro e w4 ⟨rfl, hb4⟩
  have HQ4 := Lib.hid (par_step HQ3.out hb4)
  clear hb4 c0 c1' c2 c3 c4 c5 c6
  go_wp2
  refine leaves_cons (f := 49) (args := #[.pointer (some ⟨w.heap.size, 0, none⟩), .pointer (some ⟨w.heap.size + 1, 0, none⟩)]) (by simp) (by simp [go_sem]) ?_
  refine (catch_pan2 (P := w.heap.size) (Q := w.heap.size + 1) _ _ w _ HQ4.out.p HQ4.out.q (by omega) HQ4.out.lo (Nat.le_refl _) (by omega)).mono ?_
  rintro e u' w'' ⟨rfl, rfl, hz, hy, hb⟩
  obtain ⟨z0, z1, z2, z3, z4, z5, z6⟩ := tok_cells (w := w) (E := 0) hz
  have y0 : w''.cell? ⟨w.heap.size + 1, 0, none⟩ = some (.int .i64 3) := hy.elim fun E h => by rw [cell_of_row _ _ _ _ _ _ h]; rfl
  clear hz hy
  simp [Leaves, settle, results, Try.results31, go_sem, z0, z1, z2, z3, z4, z5, z6, y0]
  exact ⟨rfl, hb⟩
set_option maxRecDepth 100000 in
set_option maxHeartbeats 1000000 in
theorem parse_ne (s : ByteArray) (w : World) (hs : s.data.toList.length ≤ 200) (hall : ∀ j, j < s.data.toList.length → idxA (s.data.toList.getD j 0) < 32) (l1 l2 l3 l4 l5 l6 : Int) (at_ : Nat) (hrd : rdS (decB s.data.toList) 6 = some ([l1, l2, l3, l4, l5, l6], (at_ : Int))) (h8 : (decB s.data.toList).length = at_ + 8) (hok : ¬ Tok.bad ⟨l1, l2, l3, l4, l5, l6⟩) (hne : ¬ (txtB (encB l1 l2 l3 l4 l5 l6 (tagR ((decB s.data.toList).drop at_)))) = s.data.toList) : Calls Try.prog 31 #[.string s] w (RetB (.tuple #[.agg #[.int .i64 0, .int .i64 0, .int .i64 0, .int .i64 0, .int .i64 0, .int .i64 0, .int .u64 0], .int .i64 3]) w) := by
  have hmf : ∀ (fn : Fn) (first cap : Array Value) (w : World), (Instr.makeFunc fn first cap).run Try.prog w = .ok (.func fn first cap) w := fun _ _ _ _ => rfl
  have HQ := Lib.hid (par_mk0 w 36 37)
  have hss : s.size = s.data.toList.length := (Array.length_toList (xs := s.data)).symm
  have hlt : ¬ (200 : Int) < (s.size : Int) := by omega
  have HD := Lib.hid (fun w => decoded_ok s w hs hall)
  have hdl := decB_len s.data.toList hs
  have HRD := Lib.hid (fun a c W hS => read_ok (decB s.data.toList) l1 l2 l3 l4 l5 l6 at_ a (decB s.data.toList).length c W hS (by omega) hrd h8)
  have htx := fun W => text_ok l1 l2 l3 l4 l5 l6 (tagR ((decB s.data.toList).drop at_)) W hok
  obtain ⟨T, hT⟩ : ∃ T, (txtB (encB l1 l2 l3 l4 l5 l6 (tagR ((decB s.data.toList).drop at_)))) = T := ⟨_, rfl⟩
  rw [hT] at htx hne
  rw [← ByteArray.toList_eq] at hne
  have hcmp : (T == s.toList) = false := by simpa using hne
  have HTX := Lib.hid htx
  clear hs hall hok hss hdl hrd h8 htx hT hne
  generalize tagR ((decB s.data.toList).drop at_) = G at *
  go_enter_defers Try.func31, Try.ntmps31
  go_wp2_with fail
  refine (HD.out _).mono ?_
  rintro e w1 ⟨a1, c1, rfl, HS1, hb1⟩
  have HQ1 := Lib.hid (par_step HQ.out hb1)
  clear hb1
  go_wp2_with fail
  refine (HRD.out _ _ _ HS1.out).mono ?_
  rintro e w2 ⟨rfl, hb2⟩
  have HQ2 := Lib.hid (par_step HQ1.out hb2)
  clear hb2
  go_upto_region 5 with (fail)
  have HQ3 := Lib.hid (par_step HQ2.out (below_alloc _ (.cells #[.int .i64 l1, .int .i64 l2, .int .i64 l3, .int .i64 l4, .int .i64 l5, .int .i64 l6, u64 G] 36)))
  have HT3 : Hid (BlkAt (w2.alloc (.cells #[.int .i64 l1, .int .i64 l2, .int .i64 l3, .int .i64 l4, .int .i64 l5, .int .i64 l6, u64 G] 36)) w2.heap.size #[.int .i64 l1, .int .i64 l2, .int .i64 l3, .int .i64 l4, .int .i64 l5, .int .i64 l6, u64 G]) := blkNew rfl
  generalize w2.alloc (.cells #[.int .i64 l1, .int .i64 l2, .int .i64 l3, .int .i64 l4, .int .i64 l5, .int .i64 l6, u64 G] 36) = W3 at *
  generalize w2.heap.size = xb at *
  obtain ⟨c0, c1', c2, c3, c4, c5, c6⟩ := tok_cells (w := w) (E := 0) HT3.out
  go_wp2_with fail
  refine (HTX.out _).mono ?_
  rintro e w4 ⟨rfl, hb4⟩
  have HQ4 := Lib.hid (par_step HQ3.out hb4)
  clear hb4 c0 c1' c2 c3 c4 c5 c6
  go_wp2
  refine leaves_cons (f := 49) (args := #[.pointer (some ⟨w.heap.size, 0, none⟩), .pointer (some ⟨w.heap.size + 1, 0, none⟩)]) (by simp) (by simp [go_sem]) ?_
  refine (catch_pan2 (P := w.heap.size) (Q := w.heap.size + 1) _ _ w _ HQ4.out.p HQ4.out.q (by omega) HQ4.out.lo (Nat.le_refl _) (by omega)).mono ?_
  rintro e u' w'' ⟨rfl, rfl, hz, hy, hb⟩
  obtain ⟨z0, z1, z2, z3, z4, z5, z6⟩ := tok_cells (w := w) (E := 0) hz
  have y0 : w''.cell? ⟨w.heap.size + 1, 0, none⟩ = some (.int .i64 3) := hy.elim fun E h => by rw [cell_of_row _ _ _ _ _ _ h]; rfl
  clear hz hy
  simp [Leaves, settle, results, Try.results31, go_sem, z0, z1, z2, z3, z4, z5, z6, y0]
  exact ⟨rfl, hb⟩
set_option maxRecDepth 100000 in
set_option maxHeartbeats 1000000 in
theorem parse_ok (s : ByteArray) (w : World) (hs : s.data.toList.length ≤ 200) (hall : ∀ j, j < s.data.toList.length → idxA (s.data.toList.getD j 0) < 32) (l1 l2 l3 l4 l5 l6 : Int) (at_ : Nat) (hrd : rdS (decB s.data.toList) 6 = some ([l1, l2, l3, l4, l5, l6], (at_ : Int))) (h8 : (decB s.data.toList).length = at_ + 8) (hok : ¬ Tok.bad ⟨l1, l2, l3, l4, l5, l6⟩) (heq : (txtB (encB l1 l2 l3 l4 l5 l6 (tagR ((decB s.data.toList).drop at_)))) = s.data.toList) : Calls Try.prog 31 #[.string s] w (RetB (.tuple #[.agg #[.int .i64 l1, .int .i64 l2, .int .i64 l3, .int .i64 l4, .int .i64 l5, .int .i64 l6, u64 (tagR ((decB s.data.toList).drop at_))], .int .i64 0]) w) := by
  have hmf : ∀ (fn : Fn) (first cap : Array Value) (w : World), (Instr.makeFunc fn first cap).run Try.prog w = .ok (.func fn first cap) w := fun _ _ _ _ => rfl
  have HQ := Lib.hid (par_mk0 w 36 37)
  have hss : s.size = s.data.toList.length := (Array.length_toList (xs := s.data)).symm
  have hlt : ¬ (200 : Int) < (s.size : Int) := by omega
  have HD := Lib.hid (fun w => decoded_ok s w hs hall)
  have hdl := decB_len s.data.toList hs
  have HRD := Lib.hid (fun a c W hS => read_ok (decB s.data.toList) l1 l2 l3 l4 l5 l6 at_ a (decB s.data.toList).length c W hS (by omega) hrd h8)
  have htx := fun W => text_ok l1 l2 l3 l4 l5 l6 (tagR ((decB s.data.toList).drop at_)) W hok
  have hsb : (⟨s.data.toList.toArray⟩ : ByteArray) = s := by cases s; simp
  rw [heq, hsb] at htx
  have HTX := Lib.hid htx
  clear hs hall hok hss hdl hrd h8 htx heq hsb
  generalize tagR ((decB s.data.toList).drop at_) = G at *
  go_enter_defers Try.func31, Try.ntmps31
  go_wp2_with fail
  refine (HD.out _).mono ?_
  rintro e w1 ⟨a1, c1, rfl, HS1, hb1⟩
  have HQ1 := Lib.hid (par_step HQ.out hb1)
  clear hb1
  go_wp2_with fail
  refine (HRD.out _ _ _ HS1.out).mono ?_
  rintro e w2 ⟨rfl, hb2⟩
  have HQ2 := Lib.hid (par_step HQ1.out hb2)
  clear hb2
  go_upto_region 5 with (fail)
  have HQ3 := Lib.hid (par_step HQ2.out (below_alloc _ (.cells #[.int .i64 l1, .int .i64 l2, .int .i64 l3, .int .i64 l4, .int .i64 l5, .int .i64 l6, u64 G] 36)))
  have HT3 : Hid (BlkAt (w2.alloc (.cells #[.int .i64 l1, .int .i64 l2, .int .i64 l3, .int .i64 l4, .int .i64 l5, .int .i64 l6, u64 G] 36)) w2.heap.size #[.int .i64 l1, .int .i64 l2, .int .i64 l3, .int .i64 l4, .int .i64 l5, .int .i64 l6, u64 G]) := blkNew rfl
  generalize w2.alloc (.cells #[.int .i64 l1, .int .i64 l2, .int .i64 l3, .int .i64 l4, .int .i64 l5, .int .i64 l6, u64 G] 36) = W3 at *
  generalize w2.heap.size = xb at *
  obtain ⟨c0, c1', c2, c3, c4, c5, c6⟩ := tok_cells (w := w) (E := 0) HT3.out
  go_wp2_with fail
  refine (HTX.out _).mono ?_
  rintro e w4 ⟨rfl, hb4⟩
  have HQ4 := Lib.hid (par_step HQ3.out hb4)
  have HT4 := Lib.hid (blkBelow hb4 HT3.out)
  clear hb4 c0 c1' c2 c3 c4 c5 c6
  obtain ⟨c0, c1', c2, c3, c4, c5, c6⟩ := tok_cells (w := w) (E := 0) HT4.out
  obtain ⟨z0, z1, z2, z3, z4, z5, z6⟩ := tok_cells (w := w) (E := 0) HQ4.out.p
  have e0 := blkX_frozen (i := 0) HQ4.out.p
  have e1 := blkX_frozen (i := 1) HQ4.out.p
  have e2 := blkX_frozen (i := 2) HQ4.out.p
  have e3 := blkX_frozen (i := 3) HQ4.out.p
  have e4 := blkX_frozen (i := 4) HQ4.out.p
  have e5 := blkX_frozen (i := 5) HQ4.out.p
  have e6 := blkX_frozen (i := 6) HQ4.out.p
  have y0 : w4.cell? ⟨w.heap.size + 1, 0, none⟩ = some (.int .i64 0) := HQ4.out.q.elim fun E h => by rw [cell_of_row _ _ _ _ _ _ h]; rfl
  have f0 := blkX_frozen (i := 0) HQ4.out.q
  go_wp2
  refine leaves_cons (f := 49) (args := #[.pointer (some ⟨w.heap.size, 0, none⟩), .pointer (some ⟨w.heap.size + 1, 0, none⟩)]) (by simp) (by simp [go_sem]) ?_
  refine (catch_ret _).mono ?_
  rintro e u' w'' ⟨rfl, rfl, rfl⟩
  simp [Leaves, settle, results, Try.results31, go_sem, z0, z1, z2, z3, z4, z5, z6, y0]
  exact ⟨rfl, (belowR0 HQ4.out.lo).setCell (by simp) _⟩
end Go.Proofs.Ytomilmaeiokaaaa
