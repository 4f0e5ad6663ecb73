/-
  LINK: Ack.
-/
import Derived.Test.YtpmjgiabedjlgaaProg
import Derived.Test.YtpmjgiabedjlgaaBase7
import Derived.Test.YtpmjgiabedjlgaaBase11
import Derived.Test.YtpmjgiabedjlgaaBase14
import Derived.Test.YtpmjgiabedjlgaaLk2
import Derived.BigQuiet
import Derived.Laws.StructEq
import Derived.StillTailTactics
import Derived.RegionTactic
import Derived.BigRegion
import Derived.Deep.RegionHeld3
import Derived.Deep.RegionLaw
import Derived.Deep.DeepCutAuto
import Derived.Deep.QuietTactic
import Derived.WalkSpells
import Derived.WalkLawsBesides
namespace Go.Proofs.Ytpmjgiabedjlgaa
open Go.RowKit Go.Maps
set_option linter.unusedVariables false

theorem sizeB (w : World) : (sizeOf 22).run Try.prog w = .ok 1 w := by kernel_rfl
def AckRet (B g k m : Nat) (v : Value) (xs : List Bv) (W : World) (e : Ending) (W' : World) : Prop :=
  e = .returned (.int .i64 0) ∧ ∃ v', Hid (SendAt B W' g v' (k + m) (xs.drop m)) ∧ Hid (Fx (sF g v) W W') ∧ Hid (∀ j ∈ own v', W.heap.size ≤ j)
theorem ack_done {B g k m : Nat} {v v' : Value} {xs : List Bv} {W W3 : World} (h : Hid (SendAt B W g v k xs)) (ho : W3.ownsRow W.heap.size 22 1 v' (xs.length - m) (cs bsv (xs.drop m))) (hb : Below W.heap.size W W3) (n : Int) (hn : n = (k : Int) + (m : Int)) :
    ∃ u, Hid (SendAt B ((W3.setCell ⟨g, 1, none⟩ v').setCell ⟨g, 0, none⟩ (.int .i64 n)) g u (k + m) (xs.drop m)) ∧ Hid (Fx (sF g v) W ((W3.setCell ⟨g, 1, none⟩ v').setCell ⟨g, 0, none⟩ (.int .i64 n))) ∧ Hid (∀ j ∈ own u, W.heap.size ≤ j) := by
  have hB : B ≤ W.heap.size := Nat.le_trans h.out.hB (Nat.le_of_lt (h.out.lt g (by simp)).1)
  have f4 : Fx (sF g v) W ((W3.setCell ⟨g, 1, none⟩ v').setCell ⟨g, 0, none⟩ (.int .i64 n)) := ((Fx.ofBelow (L := sF g v) hb).setCell (by simp)).setCell (by simp)
  have e3 : W3.heap[g]? = some (.cells #[.int .i64 (k : Int), v] 106) := by rw [hb.block g (h.out.lt g (by simp)).1]; exact h.out.blk
  have hgv : ∀ j, v'.ownBlock = some j → j ∉ [g] := fun j hj hm => by
    obtain rfl : j = g := by simpa using hm
    have := (own_ltF ho hj).2.1
    have := (h.out.lt j (by simp)).1
    omega
  refine ⟨v', Lib.hid ⟨?_, ?_, ?_, h.out.hB⟩, Lib.hid f4, Lib.hid (fun j hj => (own_ltF ho (mem_own.1 hj)).2.1)⟩
  · have h1 := heap_setCell_same W3 g 1 _ _ v' e3
    have h2 := heap_setCell_same _ g 0 _ _ (.int .i64 n) h1
    subst hn
    simpa using h2
  · rw [List.length_drop]
    exact own_keepF (L := [g]) (ownsRow_mono ho hB) (((Fx.refl [g] W3).setCell (by simp)).setCell (by simp)) hgv
  · intro y hy
    exact (h.out.bds y (List.mem_of_mem_drop hy)).keep f4 h.out.nou8
set_option maxRecDepth 100000 in
set_option maxHeartbeats 4000000 in
theorem ack_more {B : Nat} {W : World} {g k m : Nat} {v : Value} {xs : List Bv} (h : Hid (SendAt B W g v k xs)) (n : Int) (hn : n = (k : Int) + (m : Int)) (hm : 0 < m) (hml : m ≤ xs.length) (hk : (k : Int) ≤ 1048576 ∧ (xs.length : Int) ≤ 16) :
    Calls Try.prog 37 #[.pointer (some ⟨g, 0, none⟩), .int .i64 n] W (AckRet B g k m v xs W) := by
  obtain ⟨c0, c1, f0, f1⟩ := h.out.cells
  obtain ⟨va, vc, e, hvs⟩ := h.out.form
  subst e
  have hgW : g < W.heap.size := (h.out.lt g (by simp)).1
  obtain ⟨S, hS⟩ : ∃ S : Int, (k : Int) + (xs.length : Int) = S := ⟨_, rfl⟩
  have HNX : Hid (∀ W', Hid (SendAt B W' g (.slice va xs.length vc) k xs) → Calls Try.prog 52 #[.pointer (some ⟨g, 0, none⟩)] W' (fun e W'' => e = .returned (.int .i64 S) ∧ ∃ n, W'' = W'.drewN n)) := fun W' h' => by
    have := next_any h' hk
    rw [hS] at this
    exact this
  have g1 : ¬ n < 0 := by omega
  have g2 : ¬ S < n := by omega
  have g3 : (k : Int) < n := by omega
  have hw : IntKind.i64.wrap (n - (k : Int)) = (m : Int) := by rw [IntKind.wrap_i64]; omega
  obtain ⟨ao', hrun, hsl⟩ := slice_from (P := Try.prog) 90 22 Try.underlying90 sizeB hvs m hml
  have HSL := Lib.hid hsl
  have HN := Lib.hid hn
  clear hS hsl hvs hn
  go_enter Try.func37, Try.ntmps37
  go_wp2_with fail
  refine (HNX.out _ h).mono ?_
  rintro e w1 ⟨rfl, n1, rfl⟩
  have HA := Lib.hid (h.out.below (below_drewN (Below.refl _ _) n1))
  have HB0 := Lib.hid (below_drewN (Below.refl W.heap.size W) n1)
  have HSW := Lib.hid (HSL.out.ext HB0.out)
  obtain ⟨c0', c1', f0', f1'⟩ := HA.out.cells
  go_upto_region 6 with (fail)
  clear c0 c1 f0 f1
  generalize W.drewN n1 = W2 at *
  have hgW2 : g < W2.heap.size := (HA.out.lt g (by simp)).1
  go_region_law (first
    | ((refine step_append_many0 bsv bsv_one _ rfl (.const (.slice none 0 0)) (.tmp 32) 90 rfl W2.heap.size 22 (.slice none 0 0) 24 Try.underlying90 infoB rfl (v := .slice none 0 0) (n := 0) (xs := []) (by rfl) (World.ownsRow_nil _ _ _ _) (ys := xs.drop m) (ao := ao') (m := xs.length - m) (c := vc - m) (by rfl) (by first | exact HSW.out | exact HSW.out.ext (below_drew (Below.refl _ _))) (by unfold maxLen; omega) (by omega) (by first | exact Nat.le_refl _ | (simp; done)) ?_); intro v9 w9 ho9 hb9x; have hb9 := (below_drew (Below.refl W2.heap.size W2)).trans hb9x; obtain ⟨a9, n9, e9, _⟩ := sl_of_own ho9; subst e9; have c9 := cell_keep hb9 c1'; have f9 := (hb9.frozen (p := ⟨g, 1, none⟩) hgW2).trans f1'; have c90 := cell_keep hb9 c0'; have f90 := (hb9.frozen (p := ⟨g, 0, none⟩) hgW2).trans f0'; have HO9 := Lib.hid (And.intro ho9 hb9); clear ho9 hb9 hb9x))
  all_goals
    have hd := ack_done (m := m) h (by have := HO9.out.1; rw [Nat.zero_add, List.nil_append] at this; exact ownsRow_mono this HB0.out.size) (HB0.out.trans (HO9.out.2.mono HB0.out.size)) n HN.out
    have HD := Lib.hid hd
    clear hd
    go_wp2
    go_ret
    exact ⟨rfl, HD.out⟩
set_option maxRecDepth 100000 in
set_option maxHeartbeats 1000000 in
theorem ack_same {B : Nat} {W : World} {g k : Nat} {v : Value} {xs : List Bv} (h : Hid (SendAt B W g v k xs)) (n : Int) (h0 : 0 ≤ n) (hn : n ≤ (k : Int)) (hk : (k : Int) ≤ 1048576 ∧ (xs.length : Int) ≤ 16) :
    Calls Try.prog 37 #[.pointer (some ⟨g, 0, none⟩), .int .i64 n] W (RetB (.int .i64 0) W) := by
  obtain ⟨c0, c1, f0, f1⟩ := h.out.cells
  obtain ⟨va, vc, e, _⟩ := h.out.form
  subst e
  obtain ⟨S, hS⟩ : ∃ S : Int, (k : Int) + (xs.length : Int) = S := ⟨_, rfl⟩
  have HNX : Hid (∀ W', Hid (SendAt B W' g (.slice va xs.length vc) k xs) → Calls Try.prog 52 #[.pointer (some ⟨g, 0, none⟩)] W' (fun e W'' => e = .returned (.int .i64 S) ∧ ∃ n, W'' = W'.drewN n)) := fun W' h' => by
    have := next_any h' hk
    rw [hS] at this
    exact this
  have g1 : ¬ n < 0 := by omega
  have g2 : ¬ S < n := by omega
  have g3 : ¬ (k : Int) < n := by omega
  clear hS hn h0
  go_enter Try.func37, Try.ntmps37
  go_wp2_with fail
  refine (HNX.out _ h).mono ?_
  rintro e w1 ⟨rfl, n1, rfl⟩
  go_wp2
  go_ret
  exact ⟨rfl, below_drewN (Below.refl _ _) _⟩
end Go.Proofs.Ytpmjgiabedjlgaa
