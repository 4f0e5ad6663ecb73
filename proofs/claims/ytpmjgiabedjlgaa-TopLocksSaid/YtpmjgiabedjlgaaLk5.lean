/-
  LINK: known, Out.
-/
import Derived.Test.YtpmjgiabedjlgaaProg
import Derived.Test.YtpmjgiabedjlgaaBase7
import Derived.Test.YtpmjgiabedjlgaaBase11
import Derived.Test.YtpmjgiabedjlgaaBase14
import Derived.Test.YtpmjgiabedjlgaaLk2
import Derived.BigQuiet
import Derived.Laws.StructEq
import Derived.StillTailTactics
import Derived.RegionTactic
import Derived.BigRegion
import Derived.Deep.RegionHeld3
import Derived.Deep.RegionLaw
import Derived.Deep.DeepCutAuto
import Derived.Deep.QuietTactic
import Derived.WalkSpells
import Derived.WalkLawsBesides
namespace Go.Proofs.Ytpmjgiabedjlgaa
open Go.RowKit Go.Maps
set_option linter.unusedVariables false

theorem stop_here5 {p : Prop} (h : Hid p) : p := h.out
set_option maxRecDepth 100000 in
theorem known_out {B : Nat} {W : World} {r b n : Nat} {v : Value} {D : DataW Value} {xs : List Bv} {f : Kf} (h : Hid (RecAt B W r v b n D xs f)) (s : Nat) (hs : s < xs.length) : Calls Try.prog 54 #[.pointer (some ⟨r, 0, none⟩), .int .i64 (s : Int)] W (fun e W' => e = .returned (.tuple #[.slice (xs.getD s nilB).a (xs.getD s nilB).bs.length (xs.getD s nilB).c, .bool true]) ∧ W' = W) := by
  obtain ⟨c0, c1, _, _⟩ := h.out.cells
  obtain ⟨va, vc, e, hvs⟩ := h.out.form
  subst e
  obtain ⟨ab, ao, e, hc⟩ := hvs.at_ s hs nilB
  subst e
  have hs' : (s : Int) < (xs.length : Int) := by omega
  have hs0 : (0 : Int) ≤ (s : Int) := by omega
  unfold bsv at hc
  clear hvs h
  generalize xs.getD s nilB = x at *
  obtain ⟨xa, xc, bs⟩ := x
  dsimp only at hc ⊢
  go_enter Try.func54, Try.ntmps54
  go_wp2
  go_ret2
  exact ⟨rfl, rfl⟩
set_option maxRecDepth 100000 in
theorem known_map {B : Nat} {W : World} {r b n : Nat} {v : Value} {D : DataW Value} {xs : List Bv} {f : Kf} (h : Hid (RecAt B W r v b n D xs f)) (s : Nat) (hs : ¬ s < xs.length) (hs9 : s < 1000000000) : Calls Try.prog 54 #[.pointer (some ⟨r, 0, none⟩), .int .i64 (s : Int)] W (fun e W' => e = .returned (.tuple #[.slice ((f s).getD nilB).a ((f s).getD nilB).bs.length ((f s).getD nilB).c, .bool (f s).isSome]) ∧ W' = W) := by
  obtain ⟨c0, c1, _, _⟩ := h.out.cells
  obtain ⟨va, vc, e, hvs⟩ := h.out.form
  subst e
  have hlk := kmap_look h.out.km h.out.ka s hs9
  have hs' : ¬ (s : Int) < (xs.length : Int) := by omega
  unfold bsv at hlk
  clear hvs h
  generalize (f s).getD nilB = x at *
  obtain ⟨xa, xc, bs⟩ := x
  generalize (f s).isSome = has at *
  dsimp only at hlk ⊢
  go_enter Try.func54, Try.ntmps54
  go_wp2
  go_ret2
  exact ⟨rfl, rfl⟩
/-- A list of bodies in memory of its own. -/
structure OutAt (B : Nat) (W : World) (u : Value) (ys : List Bv) : Prop where
  row : W.ownsRow B 22 1 u ys.length (cs bsv ys)
  bds : ∀ y ∈ ys, BdOk W B y
theorem OutAt.nou8 {B : Nat} {W : World} {u : Value} {ys : List Bv} (h : OutAt B W u ys) : NoU8 W (own u) := fun j hj C fz e => by
  obtain ⟨_, _, C', fz', e'⟩ := own_ltF h.row (mem_own.1 hj)
  rw [e'] at e; exact absurd (Obj.cells.inj (Option.some.inj e)).2.1 (by decide)
theorem OutAt.keep {L : List Nat} {B : Nat} {W W' : World} {u : Value} {ys : List Bv} (h : OutAt B W u ys) (hf : Fx L W W') (hn : NoU8 W L) (hd : ∀ j ∈ own u, j ∉ L) : OutAt B W' u ys := ⟨own_keepF h.row hf (fun j hj => hd j (mem_own.2 hj)), fun y hy => (h.bds y hy).keep hf hn⟩
theorem OutAt.below {B : Nat} {W W' : World} {u : Value} {ys : List Bv} (h : OutAt B W u ys) (hb : Below W.heap.size W W') : OutAt B W' u ys := h.keep (L := []) (Fx.ofBelow hb) (fun j hj => by simp at hj) (fun j _ => by simp)
theorem OutAt.form {B : Nat} {W : World} {u : Value} {ys : List Bv} (h : OutAt B W u ys) : ∃ a c, u = .slice a ys.length c ∧ Sl W 1 a ys.length c (cs bsv ys) := by
  obtain ⟨ao, cap, e, hs⟩ := sl_of_own h.row
  exact ⟨ao, cap, e, hs⟩
def RetOut (xs : List Bv) (W : World) (e : Ending) (W' : World) : Prop := ∃ a c ys, e = .returned (.slice a xs.length c) ∧ ys.map Bv.bs = xs.map Bv.bs ∧ Hid (OutAt W.heap.size W' (.slice a xs.length c) ys) ∧ Below W.heap.size W W'
/-- A body more. -/
theorem out_more {B : Nat} {u u' : Value} {ys : List Bv} {x : Bv} {W W1 W2 W3 : World} (h : Hid (OutAt B W u ys)) (hB : B ≤ W.heap.size) (hb1 : Below W.heap.size W W1) (hbd : BdOk W1 W.heap.size x) (hb2 : Below W1.heap.size W1 W2)
    (ho : W3.ownsRow B 22 1 u' (ys.length + 1) (cs bsv ys ++ cs bsv [x])) (hg : W2.grownBy W3 (if 0 < 1 then u.ownBlock else none)) : Hid (OutAt B W3 u' (ys ++ [x])) ∧ Below B W W3 := by
  rw [if_pos (by decide)] at hg
  have hb12 := below_step hb1 hb2
  have s1 := h.out.below hb1
  have f3 : Fx (own u) W W3 := (Fx.ofBelow (L := own u) hb12).trans (Fx.ofGrown (L := own u) hg (fun k e => mem_own.2 e)) (fun k hk => .inl hk)
  have f13 : Fx (own u) W1 W3 := (Fx.ofBelow (L := own u) hb2).trans (Fx.ofGrown (L := own u) hg (fun k e => mem_own.2 e)) (fun k hk => .inl hk)
  refine ⟨Lib.hid ⟨?_, fun y hy => ?_⟩, f3.below (fun j hj => (own_ltF h.out.row (mem_own.1 hj)).2.1) hB⟩
  · rw [cs_append, List.length_append]
    exact ho
  · rcases List.mem_append.1 hy with hy | hy
    · exact (h.out.bds y hy).keep f3 h.out.nou8
    · simp at hy; subst hy
      exact (hbd.lower hB).keep f13 s1.nou8
theorem cs_oneB (x : Bv) : ∀ u ∈ cs bsv [x], u.oneCell' = true := by
  intro u hu
  simp [cs] at hu
  subst hu
  rfl
set_option maxRecDepth 100000 in
set_option maxHeartbeats 4000000 in
theorem out_any {B : Nat} {W : World} {r b n : Nat} {v : Value} {D : DataW Value} {xs : List Bv} {f : Kf} (h : Hid (RecAt B W r v b n D xs f)) (h16 : xs.length ≤ 1000) (hbl : ∀ x ∈ xs, x.bs.length ≤ 256) :
    Calls Try.prog 39 #[.pointer (some ⟨r, 0, none⟩)] W (RetOut xs W) := by
  obtain ⟨c0, c1, _, _⟩ := h.out.cells
  obtain ⟨va, vc, e, hvs⟩ := h.out.form
  subst e
  have HVS := Lib.hid hvs
  have HBL := Lib.hid hbl
  clear hvs hbl
  go_enter Try.func39, Try.ntmps39
  go_upto_region 5 with (fail)
  go_loopw [3, 5, 13] (fun u _b j wr => ∃ (i : Nat) (a : Option Addr) (c : Nat) (ys : List Bv), i ≤ xs.length ∧ j = .int .i64 (i : Int) ∧ u = .slice a i c ∧ Hid (ys.length = i ∧ ys.map Bv.bs = (xs.take i).map Bv.bs) ∧ Hid (OutAt W.heap.size wr (.slice a i c) ys) ∧ Hid (Below W.heap.size W wr)) (fun _ _ j _ => xs.length - (intOf j).toNat)
  case atStart => exact ⟨0, none, 0, [], by omega, rfl, rfl, ⟨rfl, rfl⟩, ⟨World.ownsRow_nil _ _ _ _, fun y hy => by simp at hy⟩, Below.refl _ _⟩
  case round =>
    obtain ⟨i, a, c, ys, hi, rfl, rfl, HY, HR, HB⟩ := hrel
    have hi0 : (0 : Int) ≤ (i : Int) := by omega
    by_cases hil : i < xs.length
    · have hil' : (i : Int) < (xs.length : Int) := by omega
      obtain ⟨ab, off, e, hc⟩ := HVS.out.at_ i hil nilB
      subst e
      unfold bsv at hc
      have hc' := cell_keep HB.out hc
      have hbd := (h.out.bds (xs.getD i nilB) (by rw [List.getD_eq_getElem?_getD, List.getElem?_eq_getElem hil]; exact List.getElem_mem _)).keep (L := []) (Fx.ofBelow HB.out) (fun j hj => by simp at hj)
      have hln := HBL.out (xs.getD i nilB) (by rw [List.getD_eq_getElem?_getD, List.getElem?_eq_getElem hil]; exact List.getElem_mem _)
      have htk : (xs.take (i + 1)).map Bv.bs = (xs.take i).map Bv.bs ++ [(xs.getD i nilB).bs] := by
        rw [List.take_add_one, List.getElem?_eq_getElem hil, List.map_append, List.getD_eq_getElem?_getD, List.getElem?_eq_getElem hil]
        rfl
      obtain ⟨⟨xa, xc, bs⟩, hx⟩ : ∃ x, xs.getD i nilB = x := ⟨_, rfl⟩
      rw [hx] at hc' hbd hln htk
      dsimp only at hc' hln htk
      have HTK := Lib.hid htk
      have HSB := Lib.hid hbd.sl
      clear hc hbd hx htk
      go_wp2_with fail
      refine (clone_any _ xa bs.length xc bs HSB.out (by omega)).mono ?_
      rintro e w5 ⟨ya, yc, rfl, hbd5, hb5⟩
      have HB5 := Lib.hid hb5
      clear hb5 hc'
      go_wp2_with (at_builtin; refine stop_here5 ?_)
      have HR5 := Lib.hid (HR.out.below (below_step HB5.out (below_alloc w5 (.cells #[.slice ya bs.length yc] 22))))
      have HS5 : Hid (Sl (w5.alloc (.cells #[.slice ya bs.length yc] 22)) 1 (some ⟨w5.heap.size, 0, none⟩) 1 1 (cs bsv [⟨ya, yc, bs⟩])) := Lib.hid (sl_oneB (blkNew rfl))
      refine Lib.hid ?_
      at_builtin
      refine wpList_append_src _ rfl _ _ 90 90 rfl W.heap.size 22 (.slice none 0 0) 1 24 Try.underlying90 infoB rfl (by decide) (n := i) (xs := cs bsv ys) (by have := HR5.out.row; rw [HY.out.1] at this; exact this) rfl (src_sl _ Try.underlying90 HS5.out (cs_oneB _)) rfl (by unfold maxLen; omega) (by omega) (by have := HB.out.size; have := HB5.out.size; first | omega | (simp; omega)) ?_
      intro v9 w9 ho9 hg9 _
      obtain ⟨a9, n9, e9, _⟩ := sl_of_own ho9
      subst e9
      have hm := out_more (x := ⟨ya, yc, bs⟩) HR HB.out.size HB5.out hbd5.out (below_alloc _ _) (by rw [HY.out.1]; exact ho9) hg9
      have HM := Lib.hid hm
      clear hm ho9 hg9 HR5 HS5
      go_wp2
      go_roundw
      case rel => exact ⟨i + 1, a9, n9, ys ++ [⟨ya, yc, bs⟩], by omega, by go_num, rfl, Lib.hid ⟨by simp [HY.out.1], by rw [List.map_append, HY.out.2, HTK.out]; rfl⟩, HM.out.1, Lib.hid (HB.out.trans HM.out.2)⟩
      case measure => simp [intOf]; omega
    · have hil' : ¬ (i : Int) < (xs.length : Int) := by omega
      obtain rfl : i = xs.length := by omega
      go_wp2
      go_ret
      refine ⟨a, c, ys, rfl, by have := HY.out.2; rw [List.take_length] at this; exact this, HR, HB.out⟩
end Go.Proofs.Ytpmjgiabedjlgaa
