/-
  LINK: Frames.
-/
import Derived.Test.YtpmjgiabedjlgaaProg
import Derived.Test.YtpmjgiabedjlgaaBase7
import Derived.Test.YtpmjgiabedjlgaaBase11
import Derived.Test.YtpmjgiabedjlgaaBase14
import Derived.Test.YtpmjgiabedjlgaaFlat
import Derived.Test.YtpmjgiabedjlgaaLk2
import Derived.BigQuiet
import Derived.Laws.StructEq
import Derived.StillTailTactics
import Derived.RegionTactic
import Derived.BigRegion
import Derived.Deep.RegionHeld3
import Derived.Deep.RegionLaw
import Derived.Deep.DeepCutAuto
import Derived.Deep.QuietTactic
import Derived.WalkSpells
import Derived.WalkLawsBesides
namespace Go.Proofs.Ytpmjgiabedjlgaa
open Go.RowKit Go.Maps
set_option linter.unusedVariables false

/-- A frame as it lies. -/
structure FrL where
  s : Int
  b : Bv
def frA (o : FrL) : Array Value := #[.int .i64 o.s, bsv o.b]
def FrL.zero : FrL := ⟨0, nilB⟩
def frL : Nat → List Bv → List FrL
  | _, [] => []
  | k, x :: xs => ⟨(k : Int), x⟩ :: frL (k + 1) xs
theorem frL_len : ∀ (k : Nat) (xs : List Bv), (frL k xs).length = xs.length
  | _, [] => rfl
  | k, x :: xs => by simp [frL, frL_len (k + 1) xs]
theorem frL_snoc : ∀ (k : Nat) (xs : List Bv) (x : Bv), frL k (xs ++ [x]) = frL k xs ++ [⟨((k + xs.length : Nat) : Int), x⟩]
  | k, [], x => by simp [frL]
  | k, y :: xs, x => by
    have := frL_snoc (k + 1) xs x
    simp only [List.cons_append, frL, this, List.length_cons]
    rw [show k + 1 + xs.length = k + (xs.length + 1) from by omega]
theorem frL_get : ∀ (k : Nat) (xs : List Bv) (i : Nat), i < xs.length → (frL k xs).getD i FrL.zero = ⟨((k + i : Nat) : Int), xs.getD i nilB⟩
  | k, [], i, h => absurd h (by simp)
  | k, x :: xs, 0, _ => by simp [frL]
  | k, x :: xs, i + 1, h => by
    have := frL_get (k + 1) xs i (by simpa using h)
    simp only [frL, List.getD_cons_succ, this]
    rw [show k + 1 + i = k + (i + 1) from by omega]
theorem infoF : (Try.prog.info? 88).map (fun i => (i.zero, i.size, i.bytes)) = some (some (.agg #[.int .i64 0, .slice none 0 0]), 2, 32) := by kernel_rfl
theorem frA_one (x : FrL) : ∀ u ∈ (frA x).toList, u.oneCell' = true := by
  intro u hu
  simp [frA] at hu
  rcases hu with rfl | rfl <;> rfl
/-- A list of frames in memory of its own, the bodies too. -/
structure FrsAt (B : Nat) (W : World) (u : Value) (k : Nat) (ys : List Bv) : Prop where
  row : W.ownsRow B 88 2 u ys.length (flatV frA (frL k ys))
  bds : ∀ y ∈ ys, BdOk W B y
theorem FrsAt.keep {L : List Nat} {B : Nat} {W W' : World} {u : Value} {k : Nat} {ys : List Bv} (h : FrsAt B W u k ys) (hf : Fx L W W') (hn : NoU8 W L) (hd : ∀ j ∈ own u, j ∉ L) : FrsAt B W' u k ys := ⟨own_keepF h.row hf (fun j hj => hd j (mem_own.2 hj)), fun y hy => (h.bds y hy).keep hf hn⟩
theorem FrsAt.below {B : Nat} {W W' : World} {u : Value} {k : Nat} {ys : List Bv} (h : FrsAt B W u k ys) (hb : Below W.heap.size W W') : FrsAt B W' u k ys := h.keep (L := []) (Fx.ofBelow hb) (fun j hj => by simp at hj) (fun j _ => by simp)
/-- What Frames hands back. -/
def RetFrs (k : Nat) (xs : List Bv) (W : World) (e : Ending) (W' : World) : Prop := ∃ a c ys, e = .returned (.slice a xs.length c) ∧ ys.map Bv.bs = xs.map Bv.bs ∧ Hid (FrsAt W.heap.size W' (.slice a xs.length c) k ys) ∧ Below W.heap.size W W'
theorem frsRowN {B n : Nat} {W : World} {u : Value} {k : Nat} {ys : List Bv} (hn : ys.length = n) (h : Hid (FrsAt B W u k ys)) : W.ownsRow B 88 2 u n (flatV frA (frL k ys)) := by subst hn; exact h.out.row
theorem frsDrew {B : Nat} {W : World} {u : Value} {k : Nat} {ys : List Bv} (h : Hid (FrsAt B W u k ys)) : Hid (FrsAt B W.drew u k ys) := Lib.hid (h.out.below (below_drew (Below.refl _ _)))
theorem frsAlloc {B : Nat} {W : World} {o : Obj} {u : Value} {k : Nat} {ys : List Bv} (h : Hid (FrsAt B W u k ys)) : Hid (FrsAt B (W.alloc o) u k ys) := Lib.hid (h.out.below (below_alloc _ _))
theorem frsBelow {B : Nat} {W W' : World} {u : Value} {k : Nat} {ys : List Bv} (hb : Below W.heap.size W W') (h : Hid (FrsAt B W u k ys)) : Hid (FrsAt B W' u k ys) := Lib.hid (h.out.below hb)
/-- A frame more. -/
theorem frs_more {B k : Nat} {u u' : Value} {ys : List Bv} {x : Bv} {W W1 W2 W3 : World} (h : Hid (FrsAt B W u k ys)) (hB : B ≤ W.heap.size) (hb1 : Below W.heap.size W W1) (hbd : BdOk W1 W.heap.size x) (hb2 : Below W1.heap.size W1 W2)
    (ho : W3.ownsRow B 88 2 u' (ys.length + 1) (flatV frA (frL k ys) ++ (#[.int .i64 ((k + ys.length : Nat) : Int), bsv x] : Array Value).toList)) (hg : W2.grownBy W3 u.ownBlock) (hf : Fresh W2 u u') : Hid (FrsAt B W3 u' k (ys ++ [x])) ∧ Below B W W3 := by
  have hb12 := below_step hb1 hb2
  have s1 := h.out.below hb1
  have f3 : Fx (own u) W W3 := (Fx.ofBelow (L := own u) hb12).trans (Fx.ofGrown (L := own u) hg (fun k e => mem_own.2 e)) (fun k hk => .inl hk)
  have f13 : Fx (own u) W1 W3 := (Fx.ofBelow (L := own u) hb2).trans (Fx.ofGrown (L := own u) hg (fun k e => mem_own.2 e)) (fun k hk => .inl hk)
  have hno : ∀ W', FrsAt B W' u k ys → NoU8 W' (own u) := fun W' h' j hj C fz e => by
    obtain ⟨_, _, C', fz', e'⟩ := own_ltF h'.row (mem_own.1 hj)
    rw [e'] at e; exact absurd (Obj.cells.inj (Option.some.inj e)).2.1 (by decide)
  refine ⟨Lib.hid ⟨?_, fun y hy => ?_⟩, f3.below (fun j hj => (own_ltF h.out.row (mem_own.1 hj)).2.1) hB⟩
  · rw [frL_snoc, flatV_append, List.length_append]
    exact ho
  · rcases List.mem_append.1 hy with hy | hy
    · exact (h.out.bds y hy).keep f3 (hno W h.out)
    · simp at hy; subst hy
      exact (hbd.lower hB).keep f13 (hno W1 s1)
theorem sl_at_b {W : World} {a : Option Addr} {len cap : Nat} {xs : List Bv} (h : Sl W 1 a len cap (cs bsv xs)) (i : Nat) (hi : i < len) : ∃ b off, a = some ⟨b, off, none⟩ ∧ W.cell? ⟨b, off + i, none⟩ = some (.slice (xs.getD i nilB).a (xs.getD i nilB).bs.length (xs.getD i nilB).c) := h.at_ i hi nilB
set_option maxRecDepth 100000 in
set_option maxHeartbeats 4000000 in
theorem frames_any {B : Nat} {W : World} {g k : Nat} {v : Value} {xs : List Bv} (h : Hid (SendAt B W g v k xs)) (hk : (k : Int) ≤ 1048576) (h16 : xs.length ≤ 16) (hbl : ∀ x ∈ xs, x.bs.length ≤ 256) :
    Calls Try.prog 35 #[.pointer (some ⟨g, 0, none⟩)] W (RetFrs k xs W) := by
  obtain ⟨c0, c1, _, f1⟩ := h.out.cells
  obtain ⟨va, vc, e, hvs⟩ := h.out.form
  subst e
  have hgW : g < W.heap.size := (h.out.lt g (by simp)).1
  have HVS := Lib.hid hvs
  have HBL := Lib.hid hbl
  clear hvs hbl
  go_enter Try.func35, Try.ntmps35
  go_upto_region 5 with (fail)
  go_loopw [3, 4, 5, 13] (fun u _i _b j wr => ∃ (i : Nat) (a : Option Addr) (c : Nat) (ys : List Bv), i ≤ xs.length ∧ j = .int .i64 (i : Int) ∧ u = .slice a i c ∧ Hid (ys.length = i ∧ ys.map Bv.bs = (xs.take i).map Bv.bs) ∧ Hid (FrsAt W.heap.size wr (.slice a i c) k ys) ∧ Hid (Below W.heap.size W wr)) (fun _ _ _ j _ => xs.length - (intOf j).toNat)
  case atStart => exact ⟨0, none, 0, [], by omega, rfl, rfl, ⟨rfl, rfl⟩, ⟨World.ownsRow_nil _ _ _ _, fun y hy => by simp at hy⟩, Below.refl _ _⟩
  case round =>
    obtain ⟨i, a, c, ys, hi, rfl, rfl, HY, HR, HB⟩ := hrel
    have hi0 : (0 : Int) ≤ (i : Int) := by omega
    by_cases hil : i < xs.length
    · have hil' : (i : Int) < (xs.length : Int) := by omega
      obtain ⟨b, off, e, hc⟩ := sl_at_b HVS.out i hil
      subst e
      have hc' := cell_keep HB.out hc
      have hbd := (h.out.bds (xs.getD i nilB) (by rw [List.getD_eq_getElem?_getD, List.getElem?_eq_getElem hil]; exact List.getElem_mem _)).keep (L := []) (Fx.ofBelow HB.out) (fun j hj => by simp at hj)
      have hln := HBL.out (xs.getD i nilB) (by rw [List.getD_eq_getElem?_getD, List.getElem?_eq_getElem hil]; exact List.getElem_mem _)
      have htk : (xs.take (i + 1)).map Bv.bs = (xs.take i).map Bv.bs ++ [(xs.getD i nilB).bs] := by
        rw [List.take_add_one, List.getElem?_eq_getElem hil, List.map_append, List.getD_eq_getElem?_getD, List.getElem?_eq_getElem hil]
        rfl
      obtain ⟨⟨xa, xc, bs⟩, hx⟩ : ∃ x, xs.getD i nilB = x := ⟨_, rfl⟩
      rw [hx] at hc' hbd hln htk
      dsimp only at hc' hln htk
      have HTK := Lib.hid htk
      have HSB := Lib.hid hbd.sl
      have d0 := cell_keep HB.out c0
      clear hc hbd hx htk
      go_upto_region 7 with (fail)
      clear hc' hi0
      have hgw : g < wr.heap.size := Nat.lt_of_lt_of_le hgW HB.out.size
      have HCL : Hid (∀ W', Below wr.heap.size wr W' → Calls Try.prog 53 #[.slice xa bs.length xc] W' (RetBd bs W')) := fun W' hb => clone_any W' xa bs.length xc bs (HSB.out.ext hb) (by omega)
      have hSw : IntKind.i64.wrap ((k : Int) + (i : Int)) = (k : Int) + (i : Int) := by rw [IntKind.wrap_i64]; omega
      have hWs : W.heap.size ≤ wr.heap.size := HB.out.size
      go_region_law (first
        | ((rw [if_pos (by simp [Region.wanted])]); go_simp; go_at_call 53; (with_reducible refine (HCL.out _ ?_).mono ?_); (focus (first | exact below_drew (Below.refl _ _) | exact Below.refl _ _)); rintro e w5 ⟨ya, yc, rfl, hbd5, hb5⟩; have d5 := cell_keep hb5 d0; have hg5 := Nat.lt_of_lt_of_le hgw hb5.size; have hW5 := Nat.le_trans hWs hb5.size)
        | ((refine step_append_row _ rfl (.tmp 18) (.tmp 28) 84 rfl W.heap.size 88 (.agg #[.int .i64 0, .slice none 0 0]) 2 32 Try.underlying84 infoF rfl (by decide) (v := .slice a i c) (n := i) (xs := flatV frA (frL k ys)) (by rfl) (frsRowN (k := k) (ys := ys) HY.out.1 (by (repeat (first | (with_reducible assumption) | (with_reducible refine frsDrew ?_) | (with_reducible refine frsAlloc ?_) | ((with_reducible apply frsBelow); focus (with_reducible assumption)))))) (k := w5.heap.size) (C := #[.int .i64 ((k : Int) + (i : Int)), .slice ya bs.length yc]) (by rfl) (by (repeat (first | ((with_reducible refine blkNew ?_); focus (simp; done)) | (with_reducible refine blkDrew ?_) | (with_reducible refine blkOld ?_)))) rfl (frA_one ⟨(k : Int) + (i : Int), ⟨ya, yc, bs⟩⟩) (by unfold maxLen; omega) (by omega) (by first | (simp; done) | (simp; omega)) ?_); intro v9 w9 ho9 hg9 hf9; obtain ⟨a9, n9, e9, _⟩ := sl_of_own ho9; subst e9; have HO9 := Lib.hid (And.intro ho9 (And.intro hg9 hf9)); clear ho9 hg9 hf9))
      all_goals
        have hbx := below_step (below_drew (Below.refl wr.heap.size wr)) hb5
        have hm := frs_more (x := ⟨ya, yc, bs⟩) (W2 := w5.alloc (.cells #[.int .i64 ((k : Int) + (i : Int)), .slice ya bs.length yc] 88)) (HR) HB.out.size hbx (hbd5.out) (below_alloc _ _) (by rw [HY.out.1, show ((k + i : Nat) : Int) = (k : Int) + (i : Int) from by omega]; exact HO9.out.1) HO9.out.2.1 HO9.out.2.2
        have HM := Lib.hid hm
        clear hm hbx
        go_wp2
        go_roundw
        case rel => exact ⟨i + 1, a9, n9, ys ++ [⟨ya, yc, bs⟩], by omega, by go_num, rfl, Lib.hid ⟨by simp [HY.out.1], by rw [List.map_append, HY.out.2, HTK.out]; rfl⟩, HM.out.1, Lib.hid (HB.out.trans HM.out.2)⟩
        case measure => simp [intOf]; omega
    · have hil' : ¬ (i : Int) < (xs.length : Int) := by omega
      obtain rfl : i = xs.length := by omega
      go_wp2
      go_ret
      refine ⟨a, c, ys, rfl, by have := HY.out.2; rw [List.take_length] at this; exact this, HR, HB.out⟩
end Go.Proofs.Ytpmjgiabedjlgaa
