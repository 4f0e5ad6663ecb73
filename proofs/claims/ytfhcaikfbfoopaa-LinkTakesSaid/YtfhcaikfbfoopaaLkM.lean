/-
  LINK: the world of a link with all that was ever on the way: what lies in memory.
-/
import Derived.Test.YtfhcaikfbfoopaaProg
import Derived.Test.YtfhcaikfbfoopaaBase1
import Derived.Test.YtfhcaikfbfoopaaBase2
import Derived.Test.YtfhcaikfbfoopaaBase3
import Derived.Test.YtfhcaikfbfoopaaBase5
import Derived.Test.YtfhcaikfbfoopaaBase6
import Derived.Test.YtfhcaikfbfoopaaBase11
import Derived.Test.YtfhcaikfbfoopaaBase14
import Derived.Test.YtfhcaikfbfoopaaHeld
import Derived.Test.YtfhcaikfbfoopaaFlat
import Derived.Test.YtfhcaikfbfoopaaLkP
import Derived.Test.YtfhcaikfbfoopaaLk1
import Derived.Test.YtfhcaikfbfoopaaLk2
import Derived.Test.YtfhcaikfbfoopaaLk3
import Derived.Test.YtfhcaikfbfoopaaLk4
import Derived.Test.YtfhcaikfbfoopaaLk5
import Derived.Test.YtfhcaikfbfoopaaLk6
import Derived.Test.YtfhcaikfbfoopaaLk7
import Derived.Test.YtfhcaikfbfoopaaLk8
import Derived.Test.YtfhcaikfbfoopaaLk9
import Derived.Test.YtfhcaikfbfoopaaLkT
import Derived.Test.YtfhcaikfbfoopaaLkS
import Derived.BigQuiet
import Derived.Laws.StructEq
import Derived.StillTailTactics
import Derived.RegionTactic
import Derived.Deep.DeepCutAuto
import Derived.Deep.QuietTactic
import Derived.WalkSpells
import Derived.WalkLawsBesides
namespace Go.Proofs.Ytfhcaikfbfoopaa
open Go.RowKit Go.Maps
set_option linter.unusedVariables false

def NoTy (e : TypeId) (W : World) (L : List Nat) : Prop := ∀ j ∈ L, ∀ C fz, W.heap[j]? ≠ some (.cells C e fz)
theorem own_keepT {L : List Nat} {W W' : World} {B size n : Nat} {e : TypeId} {v : Value} {xs : List Value} (h : W.ownsRow B e size v n xs) (hf : Fx L W W') (hn : NoTy e W L) : W'.ownsRow B e size v n xs :=
  own_keepF h hf (fun j hj hm => by obtain ⟨_, _, C, fz, hC⟩ := own_ltF h hj; exact hn j hm C fz hC)
theorem noTy_s {B : Nat} {W : World} {g k : Nat} {v : Value} {xs : List Bv} (h : SendAt B W g v k xs) (e : TypeId) (h1 : 91 ≠ e) (h2 : 22 ≠ e) : NoTy e W (sF g v) := by
  intro j hj C fz he
  rcases List.mem_cons.1 hj with rfl | hj
  · rw [h.blk] at he; exact h1 (Obj.cells.inj (Option.some.inj he)).2.1
  · obtain ⟨_, _, C', fz', e'⟩ := own_ltF h.row (mem_own.1 hj)
    rw [e'] at he; exact h2 (Obj.cells.inj (Option.some.inj he)).2.1
theorem noTy_r {B : Nat} {W : World} {r b n : Nat} {v : Value} {D : DataW Value} {xs : List Bv} {f : Kf} (h : RecAt B W r v b n D xs f) (e : TypeId) (h1 : 95 ≠ e) (h2 : 22 ≠ e) : NoTy e W (rF r b v) := by
  intro j hj C fz he
  rcases List.mem_cons.1 hj with rfl | hj
  · rw [h.blk] at he; exact h1 (Obj.cells.inj (Option.some.inj he)).2.1
  rcases List.mem_cons.1 hj with rfl | hj
  · obtain ⟨es, cl, e'⟩ := kmap_blk h.km
    rw [e'] at he; cases he
  · obtain ⟨_, _, C', fz', e'⟩ := own_ltF h.row (mem_own.1 hj)
    rw [e'] at he; exact h2 (Obj.cells.inj (Option.some.inj he)).2.1
theorem noTy_own {W : World} {B size n : Nat} {e e' : TypeId} {v : Value} {xs : List Value} (h : W.ownsRow B e' size v n xs) (hne : e' ≠ e) : NoTy e W (own v) := fun j hj C fz he => by
  obtain ⟨_, _, C', fz', e2⟩ := own_ltF h (mem_own.1 hj)
  rw [e2] at he; exact hne (Obj.cells.inj (Option.some.inj he)).2.1
theorem noTy_blk {W : World} {j : Nat} {C : Array Value} {e e' : TypeId} (h : W.heap[j]? = some (.cells C e')) (hne : e' ≠ e) : NoTy e W [j] := fun i hi C' fz he => by
  obtain rfl : i = j := by simpa using hi
  rw [h] at he; exact hne (Obj.cells.inj (Option.some.inj he)).2.1
theorem noTy_cons {W : World} {j : Nat} {L : List Nat} {e : TypeId} (h1 : NoTy e W [j]) (h2 : NoTy e W L) : NoTy e W (j :: L) := fun i hi => by
  rcases List.mem_cons.1 hi with rfl | hi
  · exact h1 i (by simp)
  · exact h2 i hi
theorem notin_of {W : World} {j : Nat} {L : List Nat} {C : Array Value} {e : TypeId} (h : W.heap[j]? = some (.cells C e)) (hn : NoTy e W L) : j ∉ L := fun hj => hn j hj C _ h
/-- What was ever put, how much is acknowledged, and what the receiver has. -/
structure MvA (all : List (List UInt8)) (k : Nat) (xs ys : List Bv) (f : Kf) (olds : List FrL) (aks : List Int) (n cnt : Nat) : Prop where
  kle : k ≤ ys.length
  xe : xs.map Bv.bs = all.drop k
  inv : RInv all (ys.map Bv.bs) (absF f)
  len : ∀ j, (all.getD j []).length ≤ 256
  sz : all.length ≤ cnt
  x16 : xs.length ≤ 16
  old : ∀ o ∈ olds, ∃ j : Nat, j < all.length ∧ o.s = (j : Int) ∧ o.b.bs = all.getD j []
  ak : ∀ a ∈ aks, 0 ≤ a ∧ a ≤ (k : Int)
  n : n ≤ cnt
  on : olds.length ≤ cnt
  an : aks.length ≤ cnt
/-- The world of the link, as it lies. -/
structure MvW (w : World) (wb A g : Nat) (v : Value) (k : Nat) (xs : List Bv) (r b : Nat) (u : Value) (n : Nat) (D : DataW Value) (ys : List Bv) (f : Kf) (sv ov av : Value) (all : List (List UInt8)) (olds : List FrL) (aks : List Int) (W : World) : Prop where
  lk : LkW w g v k xs r b u n D ys f W
  blk : W.heap[wb]? = some (.cells #[.pointer (some ⟨g, 0, none⟩), .pointer (some ⟨r, 0, none⟩), sv, ov, av, .int .i64 (A : Int)] 68)
  st : W.ownsRow w.heap.size 9 1 sv all.length (cs stb all)
  od : W.ownsRow w.heap.size 56 2 ov olds.length (flatV frA olds)
  ob : ∀ o ∈ olds, BdOk W w.heap.size o.b
  ak : W.ownsRow w.heap.size 3 1 av aks.length (cs i64v aks)
  hw : w.heap.size ≤ wb
section
variable {w W W' : World} {wb A g k r b n : Nat} {v u sv ov av : Value} {xs ys : List Bv} {D : DataW Value} {f : Kf} {all : List (List UInt8)} {olds : List FrL} {aks : List Int}
/-- A call of the sender or of the receiver. -/
theorem mvKeep {L : List Nat} {v' u' : Value} {k' n' : Nat} {xs' ys' : List Bv} {D' : DataW Value} {f' : Kf} (h : Hid (MvW w wb A g v k xs r b u n D ys f sv ov av all olds aks W)) (fx : Fx L W W') (nu : NoU8 W L) (n1 : NoTy 68 W L) (n2 : NoTy 9 W L) (n3 : NoTy 56 W L) (n4 : NoTy 3 W L) :
    W'.heap[wb]? = some (.cells #[.pointer (some ⟨g, 0, none⟩), .pointer (some ⟨r, 0, none⟩), sv, ov, av, .int .i64 (A : Int)] 68) ∧ W'.ownsRow w.heap.size 9 1 sv all.length (cs stb all) ∧ W'.ownsRow w.heap.size 56 2 ov olds.length (flatV frA olds) ∧ (∀ o ∈ olds, BdOk W' w.heap.size o.b) ∧ W'.ownsRow w.heap.size 3 1 av aks.length (cs i64v aks) :=
  ⟨blk_keepF h.out.blk fx (notin_of h.out.blk n1), own_keepT h.out.st fx n2, own_keepT h.out.od fx n3, fun o ho => (h.out.ob o ho).keep fx nu, own_keepT h.out.ak fx n4⟩
theorem mvBelow (h : Hid (MvW w wb A g v k xs r b u n D ys f sv ov av all olds aks W)) (hb : Below W.heap.size W W') : Hid (MvW w wb A g v k xs r b u n D ys f sv ov av all olds aks W') := by
  obtain ⟨h1, h2, h3, h4, h5⟩ := mvKeep (L := []) (v' := v) (u' := u) (k' := k) (n' := n) (xs' := xs) (ys' := ys) (D' := D) (f' := f) h (Fx.ofBelow hb) (fun j hj => by simp at hj) (fun j hj => by simp at hj) (fun j hj => by simp at hj) (fun j hj => by simp at hj) (fun j hj => by simp at hj)
  exact Lib.hid ⟨(lkwBelow hb (Lib.hid h.out.lk)).out, h1, h2, h3, h4, h5, h.out.hw⟩
theorem mvTake {u' : Value} {n' : Nat} {D' : DataW Value} {ys' : List Bv} {f' : Kf} (h : Hid (MvW w wb A g v k xs r b u n D ys f sv ov av all olds aks W)) (hl : Hid (LkW w g v k xs r b u' n' D' ys' f' W')) (t : Hid (Tr (rF r b u) (rF r b u') W W')) : Hid (MvW w wb A g v k xs r b u' n' D' ys' f' sv ov av all olds aks W') := by
  obtain ⟨h1, h2, h3, h4, h5⟩ := mvKeep (v' := v) (u' := u) (k' := k) (n' := n) (xs' := xs) (ys' := ys) (D' := D) (f' := f) h t.out.fx t.out.nou8 (noTy_r h.out.lk.rc _ (by decide) (by decide)) (noTy_r h.out.lk.rc _ (by decide) (by decide)) (noTy_r h.out.lk.rc _ (by decide) (by decide)) (noTy_r h.out.lk.rc _ (by decide) (by decide))
  exact Lib.hid ⟨hl.out, h1, h2, h3, h4, h5, h.out.hw⟩
/-- The sender has turned; its number in the world stays as it was. -/
theorem mvSend {v' : Value} {k' : Nat} {xs' : List Bv} (h : Hid (MvW w wb A g v k xs r b u n D ys f sv ov av all olds aks W)) (hl : Hid (LkW w g v' k' xs' r b u n D ys f W')) (t : Hid (Tr (sF g v) (sF g v') W W')) :
    W'.heap[wb]? = some (.cells #[.pointer (some ⟨g, 0, none⟩), .pointer (some ⟨r, 0, none⟩), sv, ov, av, .int .i64 (A : Int)] 68) ∧ W'.ownsRow w.heap.size 9 1 sv all.length (cs stb all) ∧ W'.ownsRow w.heap.size 56 2 ov olds.length (flatV frA olds) ∧ (∀ o ∈ olds, BdOk W' w.heap.size o.b) ∧ W'.ownsRow w.heap.size 3 1 av aks.length (cs i64v aks) :=
  mvKeep (v' := v) (u' := u) (k' := k) (n' := n) (xs' := xs) (ys' := ys) (D' := D) (f' := f) h t.out.fx t.out.nou8 (noTy_s h.out.lk.sd _ (by decide) (by decide)) (noTy_s h.out.lk.sd _ (by decide) (by decide)) (noTy_s h.out.lk.sd _ (by decide) (by decide)) (noTy_s h.out.lk.sd _ (by decide) (by decide))
theorem mvCells (h : Hid (MvW w wb A g v k xs r b u n D ys f sv ov av all olds aks W)) : W.cell? ⟨wb, 0, none⟩ = some (.pointer (some ⟨g, 0, none⟩)) ∧ W.cell? ⟨wb, 1, none⟩ = some (.pointer (some ⟨r, 0, none⟩)) ∧ W.cell? ⟨wb, 2, none⟩ = some sv ∧ W.cell? ⟨wb, 3, none⟩ = some ov ∧ W.cell? ⟨wb, 4, none⟩ = some av ∧ W.cell? ⟨wb, 5, none⟩ = some (.int .i64 (A : Int)) ∧ (∀ i, W.frozen? ⟨wb, i, none⟩ = false) := by
  have hb := h.out.blk
  refine ⟨?_, ?_, ?_, ?_, ?_, ?_, fun i => frozen_of_row _ _ _ _ _ hb⟩ <;> (rw [cell_of_row _ _ _ _ _ _ hb]; rfl)
theorem mvS (h : Hid (MvW w wb A g v k xs r b u n D ys f sv ov av all olds aks W)) : Hid (LkW w g v k xs r b u n D ys f W) := Lib.hid h.out.lk
/-- A cell of the world and a row of it, behind an append and the store of its new slice. -/
theorem mvRow {e : TypeId} {W2 W3 : World} {i : Nat} {x x' : Value} {sz N : Nat} {zs : List Value} (h : Hid (MvW w wb A g v k xs r b u n D ys f sv ov av all olds aks W)) (hb : Below W.heap.size W W2) (hr : W2.ownsRow w.heap.size e sz x N zs) (hg : W2.grownBy W3 x.ownBlock)
    (e1 : e ≠ 91) (e2 : e ≠ 95) (e3 : e ≠ 22) (e4 : e ≠ 5) (e5 : e ≠ 68) :
    LkW w g v k xs r b u n D ys f (W3.setCell ⟨wb, i, none⟩ x') ∧ Fx (wb :: own x) W2 (W3.setCell ⟨wb, i, none⟩ x') ∧ NoU8 W2 (wb :: own x) ∧ (∀ e', e' ≠ e → e' ≠ 68 → NoTy e' W2 (wb :: own x)) ∧ W3.heap[wb]? = some (.cells #[.pointer (some ⟨g, 0, none⟩), .pointer (some ⟨r, 0, none⟩), sv, ov, av, .int .i64 (A : Int)] 68) := by
  have h2 := mvBelow h hb
  have fx : Fx (wb :: own x) W2 (W3.setCell ⟨wb, i, none⟩ x') := ((Fx.ofGrown (L := own x) hg (fun k e => mem_own.2 e)).mono (fun k hk => List.mem_cons_of_mem _ hk)).setCell (by simp)
  have nt : ∀ e', e' ≠ e → e' ≠ 68 → NoTy e' W2 (wb :: own x) := fun e' h1 h2' => noTy_cons (noTy_blk h2.out.blk h2'.symm) (noTy_own hr h1.symm)
  have nu : NoU8 W2 (wb :: own x) := nt 5 e4.symm (by decide)
  have hs : ∀ j ∈ sF g v, j ∉ wb :: own x := fun j hj hj' => by
    rcases List.mem_cons.1 hj with rfl | hj
    · exact nt _ e1.symm (by decide) _ hj' _ _ h2.out.lk.sd.blk
    · obtain ⟨_, _, C, fz, hC⟩ := own_ltF h2.out.lk.sd.row (mem_own.1 hj)
      exact nt _ e3.symm (by decide) _ hj' _ _ hC
  have hrr : ∀ j ∈ rF r b u, j ∉ wb :: own x := fun j hj hj' => by
    rcases List.mem_cons.1 hj with rfl | hj
    · exact nt _ e2.symm (by decide) _ hj' _ _ h2.out.lk.rc.blk
    rcases List.mem_cons.1 hj with rfl | hj
    · obtain ⟨es, cl, hm⟩ := kmap_blk h2.out.lk.rc.km
      rcases List.mem_cons.1 hj' with rfl | hj'
      · rw [h2.out.blk] at hm; cases hm
      · obtain ⟨_, _, C, fz, hC⟩ := own_ltF hr (mem_own.1 hj')
        rw [hC] at hm; cases hm
    · obtain ⟨_, _, C, fz, hC⟩ := own_ltF h2.out.lk.rc.row (mem_own.1 hj)
      exact nt _ e3.symm (by decide) _ hj' _ _ hC
  have hlo : ∀ j ∈ wb :: own x, w.heap.size ≤ j := fun j hj => by
    rcases List.mem_cons.1 hj with rfl | hj
    · exact h.out.hw
    · exact (own_ltF hr (mem_own.1 hj)).2.1
  refine ⟨⟨h2.out.lk.sd.keep fx nu hs, h2.out.lk.rc.keep fx nu hrr, h.out.lk.dj, h2.out.lk.lo.trans (fx.below hlo h2.out.lk.lo.size)⟩, fx, nu, nt, ?_⟩
  have := (Fx.ofGrown (L := own x) hg (fun k e => mem_own.2 e)).block wb (Array.getElem?_eq_some_iff.1 h2.out.blk).1 (fun hj => by
    obtain ⟨_, _, C, fz, hC⟩ := own_ltF hr (mem_own.1 hj)
    rw [h2.out.blk] at hC
    exact e5 (Obj.cells.inj (Option.some.inj hC)).2.1.symm)
  rw [this]
  exact h2.out.blk
theorem setWb {W3 : World} {C : Array Value} {i : Nat} {x : Value} (h : W3.heap[wb]? = some (.cells C 68)) : (W3.setCell ⟨wb, i, none⟩ x).heap[wb]? = some (.cells (C.setIfInBounds i x) 68) := heap_setCell_same W3 wb i _ _ x h
theorem rowSet {W3 : World} {C : Array Value} {e : TypeId} {i N sz : Nat} {x y : Value} {zs : List Value} (h : W3.heap[wb]? = some (.cells C 68)) (hr : W3.ownsRow w.heap.size e sz y N zs) (he : 68 ≠ e) : (W3.setCell ⟨wb, i, none⟩ x).ownsRow w.heap.size e sz y N zs :=
  own_keepT hr (L := [wb]) ((Fx.refl [wb] W3).setCell (by simp)) (noTy_blk h he)
theorem mvOld {W2 W3 : World} {ov' : Value} {o : FrL} (h : Hid (MvW w wb A g v k xs r b u n D ys f sv ov av all olds aks W)) (hb : Below W.heap.size W W2) (ho : W3.ownsRow w.heap.size 56 2 ov' (olds.length + 1) (flatV frA olds ++ (frA o).toList)) (hg : W2.grownBy W3 ov.ownBlock) (hz : BdOk W w.heap.size o.b) :
    Hid (MvW w wb A g v k xs r b u n D ys f sv ov' av all (olds ++ [o]) aks (W3.setCell ⟨wb, 3, none⟩ ov')) := by
  have h2 := mvBelow h hb
  obtain ⟨l, fx, nu, nt, hblk⟩ := mvRow (i := 3) (x' := ov') h hb h2.out.od hg (by decide) (by decide) (by decide) (by decide) (by decide)
  refine Lib.hid ⟨l, by have := setWb (i := 3) (x := ov') hblk; simpa using this, own_keepT h2.out.st fx (nt _ (by decide) (by decide)), ?_, ?_, own_keepT h2.out.ak fx (nt _ (by decide) (by decide)), h.out.hw⟩
  · rw [List.length_append, flatV_append, show flatV frA [o] = (frA o).toList from by simp [flatV]]
    exact rowSet hblk ho (by decide)
  · intro o' ho'
    rcases List.mem_append.1 ho' with ho' | ho'
    · exact (h2.out.ob o' ho').keep fx nu
    · simp at ho'; subst ho'
      exact (hz.keep (L := []) (Fx.ofBelow hb) (fun j hj => by simp at hj)).keep fx nu
theorem mvSent {W2 W3 : World} {sv' : Value} {bs : List UInt8} (h : Hid (MvW w wb A g v k xs r b u n D ys f sv ov av all olds aks W)) (hb : Below W.heap.size W W2) (ho : W3.ownsRow w.heap.size 9 1 sv' (all.length + 1) (cs stb all ++ [stb bs])) (hg : W2.grownBy W3 sv.ownBlock) :
    Hid (MvW w wb A g v k xs r b u n D ys f sv' ov av (all ++ [bs]) olds aks (W3.setCell ⟨wb, 2, none⟩ sv')) := by
  have h2 := mvBelow h hb
  obtain ⟨l, fx, nu, nt, hblk⟩ := mvRow (i := 2) (x' := sv') h hb h2.out.st hg (by decide) (by decide) (by decide) (by decide) (by decide)
  refine Lib.hid ⟨l, by have := setWb (i := 2) (x := sv') hblk; simpa using this, ?_, own_keepT h2.out.od fx (nt _ (by decide) (by decide)), fun o ho' => (h2.out.ob o ho').keep fx nu, own_keepT h2.out.ak fx (nt _ (by decide) (by decide)), h.out.hw⟩
  rw [List.length_append, cs_append]
  exact rowSet hblk ho (by decide)
theorem mvAck {W2 W3 : World} {av' : Value} {a : Int} (h : Hid (MvW w wb A g v k xs r b u n D ys f sv ov av all olds aks W)) (hb : Below W.heap.size W W2) (ho : W3.ownsRow w.heap.size 3 1 av' (aks.length + 1) (cs i64v aks ++ [.int .i64 a])) (hg : W2.grownBy W3 av.ownBlock) :
    Hid (MvW w wb A g v k xs r b u n D ys f sv ov av' all olds (aks ++ [a]) (W3.setCell ⟨wb, 4, none⟩ av')) := by
  have h2 := mvBelow h hb
  obtain ⟨l, fx, nu, nt, hblk⟩ := mvRow (i := 4) (x' := av') h hb h2.out.ak hg (by decide) (by decide) (by decide) (by decide) (by decide)
  refine Lib.hid ⟨l, by have := setWb (i := 4) (x := av') hblk; simpa using this, own_keepT h2.out.st fx (nt _ (by decide) (by decide)), own_keepT h2.out.od fx (nt _ (by decide) (by decide)), fun o ho' => (h2.out.ob o ho').keep fx nu, ?_, h.out.hw⟩
  rw [List.length_append, cs_append]
  exact rowSet hblk ho (by decide)
theorem mvNum (A' : Nat) (h : Hid (MvW w wb A g v k xs r b u n D ys f sv ov av all olds aks W)) : Hid (MvW w wb A' g v k xs r b u n D ys f sv ov av all olds aks (W.setCell ⟨wb, 5, none⟩ (.int .i64 (A' : Int)))) := by
  have fx : Fx [wb] W (W.setCell ⟨wb, 5, none⟩ (.int .i64 (A' : Int))) := (Fx.refl [wb] W).setCell (by simp)
  have nt : ∀ e', 68 ≠ e' → NoTy e' W [wb] := fun e' he => noTy_blk h.out.blk he
  have hs : ∀ j ∈ sF g v, j ∉ [wb] := fun j hj hj' => by
    obtain rfl : j = wb := by simpa using hj'
    exact noTy_s h.out.lk.sd 68 (by decide) (by decide) j hj _ _ h.out.blk
  have hr : ∀ j ∈ rF r b u, j ∉ [wb] := fun j hj hj' => by
    obtain rfl : j = wb := by simpa using hj'
    exact noTy_r h.out.lk.rc 68 (by decide) (by decide) j hj _ _ h.out.blk
  refine Lib.hid ⟨⟨h.out.lk.sd.keep fx (nt _ (by decide)) hs, h.out.lk.rc.keep fx (nt _ (by decide)) hr, h.out.lk.dj, h.out.lk.lo.setCell (p := ⟨wb, 5, none⟩) h.out.hw _⟩, by have := setWb (i := 5) (x := .int .i64 (A' : Int)) h.out.blk; simpa using this, own_keepT h.out.st fx (nt _ (by decide)), own_keepT h.out.od fx (nt _ (by decide)), fun o ho' => (h.out.ob o ho').keep fx (nt _ (by decide)), own_keepT h.out.ak fx (nt _ (by decide)), h.out.hw⟩
theorem mvSnd {v' : Value} {k' : Nat} {xs' : List Bv} (h : Hid (MvW w wb A g v k xs r b u n D ys f sv ov av all olds aks W)) (hl : Hid (LkW w g v' k' xs' r b u n D ys f W')) (t : Hid (Tr (sF g v) (sF g v') W W')) : Hid (MvW w wb A g v' k' xs' r b u n D ys f sv ov av all olds aks W') := by
  obtain ⟨h1, h2, h3, h4, h5⟩ := mvSend h hl t
  exact Lib.hid ⟨hl.out, h1, h2, h3, h4, h5, h.out.hw⟩
theorem mvDrew (h : Hid (MvW w wb A g v k xs r b u n D ys f sv ov av all olds aks W)) : Hid (MvW w wb A g v k xs r b u n D ys f sv ov av all olds aks W.drew) := mvBelow h (below_drew (Below.refl _ _))
theorem mvAlloc {o : Obj} (h : Hid (MvW w wb A g v k xs r b u n D ys f sv ov av all olds aks W)) : Hid (MvW w wb A g v k xs r b u n D ys f sv ov av all olds aks (W.alloc o)) := mvBelow h (below_alloc _ _)
end
end Go.Proofs.Ytfhcaikfbfoopaa
