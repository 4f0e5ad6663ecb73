/-
  LINK: Take.
-/
import Derived.Test.YtpmjgiabedjlgaaProg
import Derived.Test.YtpmjgiabedjlgaaBase7
import Derived.Test.YtpmjgiabedjlgaaBase11
import Derived.Test.YtpmjgiabedjlgaaBase14
import Derived.Test.YtpmjgiabedjlgaaLk2
import Derived.Test.YtpmjgiabedjlgaaLk5
import Derived.BigQuiet
import Derived.Laws.StructEq
import Derived.StillTailTactics
import Derived.RegionTactic
import Derived.BigRegion
import Derived.Deep.RegionHeld3
import Derived.Deep.RegionLaw
import Derived.Deep.DeepCutAuto
import Derived.Deep.QuietTactic
import Derived.WalkSpells
import Derived.WalkLawsBesides
namespace Go.Proofs.Ytpmjgiabedjlgaa
open Go.RowKit Go.Maps
set_option linter.unusedVariables false

theorem wpList_append_row {P : Program} (w : World) {ops : Array Oper} {rest : List Oper} {o : Oper} {a : Act} {Q : Exit → Act → World → Prop}
    (hgd : o.guard = none) (s x : Operand) (t : TypeId)
    (ho : o.op = .call { callee := .builtin .append, args := #[s, x], argTypes := #[t, t] })
    (B : Nat) (e : TypeId) (z : Value) (size bytes : Nat) (ht : P.underlying t = some (.slice e))
    (hinfo : (P.info? e).map (fun i => (i.zero, i.size, i.bytes)) = some (some z, size, bytes)) (hzs : z.cells.size = size) (hsz : 0 < size)
    {v : Value} {n : Nat} {xs : List Value} (hs : a.eval s = v) (hown : w.ownsRow B e size v n xs) {k : Nat} {C : Array Value} (hx : a.eval x = .slice (some ⟨k, 0, none⟩) 1 1) (hk : BlkAt w k C) (hC : C.size = size) (h1 : ∀ u ∈ C.toList, u.oneCell' = true)
    (h63 : n + 1 ≤ maxLen) (hbytes : (n + 1) * bytes ≤ 140737488355328) (hB : B ≤ w.heap.size)
    (hK : ∀ v' w', w'.ownsRow B e size v' (n + 1) (xs ++ C.toList) → w.grownBy w' v.ownBlock → Fresh w v v' → wpList P ops Q rest (a.put o.dst v') w') :
    wpList P ops Q (o :: rest) a w := by
  refine wpList_plain hgd fun K hK' => ?_
  obtain ⟨E', hE⟩ := hk
  obtain ⟨v', w', hrun, r1, r2, r3⟩ := run_append_fresh (P := P) w B t o.type e z size bytes ht hinfo hzs hsz v n xs hown ⟨k, 0, none⟩ 1 1 C.toList (by rw [Array.length_toList, hC, Nat.one_mul])
    (fun j u hj => by rw [Addr.add_lit, Nat.zero_add, cell_of_row _ _ _ _ _ _ hE]; simpa using hj) h1 h63 hbytes hB
  unfold Oper.wp
  simp [execOp, ho, resolve, invoke, builtin, hs, hx, hrun, Result.andThen]
  exact hK' _ _ (hK v' w' r1 r2 r3)
theorem step_delete {P : Program} (w : World) {ops : Array Oper} {o : Oper} {a : Act} {K : Act → World → Prop} {Q : Exit → Act → World → Prop} {E : Prop}
    (hgd : o.guard = none) (m x : Operand) (t k : TypeId)
    (ho : o.op = .call { callee := .builtin .delete, args := #[m, x], argTypes := #[t, k] }) {mv xv : Value} {w' : World}
    (hm : a.eval m = mv) (hx : a.eval x = xv) (hrun : (Builtin.delete_ #[t, k] o.type #[mv, xv]).run P w = .ok (.tuple #[]) w')
    (hK : K (a.put o.dst (.tuple #[])) w') :
    if Region.wanted o (yielded ops a.tmps) = true then Oper.wp P o a w K Q else E := by
  rw [if_pos (by simp [Region.wanted, hgd])]
  unfold Oper.wp execOp
  simp only [ho, resolve, invoke, builtin, Sem.run_bind, Sem.run_pure, Result.andThen_ok, List.map_toArray, List.map_cons, List.map_nil, hm, hx, hrun]
  exact hK
theorem sub_rF {r b : Nat} {v : Value} {j : Nat} (h : j ∈ r :: own v) : j ∈ rF r b v := by
  rcases List.mem_cons.1 h with rfl | h
  · simp
  · exact List.mem_cons_of_mem _ (List.mem_cons_of_mem _ h)
section
variable {B : Nat} {W : World} {r b n : Nat} {v : Value} {D : DataW Value} {xs : List Bv} {f : Kf}
theorem recDrew (h : Hid (RecAt B W r v b n D xs f)) : Hid (RecAt B W.drew r v b n D xs f) := Lib.hid (h.out.below (below_drew (Below.refl _ _)))
theorem recDrewN (h : Hid (RecAt B W r v b n D xs f)) (m : Nat) : Hid (RecAt B (W.drewN m) r v b n D xs f) := Lib.hid (h.out.below (below_drewN (Below.refl _ _) m))
theorem recAlloc {o : Obj} (h : Hid (RecAt B W r v b n D xs f)) : Hid (RecAt B (W.alloc o) r v b n D xs f) := Lib.hid (h.out.below (below_alloc _ _))
theorem RecAt.nob (h : RecAt B W r v b n D xs f) : NoU8 W [b] := fun j hj => h.nou8 j (by simp at hj; subst hj; simp)
/-- A body more is kept. -/
theorem rec_put {W1 W2 : World} {n' : Nat} {D' : DataW Value} {s : Nat} {x : Bv} (h : RecAt B W r v b n D xs f) (hb1 : Below W.heap.size W W1) (hbd : BdOk W1 W.heap.size x) (hm : kmap W2 b n' D') (ha : kAt D' (fun j => if j = s then some x else f j)) (ht : W1.mapTurned W2 b) :
    RecAt B W2 r v b n' D' xs (fun j => if j = s then some x else f j) ∧ Fx (rF r b v) W W2 := by
  have hB : B ≤ W.heap.size := Nat.le_trans h.hB (Nat.le_of_lt (h.lt r (by simp)).1)
  have s1 := h.below hb1
  have f1 : Fx [b] W1 W2 := turned_fx ht (by simp)
  have f2 : Fx [b] W W2 := (Fx.ofBelow (L := [b]) hb1).trans f1 (fun k hk => .inl hk)
  obtain ⟨a1, a2, a3⟩ := h.apart
  refine ⟨⟨blk_keepF h.blk f2 (by simpa using a1), own_keepF h.row f2 (fun j hj hm => a3 (by simp at hm; subst hm; exact mem_own.2 hj)), fun y hy => (h.bds y hy).keep f2 h.nob, hm, ha, fun k y e => ?_, h.hB, h.hb⟩, f2.mono (fun k hk => by simp at hk; subst hk; simp)⟩
  by_cases hk : k = s
  · rw [if_pos hk] at e
    cases e
    exact (hbd.lower hB).keep f1 s1.nob
  · rw [if_neg hk] at e
    exact (h.kb k y e).keep f2 h.nob
/-- .. or delivered: struck from the map .. -/
theorem rec_del {W1 W2 : World} {n' : Nat} {D' : DataW Value} {s : Nat} (h : RecAt B W r v b n D xs f) (hb1 : Below W.heap.size W W1) (hm : kmap W2 b n' D') (ha : kAt D' (fun j => if j = s then none else f j)) (ht : W1.mapTurned W2 b) :
    RecAt B W2 r v b n' D' xs (fun j => if j = s then none else f j) ∧ Fx (rF r b v) W W2 ∧ ∀ k y, f k = some y → BdOk W2 B y := by
  have f1 : Fx [b] W1 W2 := turned_fx ht (by simp)
  have f2 : Fx [b] W W2 := (Fx.ofBelow (L := [b]) hb1).trans f1 (fun k hk => .inl hk)
  obtain ⟨a1, a2, a3⟩ := h.apart
  refine ⟨⟨blk_keepF h.blk f2 (by simpa using a1), own_keepF h.row f2 (fun j hj hm => a3 (by simp at hm; subst hm; exact mem_own.2 hj)), fun y hy => (h.bds y hy).keep f2 h.nob, hm, ha, fun k y e => ?_, h.hB, h.hb⟩, f2.mono (fun k hk => by simp at hk; subst hk; simp), fun k y e => (h.kb k y e).keep f2 h.nob⟩
  by_cases hk : k = s
  · rw [if_pos hk] at e
    cases e
  · rw [if_neg hk] at e
    exact (h.kb k y e).keep f2 h.nob
/-- .. and laid behind what was delivered. -/
theorem rec_app {W2 W3 : World} {v' : Value} {x : Bv} (h : RecAt B W r v b n D xs f) (hbd : BdOk W B x) (hb : Below W.heap.size W W2) (ho : W3.ownsRow B 22 1 v' (xs.length + 1) (cs bsv xs ++ [bsv x])) (hg : W2.grownBy W3 v.ownBlock) (hf : Fresh W2 v v') :
    RecAt B (W3.setCell ⟨r, 0, none⟩ v') r v' b n D (xs ++ [x]) f ∧ Fx (rF r b v) W (W3.setCell ⟨r, 0, none⟩ v') ∧ (∀ j ∈ own v', j ∈ own v ∨ W.heap.size ≤ j) := by
  obtain ⟨a1, a2, a3⟩ := h.apart
  have f3 : Fx (own v) W W3 := (Fx.ofBelow (L := own v) hb).trans (Fx.ofGrown (L := own v) hg (fun k e => mem_own.2 e)) (fun k hk => .inl hk)
  have f4 : Fx (r :: own v) W (W3.setCell ⟨r, 0, none⟩ v') := (f3.mono (fun k hk => List.mem_cons_of_mem _ hk)).setCell (by simp)
  have e3 : W3.heap[r]? = some (.cells #[v, .map (some b)] 109) := blk_keepF h.blk f3 a2
  have hno : NoU8 W (r :: own v) := fun j hj => h.nou8 j (sub_rF hj)
  have hgv : ∀ j, v'.ownBlock = some j → j ∉ [r] := fun j hj hm => by
    obtain rfl : j = r := by simpa using hm
    obtain ⟨_, _, C', fz', e'⟩ := own_ltF ho hj
    rw [e3] at e'; exact absurd (Obj.cells.inj (Option.some.inj e')).2.1 (by decide)
  refine ⟨⟨?_, ?_, ?_, kmap_keep h.km f4 (by simp [a1.symm, a3]), h.ka, fun k y e => (h.kb k y e).keep f4 hno, h.hB, h.hb⟩, f4.mono (fun k hk => sub_rF hk), fun j hj => ?_⟩
  · have := heap_setCell_same W3 r 0 _ _ v' e3
    simpa using this
  · rw [cs_append, List.length_append]
    exact own_keepF (L := [r]) ho ((Fx.refl [r] W3).setCell (by simp)) hgv
  · intro y hy
    rcases List.mem_append.1 hy with hy | hy
    · exact (h.bds y hy).keep f4 hno
    · simp at hy; subst hy
      exact hbd.keep f4 hno
  · rcases hf j (mem_own.1 hj) with e | e
    · exact .inl (mem_own.2 e)
    · exact .inr (Nat.le_trans hb.size e)
end
end Go.Proofs.Ytpmjgiabedjlgaa
