/-
  LINK, THE REFERENCE: Take, a new frame: what lies in memory, and the steps.
-/
import Derived.Test.YtfhcaikfbfoopaaProg
import Derived.Test.YtfhcaikfbfoopaaBase1
import Derived.Test.YtfhcaikfbfoopaaBase2
import Derived.Test.YtfhcaikfbfoopaaBase3
import Derived.Test.YtfhcaikfbfoopaaBase5
import Derived.Test.YtfhcaikfbfoopaaBase6
import Derived.Test.YtfhcaikfbfoopaaBase11
import Derived.Test.YtfhcaikfbfoopaaBase13
import Derived.Test.YtfhcaikfbfoopaaBase14
import Derived.Test.YtfhcaikfbfoopaaHeld
import Derived.Test.YtfhcaikfbfoopaaFlat
import Derived.Test.YtfhcaikfbfoopaaLkP
import Derived.Test.YtfhcaikfbfoopaaLk1
import Derived.Test.YtfhcaikfbfoopaaLk2
import Derived.Test.YtfhcaikfbfoopaaLk3
import Derived.Test.YtfhcaikfbfoopaaLk6
import Derived.Test.YtfhcaikfbfoopaaLk9
import Derived.Test.YtfhcaikfbfoopaaLkS
import Derived.Test.YtfhcaikfbfoopaaLkM
import Derived.Test.YtfhcaikfbfoopaaLkF
import Derived.Test.YtfhcaikfbfoopaaLkG
import Derived.Test.YtfhcaikfbfoopaaLkJ
import Derived.Test.YtfhcaikfbfoopaaLkK
import Derived.BigQuiet
import Derived.Laws.StructEq
import Derived.StillTailTactics
import Derived.RegionTactic
import Derived.BigRegion
import Derived.Deep.RegionHeld3
import Derived.Deep.RegionLaw
import Derived.Deep.DeepCutAuto
import Derived.Deep.QuietTactic
import Derived.WalkSpells
import Derived.WalkLawsBesides
namespace Go.Proofs.Ytfhcaikfbfoopaa
open Go.RowKit Go.Maps
set_option linter.unusedVariables false

theorem step_append_flatT {P : Program} (w : World) {ops : Array Oper} {o : Oper} {a : Act} {K : Act → World → Prop} {Q : Exit → Act → World → Prop} {E : Prop}
    (hgd : o.guard = none) (s x : Operand) (t : TypeId)
    (ho : o.op = .call { callee := .builtin .append, args := #[s, x], argTypes := #[t, t] })
    (B : Nat) (e : TypeId) (z : Value) (size bytes : Nat) (ht : P.underlying t = some (.slice e))
    (hinfo : (P.info? e).map (fun i => (i.zero, i.size, i.bytes)) = some (some z, size, bytes)) (hzs : z.cells.size = size) (hsz : 0 < size)
    {v : Value} {n : Nat} {xs : List Value} (hs : a.eval s = v) (hown : w.ownsRow B e size v n xs) {ao : Option Addr} {m c : Nat} {zs : List Value} (hx : a.eval x = .slice ao m c) (hsl : Sl w size ao m c zs) (h1 : ∀ u ∈ zs, u.oneCell' = true)
    (h63 : n + m ≤ maxLen) (hbytes : (n + m) * bytes ≤ 140737488355328) (hB : B ≤ w.heap.size)
    (hK : ∀ (v' : Value) (w' : World), w'.ownsRow B e size v' (n + m) (xs ++ zs) → Below B w w' → (∀ (g : Nat) (C : Array Value) (e' : TypeId) (fz : Nat × Nat), w.heap[g]? = some (Obj.cells C e' fz) → e' ≠ e → w'.heap[g]? = some (Obj.cells C e' fz)) → (∀ (g : Nat) (C : Array Value), BlkAt w g C → some g ≠ v.ownBlock → BlkAt w' g C) → K (a.put o.dst v') w') :
    if Region.wanted o (yielded ops a.tmps) = true then Oper.wp P o a w K Q else E := by
  rw [if_pos (by simp [Region.wanted, hgd])]
  obtain ⟨v', w', hrun, r1, r2, r0, r3, r4⟩ := run_append_acc (P := P) w B t t o.type e z size bytes ht hinfo hzs hsz v n xs (.inl hown) (.slice ao m c) m zs (src_sl w ht hsl h1) h63 hbytes hB
  have hfin : w'.ownsRow B e size v' (n + m) (xs ++ zs) := by
    by_cases hm : 0 < m
    · exact r2 hm
    · obtain rfl : m = 0 := by omega
      obtain ⟨rfl, rfl⟩ := r0 rfl
      have hy : zs = [] := List.eq_nil_of_length_eq_zero (by have := hsl.hlen; simpa using this)
      subst hy
      simpa using hown
  unfold Oper.wp execOp
  simp only [ho, resolve, invoke, builtin, Sem.run_bind, Sem.run_pure, Result.andThen_ok, List.map_toArray, List.map_cons, List.map_nil, hs, hx, hrun]
  refine hK v' w' hfin r4 (fun g C e' fz hg hne => ?_) (fun g C hg hne => ?_)
  rotate_left 1
  · obtain ⟨E', hgE⟩ := hg
    exact ⟨E', by rw [r3.block g (Array.getElem?_eq_some_iff.1 hgE).1 (by split <;> simp_all)]; exact hgE⟩
  rw [r3.block g (Array.getElem?_eq_some_iff.1 hg).1 (fun hb => ?_)]
  · exact hg
  · have hv : v.ownBlock = some g := by split at hb <;> simp_all
    obtain ⟨_, _, C2, fz2, e2⟩ := own_ltF hown hv
    rw [hg] at e2
    exact hne (Obj.cells.inj (Option.some.inj e2)).2.1
theorem step_append_rowT {P : Program} (w : World) {ops : Array Oper} {o : Oper} {a : Act} {K : Act → World → Prop} {Q : Exit → Act → World → Prop} {E : Prop}
    (hgd : o.guard = none) (s x : Operand) (t : TypeId)
    (ho : o.op = .call { callee := .builtin .append, args := #[s, x], argTypes := #[t, t] })
    (B : Nat) (e : TypeId) (z : Value) (size bytes : Nat) (ht : P.underlying t = some (.slice e))
    (hinfo : (P.info? e).map (fun i => (i.zero, i.size, i.bytes)) = some (some z, size, bytes)) (hzs : z.cells.size = size) (hsz : 0 < size)
    {v : Value} {n : Nat} {xs : List Value} (hs : a.eval s = v) (hown : w.ownsRow B e size v n xs) {k : Nat} {C : Array Value} (hx : a.eval x = .slice (some ⟨k, 0, none⟩) 1 1) (hk : BlkAt w k C) (hC : C.size = size) (h1 : ∀ u ∈ C.toList, u.oneCell' = true)
    (h63 : n + 1 ≤ maxLen) (hbytes : (n + 1) * bytes ≤ 140737488355328) (hB : B ≤ w.heap.size)
    (hK : ∀ (v' : Value) (w' : World), w'.ownsRow B e size v' (n + 1) (xs ++ C.toList) → Below B w w' → (∀ (g : Nat) (C : Array Value) (e' : TypeId) (fz : Nat × Nat), w.heap[g]? = some (Obj.cells C e' fz) → e' ≠ e → w'.heap[g]? = some (Obj.cells C e' fz)) → (∀ (g : Nat) (C : Array Value), BlkAt w g C → some g ≠ v.ownBlock → BlkAt w' g C) → K (a.put o.dst v') w') :
    if Region.wanted o (yielded ops a.tmps) = true then Oper.wp P o a w K Q else E := by
  obtain ⟨E', hE⟩ := hk
  refine step_append_flatT w hgd s x t ho B e z size bytes ht hinfo hzs hsz hs hown hx (zs := C.toList) ⟨by rw [Array.length_toList, hC, Nat.one_mul], Nat.le_refl _, by unfold maxLen; omega, (fun h => by cases h), fun j u hj => ⟨k, 0, rfl, ?_⟩⟩ h1 h63 hbytes hB hK
  rw [Nat.zero_add, cell_of_row _ _ _ _ _ _ hE]
  simpa using hj
theorem own_emptyS {W : World} {g B sz : Nat} {e : TypeId} (h : W.heap[g]? = some (.cells #[] e)) (hB : B ≤ g) : W.ownsRow B e sz (.slice (some ⟨g, 0, none⟩) 0 0) 0 [] :=
  ⟨by simp, .inr ⟨g, 0, #[], rfl, hB, h, Nat.le_refl _, Nat.zero_le _, by simp, by simp⟩⟩
theorem flat_one (K : List FrL) : ∀ u ∈ flatV frA K, u.oneCell' = true := by
  intro u hu
  unfold flatV at hu
  obtain ⟨x, _, hx⟩ := List.mem_flatMap.1 hu
  exact frA_one x u hx
theorem bytes_bdr {W : World} {k c : Nat} {bs : List UInt8} {fz : Nat × Nat} (h : W.heap[k]? = some (Obj.cells (bytesRow ⟨bs.toArray⟩ c) 5 fz)) (hc : bs.length ≤ c) (hm : c ≤ maxLen) : BdR W ⟨some ⟨k, 0, none⟩, c, bs⟩ := by
  refine ⟨⟨by rw [cs_length]; omega, hc, hm, (fun h => by cases h), fun j u hj => ⟨k, 0, rfl, ?_⟩⟩, fun b o p e => by cases e; exact ⟨_, _, h⟩⟩
  rw [cs_get] at hj
  rw [Nat.zero_add, cell_of_row _ _ _ _ _ _ h]
  unfold bytesRow
  obtain ⟨x, hx, rfl⟩ := Option.map_eq_some_iff.1 hj
  have hjl := (List.getElem?_eq_some_iff.1 hx).1
  rw [Array.getElem?_append_left (by simp; simpa using hjl)]
  rw [Array.getElem?_map]
  have : bs.toArray[j]? = some x := by simpa using hx
  rw [this]
  rfl
/-- Within Take of the reference: the frame, the receiver. -/
structure TkW (w : World) (B : Nat) (ov : Value) (o : List (List UInt8)) (kv : Value) (K : List FrL) (q : Int) (fv : Value) (W : World) : Prop where
  r : W.heap[w.heap.size]? = some (.cells #[ov, kv] 54)
  f : W.heap[w.heap.size + 1]? = some (.cells #[.int .i64 q, fv] 56)
  z : W.heap[w.heap.size + 1 + 1]? = some (.cells #[.slice none 0 0, .slice none 0 0] 54)
  o : W.ownsRow B 9 1 ov o.length (cs stb o)
  k : W.ownsRow B 56 2 kv K.length (flatV frA K)
  bd : ∀ x ∈ K, BdR W x.b
  lo : Below w.heap.size w W
  hB : B ≤ w.heap.size
section
variable {w W W' : World} {B : Nat} {ov kv fv : Value} {o : List (List UInt8)} {K : List FrL} {q : Int}
theorem tkBelow (h : Hid (TkW w B ov o kv K q fv W)) (hb : Below W.heap.size W W') : Hid (TkW w B ov o kv K q fv W') :=
  Lib.hid ⟨blk_keepF (L := []) h.out.r (Fx.ofBelow hb) (by simp), blk_keepF (L := []) h.out.f (Fx.ofBelow hb) (by simp), blk_keepF (L := []) h.out.z (Fx.ofBelow hb) (by simp), ownsRow_ext h.out.o hb, ownsRow_ext h.out.k hb, fun x hx => (h.out.bd x hx).keep (L := []) (Fx.ofBelow hb) (fun j hj => by simp at hj), below_step h.out.lo hb, h.out.hB⟩
theorem tkCells (h : Hid (TkW w B ov o kv K q fv W)) : (W.cell? ⟨w.heap.size, 0, none⟩ = some ov ∧ W.cell? ⟨w.heap.size, 1, none⟩ = some kv ∧ W.frozen? ⟨w.heap.size, 0, none⟩ = false ∧ W.frozen? ⟨w.heap.size, 1, none⟩ = false) ∧ (W.cell? ⟨w.heap.size + 1, 0, none⟩ = some (.int .i64 q) ∧ W.cell? ⟨w.heap.size + 1, 1, none⟩ = some fv) ∧ (W.cell? ⟨w.heap.size + 1 + 1, 0, none⟩ = some (.slice none 0 0) ∧ W.cell? ⟨w.heap.size + 1 + 1, 1, none⟩ = some (.slice none 0 0) ∧ W.frozen? ⟨w.heap.size + 1 + 1, 0, none⟩ = false ∧ W.frozen? ⟨w.heap.size + 1 + 1, 1, none⟩ = false) :=
  ⟨two_facts ⟨_, h.out.r⟩, ⟨(two_facts ⟨_, h.out.f⟩).1, (two_facts ⟨_, h.out.f⟩).2.1⟩, two_facts ⟨_, h.out.z⟩⟩
theorem tkO (h : Hid (TkW w B ov o kv K q fv W)) : ∃ a c, ov = .slice a o.length c ∧ Sl W 1 a o.length c (cs stb o) := by
  obtain ⟨ao, cap, e, hs⟩ := sl_of_own h.out.o
  exact ⟨ao, cap, e, hs⟩
theorem tkK (h : Hid (TkW w B ov o kv K q fv W)) : ∃ a c, kv = .slice a K.length c ∧ Sl W 2 a K.length c (flatV frA K) := by
  obtain ⟨ao, cap, e, hs⟩ := sl_of_own h.out.k
  exact ⟨ao, cap, e, hs⟩
/-- r.Out is stored. -/
theorem tkSetO {ov' : Value} {o' : List (List UInt8)} (h : Hid (TkW w B ov o kv K q fv W)) (ho : W.ownsRow B 9 1 ov' o'.length (cs stb o')) : Hid (TkW w B ov' o' kv K q fv (W.setCell ⟨w.heap.size, 0, none⟩ ov')) := by
  have fx : Fx [w.heap.size] W (W.setCell ⟨w.heap.size, 0, none⟩ ov') := (Fx.refl [w.heap.size] W).setCell (by simp)
  have nt : ∀ e', 54 ≠ e' → NoTy e' W [w.heap.size] := fun e' he => noTy_blk h.out.r he
  have h1 := heap_setCell_same W w.heap.size 0 _ _ ov' h.out.r
  exact Lib.hid ⟨by simpa using h1, blk_keepF h.out.f fx (by simp), blk_keepF h.out.z fx (by simp; omega), own_keepT ho fx (nt _ (by decide)), own_keepT h.out.k fx (nt _ (by decide)), fun x hx => (h.out.bd x hx).keep fx (nt _ (by decide)), h.out.lo.setCell (p := ⟨w.heap.size, 0, none⟩) (Nat.le_refl _) _, h.out.hB⟩
/-- r.Kept is stored. -/
theorem tkSetK {kv' : Value} {K' : List FrL} (h : Hid (TkW w B ov o kv K q fv W)) (hk : W.ownsRow B 56 2 kv' K'.length (flatV frA K')) (hb : ∀ x ∈ K', BdR W x.b) : Hid (TkW w B ov o kv' K' q fv (W.setCell ⟨w.heap.size, 1, none⟩ kv')) := by
  have fx : Fx [w.heap.size] W (W.setCell ⟨w.heap.size, 1, none⟩ kv') := (Fx.refl [w.heap.size] W).setCell (by simp)
  have nt : ∀ e', 54 ≠ e' → NoTy e' W [w.heap.size] := fun e' he => noTy_blk h.out.r he
  have h1 := heap_setCell_same W w.heap.size 1 _ _ kv' h.out.r
  exact Lib.hid ⟨by simpa using h1, blk_keepF h.out.f fx (by simp), blk_keepF h.out.z fx (by simp; omega), own_keepT h.out.o fx (nt _ (by decide)), own_keepT hk fx (nt _ (by decide)), fun x hx => (hb x hx).keep fx (nt _ (by decide)), h.out.lo.setCell (p := ⟨w.heap.size, 1, none⟩) (Nat.le_refl _) _, h.out.hB⟩
end
end Go.Proofs.Ytfhcaikfbfoopaa
