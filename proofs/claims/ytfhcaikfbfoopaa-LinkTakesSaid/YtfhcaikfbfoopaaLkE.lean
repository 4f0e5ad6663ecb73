/-
  LINK, THE LAWS: LinkTakes (what lies in memory; the calls).
-/
import Derived.Test.YtfhcaikfbfoopaaProg
import Derived.Test.YtfhcaikfbfoopaaBase1
import Derived.Test.YtfhcaikfbfoopaaBase2
import Derived.Test.YtfhcaikfbfoopaaBase3
import Derived.Test.YtfhcaikfbfoopaaBase5
import Derived.Test.YtfhcaikfbfoopaaBase6
import Derived.Test.YtfhcaikfbfoopaaBase11
import Derived.Test.YtfhcaikfbfoopaaBase13
import Derived.Test.YtfhcaikfbfoopaaBase14
import Derived.Test.YtfhcaikfbfoopaaHeld
import Derived.Test.YtfhcaikfbfoopaaFlat
import Derived.Test.YtfhcaikfbfoopaaLkP
import Derived.Test.YtfhcaikfbfoopaaLk1
import Derived.Test.YtfhcaikfbfoopaaLk2
import Derived.Test.YtfhcaikfbfoopaaLk3
import Derived.Test.YtfhcaikfbfoopaaLk6
import Derived.Test.YtfhcaikfbfoopaaLk9
import Derived.Test.YtfhcaikfbfoopaaLk4
import Derived.Test.YtfhcaikfbfoopaaLk7
import Derived.Test.YtfhcaikfbfoopaaLkS
import Derived.Test.YtfhcaikfbfoopaaLkM
import Derived.Test.YtfhcaikfbfoopaaLkF
import Derived.Test.YtfhcaikfbfoopaaLkG
import Derived.Test.YtfhcaikfbfoopaaLkA
import Derived.Test.YtfhcaikfbfoopaaLkJ
import Derived.Test.YtfhcaikfbfoopaaLkK
import Derived.Test.YtfhcaikfbfoopaaLkL
import Derived.Test.YtfhcaikfbfoopaaLkC
import Derived.Test.YtfhcaikfbfoopaaLkD
import Derived.BigQuiet
import Derived.Laws.StructEq
import Derived.StillTailTactics
import Derived.RegionTactic
import Derived.BigRegion
import Derived.Deep.RegionHeld3
import Derived.Deep.RegionLaw
import Derived.Deep.DeepCutAuto
import Derived.Deep.QuietTactic
import Derived.WalkSpells
import Derived.WalkLawsBesides
namespace Go.Proofs.Ytfhcaikfbfoopaa
open Go.RowKit Go.Maps
set_option linter.unusedVariables false

/-- The receiver and the reference's, in one memory. -/
structure RtM (w : World) (r b : Nat) (u : Value) (n : Nat) (D : DataW Value) (ys : List Bv) (f : Kf) (h : Nat) (ov : Value) (o : List (List UInt8)) (kv : Value) (K : List FrL) (W : World) : Prop where
  rc : RecAt w.heap.size W r u b n D ys f
  o : W.ownsRow w.heap.size 9 1 ov o.length (cs stb o)
  k : W.ownsRow w.heap.size 56 2 kv K.length (flatV frA K)
  bd : ∀ x ∈ K, BdR W x.b
  blk : W.heap[h]? = some (.cells #[ov, kv] 54)
  lo : Below w.heap.size w W
  hh : w.heap.size ≤ h
section
variable {w W W' : World} {r b n h : Nat} {u ov kv : Value} {D : DataW Value} {ys : List Bv} {f : Kf} {o : List (List UInt8)} {K : List FrL}
theorem rtBelow (s : Hid (RtM w r b u n D ys f h ov o kv K W)) (hb : Below W.heap.size W W') : Hid (RtM w r b u n D ys f h ov o kv K W') := Lib.hid ⟨s.out.rc.below hb, ownsRow_ext s.out.o hb, ownsRow_ext s.out.k hb, fun x hx => (s.out.bd x hx).keep (L := []) (Fx.ofBelow hb) (fun j hj => by simp at hj), blk_keepF (L := []) s.out.blk (Fx.ofBelow hb) (by simp), below_step s.out.lo hb, s.out.hh⟩
theorem rtTake {u' : Value} {n' : Nat} {D' : DataW Value} {ys' : List Bv} {f' : Kf} (s : Hid (RtM w r b u n D ys f h ov o kv K W)) (h1 : RecAt w.heap.size W' r u' b n' D' ys' f') (t : Tr (rF r b u) (rF r b u') W W') : Hid (RtM w r b u' n' D' ys' f' h ov o kv K W') :=
  Lib.hid ⟨h1, own_keepT s.out.o t.fx (noTy_r s.out.rc _ (by decide) (by decide)), own_keepT s.out.k t.fx (noTy_r s.out.rc _ (by decide) (by decide)), fun x hx => (s.out.bd x hx).keep t.fx t.nou8, blk_keepF s.out.blk t.fx (notin_of s.out.blk (noTy_r s.out.rc _ (by decide) (by decide))), s.out.lo.trans (t.fx.below (fun j hj => (s.out.rc.lt j hj).2) s.out.lo.size), s.out.hh⟩
theorem rtCells (s : Hid (RtM w r b u n D ys f h ov o kv K W)) : W.cell? ⟨h, 0, none⟩ = some ov ∧ W.cell? ⟨h, 1, none⟩ = some kv ∧ W.frozen? ⟨h, 0, none⟩ = false ∧ W.frozen? ⟨h, 1, none⟩ = false := two_facts ⟨_, s.out.blk⟩
theorem rtSet {ov' kv' : Value} {o' : List (List UInt8)} {K' : List FrL} (s : Hid (RtM w r b u n D ys f h ov o kv K W)) (ho : W.ownsRow w.heap.size 9 1 ov' o'.length (cs stb o')) (hk : W.ownsRow w.heap.size 56 2 kv' K'.length (flatV frA K')) (hb : ∀ x ∈ K', BdR W x.b) : Hid (RtM w r b u n D ys f h ov' o' kv' K' ((W.setCell ⟨h, 0, none⟩ ov').setCell ⟨h, 1, none⟩ kv')) := by
  have fx : Fx [h] W ((W.setCell ⟨h, 0, none⟩ ov').setCell ⟨h, 1, none⟩ kv') := ((Fx.refl [h] W).setCell (by simp)).setCell (by simp)
  have nt : ∀ e', 54 ≠ e' → NoTy e' W [h] := fun e' he => noTy_blk s.out.blk he
  refine Lib.hid ⟨s.out.rc.keep fx (nt _ (by decide)) (fun j hj hj' => ?_), own_keepT ho fx (nt _ (by decide)), own_keepT hk fx (nt _ (by decide)), fun x hx => (hb x hx).keep fx (nt _ (by decide)), ?_, (s.out.lo.setCell (p := ⟨h, 0, none⟩) s.out.hh _).setCell (p := ⟨h, 1, none⟩) s.out.hh _, s.out.hh⟩
  · obtain rfl : j = h := by simpa using hj'
    exact noTy_r s.out.rc 54 (by decide) (by decide) j hj _ _ s.out.blk
  · have h1 := heap_setCell_same W h 0 _ _ ov' s.out.blk
    have h2 := heap_setCell_same _ h 1 _ _ kv' h1
    simpa using h2
theorem rtForm (s : Hid (RtM w r b u n D ys f h ov o kv K W)) : ∃ oa oc ka kc, ov = .slice oa o.length oc ∧ kv = .slice ka K.length kc := by
  obtain ⟨a1, c1, e1, _⟩ := sl_of_own s.out.o
  obtain ⟨a2, c2, e2, _⟩ := sl_of_own s.out.k
  exact ⟨a1, c1, a2, c2, e1, e2⟩
/-- What the reference's Take hands back. -/
def RtNew (w : World) (cnt : Nat) (o' : List (List UInt8)) (q' : Qf) (er : Int) (W' : World) (e : Ending) (W'' : World) : Prop :=
  ∃ (oa : Option Addr) (oc : Nat) (ka : Option Addr) (kc : Nat) (K' : List FrL), e = .returned (.tuple #[.agg #[.slice oa o'.length oc, .slice ka K'.length kc], .int .i64 er]) ∧ Hid (KI o' q' K' (cnt + 1)) ∧ Hid (W''.ownsRow w.heap.size 9 1 (.slice oa o'.length oc) o'.length (cs stb o')) ∧ Hid (W''.ownsRow w.heap.size 56 2 (.slice ka K'.length kc) K'.length (flatV frA K')) ∧ Hid (∀ x ∈ K', BdR W'' x.b) ∧ Below W'.heap.size W' W''
theorem rt_take_any {oa ka : Option Addr} {oc kc cnt : Nat} {W0 : World} (s : Hid (RtM w r b u n D ys f h (.slice oa o.length oc) o (.slice ka K.length kc) K W0)) (hI : Hid (KI o (absF f) K cnt ∧ ys.map Bv.bs = o)) (hn : n ≤ cnt) (hc : cnt ≤ 800) (S : Int) (fa : Option Addr) (fc : Nat) (bs : List UInt8) : ∃ (er : Int) (o' : List (List UInt8)) (q' : Qf),
    Hid (∀ W', Hid (RtM w r b u n D ys f h (.slice oa o.length oc) o (.slice ka K.length kc) K W') → Sl W' 1 fa bs.length fc (cs b8 bs) → Calls Try.prog 29 #[.pointer (some ⟨r, 0, none⟩), .agg #[.int .i64 S, .slice fa bs.length fc]] W' (fun e W'' => e = .returned (.int .i64 er) ∧ ∃ u' n' D' ys' f', n' ≤ cnt + 1 ∧ Hid (ys'.map Bv.bs = o' ∧ absF f' = q') ∧ Hid (RtM w r b u' n' D' ys' f' h (.slice oa o.length oc) o (.slice ka K.length kc) K W''))) ∧
    Hid (∀ W' u' n' D' ys' f', Hid (RtM w r b u' n' D' ys' f' h (.slice oa o.length oc) o (.slice ka K.length kc) K W') → Sl W' 1 fa bs.length fc (cs b8 bs) → Calls Try.prog 30 #[.agg #[.slice oa o.length oc, .slice ka K.length kc], .agg #[.int .i64 S, .slice fa bs.length fc]] W' (RtNew w cnt o' q' er W')) := by
  have hcc := hI.out.1.c
  have hyl : ys.length = o.length := by have := congrArg List.length hI.out.2; simpa using this
  obtain ⟨⟨o', q', er⟩, ht⟩ : ∃ x, takeA o (absF f) S bs = x := ⟨_, rfl⟩
  have HT : takeA (ys.map Bv.bs) (absF f) S bs = (o', q', er) := by rw [hI.out.2]; exact ht
  refine ⟨er, o', q', Lib.hid (fun W' s' hs => ?_), ?_⟩
  · refine (recTakeAny (Lib.hid s'.out.rc) S fa bs.length fc bs hs (by omega) (by omega) (key_abs rfl (by have := ki_key hI.out.1; rw [hyl]; exact this)) o' q' er (Lib.hid HT)).mono ?_
    rintro e W'' ⟨rfl, u', n', D', ys', f', hn', ha, hr, htr⟩
    exact ⟨rfl, u', n', D', ys', f', by omega, ha, rtTake s' hr.out htr.out⟩
  · have same : ∀ er0, takeA o (absF f) S bs = (o, absF f, er0) → (∀ W', (∃ u' n' D' ys' f', Hid (RtM w r b u' n' D' ys' f' h (.slice oa o.length oc) o (.slice ka K.length kc) K W')) → Sl W' 1 fa bs.length fc (cs b8 bs) → Calls Try.prog 30 #[.agg #[.slice oa o.length oc, .slice ka K.length kc], .agg #[.int .i64 S, .slice fa bs.length fc]] W' (RetB (.tuple #[.agg #[.slice oa o.length oc, .slice ka K.length kc], .int .i64 er0]) W')) → Hid (∀ W' u' n' D' ys' f', Hid (RtM w r b u' n' D' ys' f' h (.slice oa o.length oc) o (.slice ka K.length kc) K W') → Sl W' 1 fa bs.length fc (cs b8 bs) → Calls Try.prog 30 #[.agg #[.slice oa o.length oc, .slice ka K.length kc], .agg #[.int .i64 S, .slice fa bs.length fc]] W' (RtNew w cnt o' q' er W')) := fun er0 e hcl => by
      rw [ht] at e
      obtain ⟨rfl, e2⟩ := Prod.mk.inj e
      obtain ⟨rfl, rfl⟩ := Prod.mk.inj e2
      refine Lib.hid (fun W' u' n' D' ys' f' s' hs => (hcl W' ⟨u', n', D', ys', f', s'⟩ hs).mono ?_)
      rintro e W'' ⟨rfl, hb⟩
      exact ⟨oa, oc, ka, kc, K, rfl, Lib.hid (ki_next hI.out.1), Lib.hid (ownsRow_ext s'.out.o hb), Lib.hid (ownsRow_ext s'.out.k hb), Lib.hid (fun x hx => (s'.out.bd x hx).keep (L := []) (Fx.ofBelow hb) (fun j hj => by simp at hj)), hb⟩
    by_cases h1 : S < 0
    · exact same 1 (by unfold takeA; rw [if_pos (.inl h1)]) (fun W' _ _ => refTake_neg W' oa o.length oc ka K.length kc S fa bs.length fc h1)
    by_cases h2 : 1048576 ≤ S
    · exact same 1 (by unfold takeA; rw [if_pos (.inr (.inl h2))]) (fun W' _ _ => refTake_big W' oa o.length oc ka K.length kc S fa bs.length fc h1 h2)
    by_cases h3 : 256 < bs.length
    · exact same 1 (by unfold takeA; rw [if_pos (.inr (.inr h3))]) (fun W' _ _ => refTake_long W' oa o.length oc ka K.length kc S fa bs.length fc h1 h2 (by omega))
    have hno : ¬ (S < 0 ∨ 1048576 ≤ S ∨ 256 < bs.length) := fun e => e.elim h1 (fun e => e.elim h2 h3)
    by_cases h4 : (o.length : Int) + 16 ≤ S
    · exact same 8 (by unfold takeA; rw [if_neg hno, if_pos h4]) (fun W' _ _ => refTake_full W' oa o.length oc ka K.length kc S fa bs.length fc h1 h2 (by omega) (by omega) h4)
    obtain ⟨q, rfl⟩ : ∃ q : Nat, S = (q : Int) := ⟨S.toNat, by omega⟩
    by_cases h5 : q < o.length
    · refine same (if o.getD q [] = bs then 0 else 21) (by unfold takeA; rw [if_neg hno, if_neg h4, Int.toNat_natCast, if_pos h5]) (fun W' s' hs => ?_)
      obtain ⟨u', n', D', ys', f', s'⟩ := s'
      obtain ⟨_, _, e, hso⟩ := sl_of_own s'.out.o
      cases e
      exact refTake_out W' oa o.length oc ka K.length kc q fa bs.length fc o bs hso hs h2 (by omega) (by omega) h5 _ (Lib.hid rfl)
    cases hq : absF f q with
    | some x =>
      refine same (if x = bs then 0 else 21) (by unfold takeA; rw [if_neg hno, if_neg h4, Int.toNat_natCast, if_neg h5, hq]) (fun W' s' hs => ?_)
      obtain ⟨u', n', D', ys', f', s'⟩ := s'
      obtain ⟨_, _, e, hsk⟩ := sl_of_own s'.out.k
      cases e
      exact refTake_kept W' oa o.length oc ka K.length kc q fa bs.length fc K x bs rfl hsk (fun y hy => (s'.out.bd y hy).1) (by omega) hs h2 (by omega) (by omega) h4 (by omega) (Lib.hid (by rw [← hI.out.1.q q]; exact hq)) _ (Lib.hid rfl)
    | none =>
      have e0 : takeA o (absF f) (q : Int) bs = ((drain 17 o (fun j => if j = q then some bs else absF f j)).1, (drain 17 o (fun j => if j = q then some bs else absF f j)).2, 0) := by
        unfold takeA
        rw [if_neg hno, if_neg h4, Int.toNat_natCast, if_neg h5, hq]
      rw [ht] at e0
      obtain ⟨ho', e2⟩ := Prod.mk.inj e0
      obtain ⟨hq', rfl⟩ := Prod.mk.inj e2
      refine Lib.hid (fun W' u' n' D' ys' f' s' hs => ?_)
      refine (refTake_new W' w.heap.size oa oc ka kc q fa fc o K bs s'.out.o s'.out.k s'.out.bd s'.out.lo.size hs (by omega) h2 (by omega) (by omega) h4 (by omega) (Lib.hid (by rw [← hI.out.1.q q]; exact hq))).mono ?_
      rintro e W'' ⟨oa2, oc2, ka2, kc2, z, o2, K2, hz, h6, rfl, h7, h8, h9, hb⟩
      have hnew := ki_new hI.out.1 ⟨(q : Int), z⟩ q rfl (by omega) (by omega) (by rw [hz]; omega) hq
      dsimp only at hnew
      rw [hz] at hnew
      obtain ⟨hd, hki⟩ := hnew
      rw [hd] at ho' hq'
      dsimp only at ho' hq'
      obtain ⟨h10, h11⟩ := h6.out
      rw [← h10] at ho' hq' hki
      subst ho'
      rw [← h11] at hki
      rw [← hq'] at hki
      exact ⟨oa2, oc2, ka2, kc2, K2, rfl, Lib.hid hki, h7, h8, h9, hb⟩
end
end Go.Proofs.Ytfhcaikfbfoopaa
