/-
  LINK: a sender and a receiver in one memory.
-/
import Derived.Test.YtpmjgiabedjlgaaProg
import Derived.Test.YtpmjgiabedjlgaaBase7
import Derived.Test.YtpmjgiabedjlgaaBase11
import Derived.Test.YtpmjgiabedjlgaaBase14
import Derived.Test.YtpmjgiabedjlgaaFlat
import Derived.Test.YtpmjgiabedjlgaaLk2
import Derived.Test.YtpmjgiabedjlgaaLk3
import Derived.Test.YtpmjgiabedjlgaaLk4
import Derived.Test.YtpmjgiabedjlgaaLk5
import Derived.Test.YtpmjgiabedjlgaaLk6
import Derived.Test.YtpmjgiabedjlgaaLk7
import Derived.Test.YtpmjgiabedjlgaaLk8
import Derived.BigQuiet
import Derived.Laws.StructEq
import Derived.StillTailTactics
import Derived.RegionTactic
import Derived.Deep.DeepCutAuto
import Derived.Deep.QuietTactic
import Derived.WalkSpells
import Derived.WalkLawsBesides
namespace Go.Proofs.Ytpmjgiabedjlgaa
open Go.RowKit Go.Maps
set_option linter.unusedVariables false

theorem SendAt.lower {B B' : Nat} {W : World} {g k : Nat} {v : Value} {xs : List Bv} (h : SendAt B W g v k xs) (hb : B' ≤ B) : SendAt B' W g v k xs := ⟨h.blk, ownsRow_mono h.row hb, fun x hx => (h.bds x hx).lower hb, Nat.le_trans hb h.hB⟩
theorem RecAt.lower {B B' : Nat} {W : World} {r b n : Nat} {v : Value} {D : DataW Value} {xs : List Bv} {f : Kf} (h : RecAt B W r v b n D xs f) (hb : B' ≤ B) : RecAt B' W r v b n D xs f := ⟨h.blk, ownsRow_mono h.row hb, fun x hx => (h.bds x hx).lower hb, h.km, h.ka, fun k x e => (h.kb k x e).lower hb, Nat.le_trans hb h.hB, Nat.le_trans hb h.hb⟩
/-- What an object's call does to memory: from these blocks to those. -/
structure Tr (L L' : List Nat) (W W' : World) : Prop where
  fx : Fx L W W'
  fresh : ∀ j ∈ L', j ∈ L ∨ W.heap.size ≤ j
  nou8 : NoU8 W L
theorem trS {g : Nat} {v v' : Value} {W : World} (h : ∀ j ∈ own v', j ∈ own v ∨ W.heap.size ≤ j) : ∀ j ∈ sF g v', j ∈ sF g v ∨ W.heap.size ≤ j := fun j hj => by
  rcases List.mem_cons.1 hj with rfl | hj
  · exact .inl (by simp)
  · exact (h j hj).imp (List.mem_cons_of_mem _) id
theorem trR {r b : Nat} {v v' : Value} {W : World} (h : ∀ j ∈ own v', j ∈ own v ∨ W.heap.size ≤ j) : ∀ j ∈ rF r b v', j ∈ rF r b v ∨ W.heap.size ≤ j := fun j hj => by
  rcases List.mem_cons.1 hj with rfl | hj
  · exact .inl (by simp)
  rcases List.mem_cons.1 hj with rfl | hj
  · exact .inl (by simp)
  · exact (h j hj).imp (fun e => List.mem_cons_of_mem _ (List.mem_cons_of_mem _ e)) id
/-- A list of frames that an object's calls do not reach. -/
structure FrW (B : Nat) (fu : Value) (k : Nat) (zs : List Bv) (L : List Nat) (W : World) : Prop where
  at_ : FrsAt B W fu k zs
  dj : ∀ j ∈ own fu, j ∉ L
theorem FrW.tr {B k : Nat} {fu : Value} {zs : List Bv} {L L' : List Nat} {W W' : World} (h : FrW B fu k zs L W) (t : Tr L L' W W') : FrW B fu k zs L' W' := ⟨h.at_.keep t.fx t.nou8 h.dj, fun j hj hj' => by
  rcases t.fresh j hj' with e | e
  · exact h.dj j hj e
  · exact absurd (own_ltF h.at_.row (mem_own.1 hj)).1 (Nat.not_lt.2 e)⟩
theorem FrW.below {B k : Nat} {fu : Value} {zs : List Bv} {L : List Nat} {W W' : World} (h : FrW B fu k zs L W) (hb : Below W.heap.size W W') : FrW B fu k zs L W' := ⟨h.at_.below hb, h.dj⟩
theorem FrsAt.cells {B W k n c : _} {fa : Option Addr} {zs : List Bv} (h : FrsAt B W (.slice fa n c) k zs) (hn : zs.length = n) (i : Nat) (hi : i < n) : ∃ b o, fa = some ⟨b, o, none⟩ ∧ W.cell? ⟨b, o + i * 2, none⟩ = some (.int .i64 ((k + i : Nat) : Int)) ∧ W.cell? ⟨b, o + i * 2 + 1, none⟩ = some (.slice (zs.getD i nilB).a (zs.getD i nilB).bs.length (zs.getD i nilB).c) ∧ BdOk W B (zs.getD i nilB) := by
  obtain ⟨ao, cap, e, hs⟩ := sl_of_own h.row
  cases e
  obtain ⟨b, o, e, hc⟩ := flat_at FrL.zero frA 2 (by decide) (fun _ => rfl) hs (by rw [frL_len]) i (by omega)
  rw [frL_get k zs i (by omega)] at hc
  exact ⟨b, o, e, hc 0 _ rfl, hc 1 _ rfl, h.bds _ (by rw [List.getD_eq_getElem?_getD, List.getElem?_eq_getElem (by omega)]; exact List.getElem_mem _)⟩
/-- A sender and a receiver. -/
structure LkW (w : World) (g : Nat) (v : Value) (k : Nat) (xs : List Bv) (r b : Nat) (u : Value) (n : Nat) (D : DataW Value) (ys : List Bv) (f : Kf) (W : World) : Prop where
  sd : SendAt w.heap.size W g v k xs
  rc : RecAt w.heap.size W r u b n D ys f
  dj : ∀ j ∈ sF g v, j ∉ rF r b u
  lo : Below w.heap.size w W
theorem lkwStart {w w1 w2 : World} (h1 : Hid (SendAt w.heap.size w1 w.heap.size (.slice none 0 0) 0 [])) (hb1 : Below w.heap.size w w1) (h2 : Hid (RecAt w1.heap.size w2 (w1.heap.size + 1) (.slice none 0 0) w1.heap.size 0 (.map []) [] (fun _ => none))) (hb2 : Below w1.heap.size w1 w2) :
    Hid (LkW w w.heap.size (.slice none 0 0) 0 [] (w1.heap.size + 1) w1.heap.size (.slice none 0 0) 0 (.map []) [] (fun _ => none) w2) := by
  have hlt := (h1.out.lt w.heap.size (by simp)).1
  refine Lib.hid ⟨h1.out.below hb2, h2.out.lower hb1.size, fun j hj hj' => ?_, below_step hb1 hb2⟩
  simp [own, Value.ownBlock] at hj hj'
  omega
theorem key_abs {f : Kf} {q : Qf} {M : Nat} (h : absF f = q) (hq : ∀ k x, q k = some x → k < M) : ∀ k x, f k = some x → k < M := fun k x e => hq k x.bs (by rw [← h]; unfold absF; rw [e]; rfl)
section
variable {w W W' : World} {g k r b n : Nat} {v u : Value} {xs ys : List Bv} {D : DataW Value} {f : Kf}
theorem lkwBelow (hb : Below W.heap.size W W') (h : Hid (LkW w g v k xs r b u n D ys f W)) : Hid (LkW w g v k xs r b u n D ys f W') := Lib.hid ⟨h.out.sd.below hb, h.out.rc.below hb, h.out.dj, below_step h.out.lo hb⟩
theorem lkwS (h : Hid (LkW w g v k xs r b u n D ys f W)) : Hid (SendAt w.heap.size W g v k xs) := Lib.hid h.out.sd
theorem lkwR (h : Hid (LkW w g v k xs r b u n D ys f W)) : Hid (RecAt w.heap.size W r u b n D ys f) := Lib.hid h.out.rc
theorem lkwSend {v' : Value} {k' : Nat} {xs' : List Bv} (h : Hid (LkW w g v k xs r b u n D ys f W)) (h1 : SendAt w.heap.size W' g v' k' xs') (h2 : Fx (sF g v) W W') (h3 : ∀ j ∈ own v', j ∈ own v ∨ W.heap.size ≤ j) : Hid (LkW w g v' k' xs' r b u n D ys f W') := by
  have hd : ∀ j ∈ rF r b u, j ∉ sF g v := fun j hj hj' => h.out.dj j hj' hj
  refine Lib.hid ⟨h1, h.out.rc.keep h2 h.out.sd.nou8 hd, fun j hj hj' => ?_, h.out.lo.trans (h2.below (fun j hj => (h.out.sd.lt j hj).2) h.out.lo.size)⟩
  rcases List.mem_cons.1 hj with rfl | hj
  · exact hd _ hj' (by simp)
  · rcases h3 j hj with e | e
    · exact hd j hj' (List.mem_cons_of_mem _ e)
    · exact absurd (h.out.rc.lt j hj').1 (Nat.not_lt.2 e)
theorem lkwTake {u' : Value} {n' : Nat} {D' : DataW Value} {ys' : List Bv} {f' : Kf} (h : Hid (LkW w g v k xs r b u n D ys f W)) (h1 : RecAt w.heap.size W' r u' b n' D' ys' f') (h2 : Fx (rF r b u) W W') (h3 : ∀ j ∈ own u', j ∈ own u ∨ W.heap.size ≤ j) : Hid (LkW w g v k xs r b u' n' D' ys' f' W') := by
  refine Lib.hid ⟨h.out.sd.keep h2 h.out.rc.nou8 h.out.dj, h1, fun j hj hj' => ?_, h.out.lo.trans (h2.below (fun j hj => (h.out.rc.lt j hj).2) h.out.lo.size)⟩
  rcases List.mem_cons.1 hj' with rfl | hj'
  · exact h.out.dj _ hj (by simp)
  rcases List.mem_cons.1 hj' with rfl | hj'
  · exact h.out.dj _ hj (by simp)
  · rcases h3 j hj' with e | e
    · exact h.out.dj j hj (List.mem_cons_of_mem _ (List.mem_cons_of_mem _ e))
    · exact absurd (h.out.sd.lt j hj).1 (Nat.not_lt.2 e)
/-- Put, of a body that is taken. -/
theorem lkwPut (h : Hid (LkW w g v k xs r b u n D ys f W)) (a : Option Addr) (len cap : Nat) (bs : List UInt8) (hs : Sl W 1 a len cap (cs b8 bs)) (h16 : xs.length < 16) (hlen : len ≤ 256) (hsum : k + xs.length < 1048576) (m : Int) (hm : (k : Int) + (xs.length : Int) = m) :
    Calls Try.prog 34 #[.pointer (some ⟨g, 0, none⟩), .slice a len cap] W (fun e W' => e = .returned (.tuple #[.int .i64 m, .int .i64 0]) ∧ ∃ v' x, x.bs = bs ∧ Hid (LkW w g v' k (xs ++ [x]) r b u n D ys f W') ∧ Hid (Tr (sF g v) (sF g v') W W')) := by
  subst hm
  refine (put_ok (lkwS h) a len cap bs hs h16 hlen hsum).mono ?_
  rintro e W' ⟨rfl, v', x, hx, h1, h2, h3⟩
  exact ⟨rfl, v', x, hx, lkwSend h h1.out h2.out h3.out, Lib.hid ⟨h2.out, trS h3.out, h.out.sd.nou8⟩⟩
theorem lkwAck (h : Hid (LkW w g v k xs r b u n D ys f W)) (m : Nat) (hm : 0 < m) (hml : m ≤ xs.length) (hk : (k : Int) ≤ 1048576 ∧ (xs.length : Int) ≤ 16) (q : Int) (hq : q = (k : Int) + (m : Int)) :
    Calls Try.prog 37 #[.pointer (some ⟨g, 0, none⟩), .int .i64 q] W (fun e W' => e = .returned (.int .i64 0) ∧ ∃ v', Hid (LkW w g v' (k + m) (xs.drop m) r b u n D ys f W') ∧ Hid (Tr (sF g v) (sF g v') W W')) := by
  refine (ack_more (lkwS h) q hq hm hml hk).mono ?_
  rintro e W' ⟨rfl, v', h1, h2, h3⟩
  exact ⟨rfl, v', lkwSend h h1.out h2.out (fun j hj => .inr (h3.out j hj)), Lib.hid ⟨h2.out, trS (fun j hj => .inr (h3.out j hj)), h.out.sd.nou8⟩⟩
theorem lkwNew (h : Hid (LkW w g v k xs r b u n D ys f W)) (s : Nat) (a : Option Addr) (len cap : Nat) (bs : List UInt8) (hs : Sl W 1 a len cap (cs b8 bs)) (h1 : (s : Int) < 1048576) (h2 : ¬ (256 : Int) < (len : Int)) (hx : (ys.length : Int) ≤ 1048576) (hxn : (n : Int) ≤ 100000) (h3 : ¬ (ys.length : Int) + 16 ≤ (s : Int))
    (hsn : ¬ s < ys.length) (hfs : f s = none) (hkey : ∀ k x, f k = some x → k < ys.length + 16) :
    Calls Try.prog 36 #[.pointer (some ⟨r, 0, none⟩), .agg #[.int .i64 (s : Int), .slice a len cap]] W (fun e W' => e = .returned (.int .i64 0) ∧ ∃ u' n' D' ys' f', n' ≤ n + 1 ∧ Hid ((ys'.map Bv.bs, absF f') = drain 17 (ys.map Bv.bs) (fun j => if j = s then some bs else absF f j)) ∧ Hid (LkW w g v k xs r b u' n' D' ys' f' W') ∧ Hid (Tr (rF r b u) (rF r b u') W W')) := by
  refine (take_new (lkwR h) s a len cap bs hs h1 h2 hx hxn h3 hsn hfs hkey).mono ?_
  rintro e W' ⟨rfl, v', n', D', xs', f', ht⟩
  exact ⟨rfl, v', n', D', xs', f', ht.out.cnt, Lib.hid ht.out.ans, lkwTake h ht.out.at_ ht.out.fx ht.out.fresh, Lib.hid ⟨ht.out.fx, trR ht.out.fresh, h.out.rc.nou8⟩⟩
end
/-- What Take says, what it leaves: all ways in one. -/
def takeA (o : List (List UInt8)) (q : Qf) (s : Int) (bs : List UInt8) : List (List UInt8) × Qf × Int :=
  if s < 0 ∨ 1048576 ≤ s ∨ 256 < bs.length then (o, q, 1)
  else if (o.length : Int) + 16 ≤ s then (o, q, 8)
  else if s.toNat < o.length then (o, q, if o.getD s.toNat [] = bs then 0 else 21)
  else match q s.toNat with
    | some x => (o, q, if x = bs then 0 else 21)
    | none => ((drain 17 o (fun j => if j = s.toNat then some bs else q j)).1, (drain 17 o (fun j => if j = s.toNat then some bs else q j)).2, 0)
theorem getD_map_bs (ys : List Bv) (s : Nat) (hs : s < ys.length) : (ys.map Bv.bs).getD s [] = (ys.getD s nilB).bs := by
  rw [List.getD_eq_getElem?_getD, List.getD_eq_getElem?_getD, List.getElem?_map, List.getElem?_eq_getElem hs]
  rfl
section
variable {w W W' : World} {g k r b n : Nat} {v u : Value} {xs ys : List Bv} {D : DataW Value} {f : Kf}
theorem lkwTakeAny (h : Hid (LkW w g v k xs r b u n D ys f W)) (s : Int) (a : Option Addr) (len cap : Nat) (bs : List UInt8) (hs : Sl W 1 a len cap (cs b8 bs)) (hx : (ys.length : Int) ≤ 1048576) (hxn : (n : Int) ≤ 100000)
    (hkey : ∀ k x, f k = some x → k < ys.length + 16) (o' : List (List UInt8)) (q' : Qf) (er : Int) (ht : Hid (takeA (ys.map Bv.bs) (absF f) s bs = (o', q', er))) :
    Calls Try.prog 36 #[.pointer (some ⟨r, 0, none⟩), .agg #[.int .i64 s, .slice a len cap]] W (fun e W' => e = .returned (.int .i64 er) ∧ ∃ u' n' D' ys' f', n' ≤ n + 1 ∧ Hid (ys'.map Bv.bs = o' ∧ absF f' = q') ∧ Hid (LkW w g v k xs r b u' n' D' ys' f' W') ∧ Hid (Tr (rF r b u) (rF r b u') W W')) := by
  have hlen := hs.count
  have same : ∀ er, takeA (ys.map Bv.bs) (absF f) s bs = (ys.map Bv.bs, absF f, er) → Calls Try.prog 36 #[.pointer (some ⟨r, 0, none⟩), .agg #[.int .i64 s, .slice a len cap]] W (RetB (.int .i64 er) W) → Calls Try.prog 36 #[.pointer (some ⟨r, 0, none⟩), .agg #[.int .i64 s, .slice a len cap]] W (fun e W' => e = .returned (.int .i64 er) ∧ ∃ u' n' D' ys' f', n' ≤ n + 1 ∧ Hid (ys'.map Bv.bs = o' ∧ absF f' = q') ∧ Hid (LkW w g v k xs r b u' n' D' ys' f' W') ∧ Hid (Tr (rF r b u) (rF r b u') W W')) := fun er e hc => by
    have := ht.out
    rw [e] at this
    obtain ⟨rfl, h2⟩ := Prod.mk.inj this
    obtain ⟨rfl, rfl⟩ := Prod.mk.inj h2
    refine hc.mono ?_
    rintro e W' ⟨rfl, hb⟩
    exact ⟨rfl, u, n, D, ys, f, Nat.le_succ n, Lib.hid ⟨rfl, rfl⟩, lkwBelow hb h, Lib.hid ⟨Fx.ofBelow hb, fun j hj => .inl hj, h.out.rc.nou8⟩⟩
  have fin : ∀ er0, takeA (ys.map Bv.bs) (absF f) s bs = (ys.map Bv.bs, absF f, er0) → er = er0 := fun er0 e => by
    have := ht.out
    rw [e] at this
    exact (Prod.mk.inj (Prod.mk.inj this).2).2.symm
  by_cases h1 : s < 0
  · have e : takeA (ys.map Bv.bs) (absF f) s bs = (ys.map Bv.bs, absF f, 1) := by unfold takeA; rw [if_pos (.inl h1)]
    obtain rfl := fin 1 e
    exact same 1 e (take_neg W r s a len cap h1)
  by_cases h2 : 1048576 ≤ s
  · have e : takeA (ys.map Bv.bs) (absF f) s bs = (ys.map Bv.bs, absF f, 1) := by unfold takeA; rw [if_pos (.inr (.inl h2))]
    obtain rfl := fin 1 e
    exact same 1 e (take_big W r s a len cap h1 h2)
  by_cases h3 : 256 < bs.length
  · have e : takeA (ys.map Bv.bs) (absF f) s bs = (ys.map Bv.bs, absF f, 1) := by unfold takeA; rw [if_pos (.inr (.inr h3))]
    obtain rfl := fin 1 e
    exact same 1 e (take_long W r s a len cap h1 h2 (by omega))
  have hno : ¬ (s < 0 ∨ 1048576 ≤ s ∨ 256 < bs.length) := fun e => e.elim h1 (fun e => e.elim h2 h3)
  obtain ⟨q, rfl⟩ : ∃ q : Nat, s = (q : Int) := ⟨s.toNat, by omega⟩
  by_cases h4 : (ys.length : Int) + 16 ≤ (q : Int)
  · have e : takeA (ys.map Bv.bs) (absF f) (q : Int) bs = (ys.map Bv.bs, absF f, 8) := by unfold takeA; rw [if_neg hno, if_pos (by rw [List.length_map]; exact h4)]
    obtain rfl := fin 8 e
    exact same 8 e (take_full (lkwR h) q a len cap (by omega) (by omega) hx h4)
  by_cases h5 : q < ys.length
  · have e : takeA (ys.map Bv.bs) (absF f) (q : Int) bs = (ys.map Bv.bs, absF f, if (ys.getD q nilB).bs = bs then 0 else 21) := by
      unfold takeA
      rw [if_neg hno, if_neg (by rw [List.length_map]; exact h4), if_pos (by rw [List.length_map, Int.toNat_natCast]; exact h5), Int.toNat_natCast, getD_map_bs ys q h5]
    obtain rfl := fin _ e
    exact same _ e (take_known (lkwR h) q a len cap bs hs (by omega) (by omega) hx h4 (ys.getD q nilB) (h.out.rc.bds _ (by rw [List.getD_eq_getElem?_getD, List.getElem?_eq_getElem h5]; exact List.getElem_mem _)) (fun W' h' => known_out h' q h5))
  cases hfq : f q with
  | some x =>
    have e : takeA (ys.map Bv.bs) (absF f) (q : Int) bs = (ys.map Bv.bs, absF f, if x.bs = bs then 0 else 21) := by
      unfold takeA
      rw [if_neg hno, if_neg (by rw [List.length_map]; exact h4), if_neg (by rw [List.length_map, Int.toNat_natCast]; exact h5), Int.toNat_natCast, show absF f q = some x.bs from by unfold absF; rw [hfq]; rfl]
    obtain rfl := fin _ e
    exact same _ e (take_known (lkwR h) q a len cap bs hs (by omega) (by omega) hx h4 x (h.out.rc.kb q x hfq) (fun W' h' => by have := known_map h' q h5 (by omega); rw [hfq] at this; exact this))
  | none =>
    have e : takeA (ys.map Bv.bs) (absF f) (q : Int) bs = ((drain 17 (ys.map Bv.bs) (fun j => if j = q then some bs else absF f j)).1, (drain 17 (ys.map Bv.bs) (fun j => if j = q then some bs else absF f j)).2, 0) := by
      unfold takeA
      rw [if_neg hno, if_neg (by rw [List.length_map]; exact h4), if_neg (by rw [List.length_map, Int.toNat_natCast]; exact h5), Int.toNat_natCast, show absF f q = none from by unfold absF; rw [hfq]; rfl]
    have := ht.out
    rw [e] at this
    obtain ⟨ho, h2⟩ := Prod.mk.inj this
    obtain ⟨hq, rfl⟩ := Prod.mk.inj h2
    refine (lkwNew h q a len cap bs hs (by omega) (by omega) hx hxn h4 h5 hfq hkey).mono ?_
    rintro e W' ⟨rfl, u', n', D', ys', f', hn, ha, hl, htr⟩
    refine ⟨rfl, u', n', D', ys', f', hn, Lib.hid ?_, hl, htr⟩
    rw [← ho, ← hq, ← ha.out]
    exact ⟨rfl, rfl⟩
end
section
variable {B : Nat} {W W' : World} {r b n : Nat} {u : Value} {ys : List Bv} {D : DataW Value} {f : Kf}
end
end Go.Proofs.Ytpmjgiabedjlgaa
