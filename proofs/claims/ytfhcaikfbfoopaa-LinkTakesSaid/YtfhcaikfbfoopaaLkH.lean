/-
  LINK, THE LAWS: LinkSends (what lies in memory; the calls).
-/
import Derived.Test.YtfhcaikfbfoopaaProg
import Derived.Test.YtfhcaikfbfoopaaBase1
import Derived.Test.YtfhcaikfbfoopaaBase2
import Derived.Test.YtfhcaikfbfoopaaBase3
import Derived.Test.YtfhcaikfbfoopaaBase5
import Derived.Test.YtfhcaikfbfoopaaBase6
import Derived.Test.YtfhcaikfbfoopaaBase11
import Derived.Test.YtfhcaikfbfoopaaBase13
import Derived.Test.YtfhcaikfbfoopaaBase14
import Derived.Test.YtfhcaikfbfoopaaHeld
import Derived.Test.YtfhcaikfbfoopaaFlat
import Derived.Test.YtfhcaikfbfoopaaLkP
import Derived.Test.YtfhcaikfbfoopaaLk1
import Derived.Test.YtfhcaikfbfoopaaLk2
import Derived.Test.YtfhcaikfbfoopaaLk3
import Derived.Test.YtfhcaikfbfoopaaLk6
import Derived.Test.YtfhcaikfbfoopaaLk9
import Derived.Test.YtfhcaikfbfoopaaLk4
import Derived.Test.YtfhcaikfbfoopaaLkS
import Derived.Test.YtfhcaikfbfoopaaLkM
import Derived.Test.YtfhcaikfbfoopaaLkF
import Derived.Test.YtfhcaikfbfoopaaLkG
import Derived.Test.YtfhcaikfbfoopaaLkA
import Derived.BigQuiet
import Derived.Laws.StructEq
import Derived.StillTailTactics
import Derived.RegionTactic
import Derived.BigRegion
import Derived.Deep.RegionHeld3
import Derived.Deep.RegionLaw
import Derived.Deep.DeepCutAuto
import Derived.Deep.QuietTactic
import Derived.WalkSpells
import Derived.WalkLawsBesides
namespace Go.Proofs.Ytfhcaikfbfoopaa
open Go.RowKit Go.Maps
set_option linter.unusedVariables false

/-- A call of the sender as it lies. -/
structure OpS where
  k : Int
  n : Int
  b : Bv
def opS (o : OpS) : Array Value := #[.int .i64 o.k, .int .i64 o.n, bsv o.b]
def OpS.zero : OpS := ⟨0, 0, nilB⟩
/-- The sender and the reference's, in one memory. -/
structure SnM (w : World) (g : Nat) (v : Value) (k : Nat) (xs : List Bv) (h : Nat) (sv : Value) (kr : Nat) (all : List (List UInt8)) (W : World) : Prop where
  sd : SendAt w.heap.size W g v k xs
  st : W.ownsRow w.heap.size 9 1 sv all.length (cs stb all)
  blk : W.heap[h]? = some (.cells #[sv, .int .i64 (kr : Int)] 35)
  lo : Below w.heap.size w W
  hh : w.heap.size ≤ h
structure SnA (k : Nat) (xs : List Bv) (all : List (List UInt8)) (cnt : Nat) : Prop where
  xe : xs.map Bv.bs = all.drop k
  kle : k + xs.length = all.length
  x16 : xs.length ≤ 16
  len : ∀ b ∈ all, b.length ≤ 256
  sz : all.length ≤ cnt
section
variable {w W W' : World} {g k h kr : Nat} {v sv : Value} {xs : List Bv} {all : List (List UInt8)}
theorem snBelow (s : Hid (SnM w g v k xs h sv kr all W)) (hb : Below W.heap.size W W') : Hid (SnM w g v k xs h sv kr all W') := Lib.hid ⟨s.out.sd.below hb, ownsRow_ext s.out.st hb, blk_keepF (L := []) s.out.blk (Fx.ofBelow hb) (by simp), below_step s.out.lo hb, s.out.hh⟩
theorem snSend {v' : Value} {k' : Nat} {xs' : List Bv} (s : Hid (SnM w g v k xs h sv kr all W)) (h1 : SendAt w.heap.size W' g v' k' xs') (fx : Fx (sF g v) W W') : Hid (SnM w g v' k' xs' h sv kr all W') :=
  Lib.hid ⟨h1, own_keepT s.out.st fx (noTy_s s.out.sd _ (by decide) (by decide)), blk_keepF s.out.blk fx (notin_of s.out.blk (noTy_s s.out.sd _ (by decide) (by decide))), s.out.lo.trans (fx.below (fun j hj => (s.out.sd.lt j hj).2) s.out.lo.size), s.out.hh⟩
theorem snCells (s : Hid (SnM w g v k xs h sv kr all W)) : W.cell? ⟨h, 0, none⟩ = some sv ∧ W.cell? ⟨h, 1, none⟩ = some (.int .i64 (kr : Int)) ∧ W.frozen? ⟨h, 0, none⟩ = false ∧ W.frozen? ⟨h, 1, none⟩ = false := two_facts ⟨_, s.out.blk⟩
/-- The reference's new value is stored. -/
theorem snSet {sv' : Value} {kr' : Nat} {all' : List (List UInt8)} (s : Hid (SnM w g v k xs h sv kr all W)) (hst : W.ownsRow w.heap.size 9 1 sv' all'.length (cs stb all')) : Hid (SnM w g v k xs h sv' kr' all' ((W.setCell ⟨h, 0, none⟩ sv').setCell ⟨h, 1, none⟩ (.int .i64 (kr' : Int)))) := by
  have fx : Fx [h] W ((W.setCell ⟨h, 0, none⟩ sv').setCell ⟨h, 1, none⟩ (.int .i64 (kr' : Int))) := ((Fx.refl [h] W).setCell (by simp)).setCell (by simp)
  have nt : ∀ e', 35 ≠ e' → NoTy e' W [h] := fun e' he => noTy_blk s.out.blk he
  refine Lib.hid ⟨s.out.sd.keep fx (nt _ (by decide)) (fun j hj hj' => ?_), own_keepT hst fx (nt _ (by decide)), ?_, (s.out.lo.setCell (p := ⟨h, 0, none⟩) s.out.hh _).setCell (p := ⟨h, 1, none⟩) s.out.hh _, s.out.hh⟩
  · obtain rfl : j = h := by simpa using hj'
    exact noTy_s s.out.sd 35 (by decide) (by decide) j hj _ _ s.out.blk
  · have h1 := heap_setCell_same W h 0 _ _ sv' s.out.blk
    have h2 := heap_setCell_same _ h 1 _ _ (.int .i64 (kr' : Int)) h1
    simpa using h2
theorem snForm (s : Hid (SnM w g v k xs h sv kr all W)) : ∃ a c, sv = .slice a all.length c ∧ Sl W 1 a all.length c (cs stb all) := by
  obtain ⟨ao, cap, e, hs⟩ := sl_of_own s.out.st
  exact ⟨ao, cap, e, hs⟩
end
theorem sna_put {k cnt : Nat} {xs : List Bv} {all : List (List UInt8)} (h : SnA k xs all cnt) (x : Bv) (hx : x.bs.length ≤ 256) (h16 : xs.length < 16) : SnA k (xs ++ [x]) (all ++ [x.bs]) (cnt + 1) := by
  refine ⟨?_, ?_, ?_, fun b hb => ?_, ?_⟩
  · rw [List.map_append, List.drop_append_of_le_length (by have := h.kle; omega), h.xe]; rfl
  · have := h.kle; simp; omega
  · simp; omega
  · rcases List.mem_append.1 hb with hb | hb
    · exact h.len b hb
    · simp at hb; subst hb; exact hx
  · have := h.sz; simp; omega
theorem sna_ack {k m cnt : Nat} {xs : List Bv} {all : List (List UInt8)} (h : SnA k xs all cnt) (hm : m ≤ xs.length) : SnA (k + m) (xs.drop m) all cnt := by
  refine ⟨?_, ?_, ?_, h.len, h.sz⟩
  · rw [List.map_drop, h.xe, List.drop_drop]
  · have := h.kle; rw [List.length_drop]; omega
  · have := h.x16; rw [List.length_drop]; omega
theorem sna_next {k cnt : Nat} {xs : List Bv} {all : List (List UInt8)} (h : SnA k xs all cnt) : SnA k xs all (cnt + 1) := ⟨h.xe, h.kle, h.x16, h.len, Nat.le_succ_of_le h.sz⟩
theorem sna_small {k cnt : Nat} {xs : List Bv} {all : List (List UInt8)} (h : SnA k xs all cnt) : ∀ x ∈ xs, x.bs.length ≤ 256 := fun x hx => by
  have : x.bs ∈ all.drop k := by rw [← h.xe]; exact List.mem_map.2 ⟨x, hx, rfl⟩
  exact h.len _ (List.mem_of_mem_drop this)
/-- The law's state between two calls. -/
def SnS (w : World) (g h cnt : Nat) (W : World) : Prop := ∃ (v : Value) (k : Nat) (xs : List Bv) (sv : Value) (all : List (List UInt8)), SnM w g v k xs h sv k all W ∧ SnA k xs all cnt
theorem snsStart {w w1 : World} (h1 : Hid (SendAt w.heap.size w1 w.heap.size (.slice none 0 0) 0 [])) (hb1 : Below w.heap.size w w1) : Hid (SnS w w.heap.size w1.heap.size 0 (w1.alloc (.cells #[.slice none 0 0, .int .i64 0] 35))) :=
  Lib.hid ⟨.slice none 0 0, 0, [], .slice none 0 0, [], ⟨h1.out.below (below_alloc _ _), World.ownsRow_nil _ _ _ _, hp_new rfl, below_step hb1 (below_alloc _ _), hb1.size⟩, rfl, rfl, by decide, fun b hb => by simp at hb, Nat.le_refl _⟩
theorem sns_below {w W W' : World} {g h cnt : Nat} (s : Hid (SnS w g h cnt W)) (hb : Below W.heap.size W W') : Hid (SnS w g h cnt W') := by
  obtain ⟨v, k, xs, sv, all, hM, hA⟩ := s.out
  exact Lib.hid ⟨v, k, xs, sv, all, (snBelow (Lib.hid hM) hb).out, hA⟩
theorem sns_lo {w W : World} {g h cnt : Nat} (s : Hid (SnS w g h cnt W)) : Below w.heap.size w W := by
  obtain ⟨v, k, xs, sv, all, hM, hA⟩ := s.out
  exact hM.lo
section
variable {w W W' : World} {g k h cnt : Nat} {v sv : Value} {xs : List Bv} {all : List (List UInt8)}
/-- What Put does on both sides. -/
theorem sn_put_any {sa : Option Addr} {sc : Nat} {W0 : World} (s : Hid (SnM w g v k xs h (.slice sa all.length sc) k all W0)) (hA : Hid (SnA k xs all cnt)) (hc : cnt ≤ 900) (a : Option Addr) (bs : List UInt8) (cap : Nat) : ∃ (m er : Int) (all' : List (List UInt8)), all'.length ≤ all.length + 1 ∧
    Hid (∀ W', Hid (SnM w g v k xs h (.slice sa all.length sc) k all W') → Sl W' 1 a bs.length cap (cs b8 bs) → Calls Try.prog 21 #[.pointer (some ⟨g, 0, none⟩), .slice a bs.length cap] W' (fun e W'' => e = .returned (.tuple #[.int .i64 m, .int .i64 er]) ∧ ∃ v' xs', Hid (SnM w g v' k xs' h (.slice sa all.length sc) k all W'') ∧ Hid (SnA k xs' all' (cnt + 1)))) ∧
    Hid (∀ W' v' xs', Hid (SnM w g v' k xs' h (.slice sa all.length sc) k all W') → Sl W' 1 a bs.length cap (cs b8 bs) → Calls Try.prog 22 #[.agg #[.slice sa all.length sc, .int .i64 (k : Int)], .slice a bs.length cap] W' (fun e W'' => ∃ a' c', e = .returned (.tuple #[.agg #[.slice a' all'.length c', .int .i64 (k : Int)], .int .i64 m, .int .i64 er]) ∧ Hid (W''.ownsRow w.heap.size 9 1 (.slice a' all'.length c') all'.length (cs stb all')) ∧ Below W'.heap.size W' W'')) := by
  have hk := hA.out.kle
  have hsz := hA.out.sz
  have h16 := hA.out.x16
  by_cases hf : xs.length = 16
  · refine ⟨0, 8, all, by omega, Lib.hid (fun W' s' hs => ?_), Lib.hid (fun W' v' xs' s' hs => ?_)⟩
    · refine (put_full (Lib.hid s'.out.sd) a bs.length cap (by omega)).mono ?_
      rintro e W'' ⟨rfl, rfl⟩
      exact ⟨rfl, v, xs, s', Lib.hid (sna_next hA.out)⟩
    · refine (refPut_full W' sa all.length sc k a bs.length cap (by omega) (by omega)).mono ?_
      rintro e W'' ⟨rfl, hb⟩
      exact ⟨sa, sc, rfl, Lib.hid (ownsRow_ext s'.out.st hb), hb⟩
  by_cases hl : (256 : Int) < (bs.length : Int)
  · refine ⟨0, 1, all, by omega, Lib.hid (fun W' s' hs => ?_), Lib.hid (fun W' v' xs' s' hs => ?_)⟩
    · refine (put_long (Lib.hid s'.out.sd) a bs.length cap (by omega) hl).mono ?_
      rintro e W'' ⟨rfl, rfl⟩
      exact ⟨rfl, v, xs, s', Lib.hid (sna_next hA.out)⟩
    · refine (refPut_long W' sa all.length sc k a bs.length cap (by omega) hl (by omega)).mono ?_
      rintro e W'' ⟨rfl, hb⟩
      exact ⟨sa, sc, rfl, Lib.hid (ownsRow_ext s'.out.st hb), hb⟩
  refine ⟨(k : Int) + (xs.length : Int), 0, all ++ [bs], by simp, Lib.hid (fun W' s' hs => ?_), Lib.hid (fun W' v' xs' s' hs => ?_)⟩
  · refine (put_ok (Lib.hid s'.out.sd) a bs.length cap bs hs (by omega) (by omega) (by omega)).mono ?_
    rintro e W'' ⟨rfl, v', x, hx, h1, h2, h3⟩
    have := sna_put hA.out x (by rw [hx]; omega) (by omega)
    rw [hx] at this
    exact ⟨rfl, v', xs ++ [x], snSend s' h1.out h2.out, Lib.hid this⟩
  · obtain ⟨a2, c2, e2, hsl⟩ := snForm s'
    cases e2
    refine (refPut_ok W' sa all.length sc k all a bs.length cap bs (by omega) hl (by omega) hsl hs).mono ?_
    rintro e W'' ⟨a', c', rfl, hst, hb⟩
    have hl1 : (all ++ [bs]).length = all.length + 1 := by simp
    rw [hl1, show (k : Int) + (xs.length : Int) = (all.length : Int) from by omega]
    exact ⟨a', c', rfl, Lib.hid (ownsRow_mono hst.out s'.out.lo.size), hb⟩
/-- What Ack does on both sides. -/
theorem sn_ack_any {sa : Option Addr} {sc : Nat} {W0 : World} (s : Hid (SnM w g v k xs h (.slice sa all.length sc) k all W0)) (hA : Hid (SnA k xs all cnt)) (hc : cnt ≤ 900) (N : Int) : ∃ (er : Int) (k' : Nat), 
    Hid (∀ W', Hid (SnM w g v k xs h (.slice sa all.length sc) k all W') → Calls Try.prog 23 #[.pointer (some ⟨g, 0, none⟩), .int .i64 N] W' (fun e W'' => e = .returned (.int .i64 er) ∧ ∃ v' xs', Hid (SnM w g v' k' xs' h (.slice sa all.length sc) k all W'') ∧ Hid (SnA k' xs' all (cnt + 1)))) ∧
    Hid (∀ W', Calls Try.prog 24 #[.agg #[.slice sa all.length sc, .int .i64 (k : Int)], .int .i64 N] W' (RetB (.tuple #[.agg #[.slice sa all.length sc, .int .i64 (k' : Int)], .int .i64 er]) W')) := by
  have hk := hA.out.kle
  have hsz := hA.out.sz
  have h16 := hA.out.x16
  by_cases h1 : N < 0
  · refine ⟨1, k, Lib.hid (fun W' s' => ?_), Lib.hid (fun W' => refAck_bad W' sa all.length sc (k : Int) N (Lib.hid (.inl h1)))⟩
    refine (ack_neg W' g N h1).mono ?_
    rintro e W'' ⟨rfl, rfl⟩
    exact ⟨rfl, v, xs, s', Lib.hid (sna_next hA.out)⟩
  by_cases h2 : (all.length : Int) < N
  · refine ⟨1, k, Lib.hid (fun W' s' => ?_), Lib.hid (fun W' => refAck_bad W' sa all.length sc (k : Int) N (Lib.hid (.inr h2)))⟩
    refine (ack_over (Lib.hid s'.out.sd) N (by omega) (by omega)).mono ?_
    rintro e W'' ⟨rfl, hb⟩
    exact ⟨rfl, v, xs, snBelow s' hb, Lib.hid (sna_next hA.out)⟩
  by_cases h3 : N ≤ (k : Int)
  · refine ⟨0, k, Lib.hid (fun W' s' => ?_), Lib.hid (fun W' => refAck_ok W' sa all.length sc (k : Int) N (k : Int) h1 h2 (by rw [if_neg (by omega)]))⟩
    refine (ack_same (Lib.hid s'.out.sd) N (by omega) h3 (by omega)).mono ?_
    rintro e W'' ⟨rfl, hb⟩
    exact ⟨rfl, v, xs, snBelow s' hb, Lib.hid (sna_next hA.out)⟩
  obtain ⟨q, rfl⟩ : ∃ q : Nat, N = (k : Int) + (q : Int) := ⟨(N - k).toNat, by omega⟩
  refine ⟨0, k + q, Lib.hid (fun W' s' => ?_), Lib.hid (fun W' => refAck_ok W' sa all.length sc (k : Int) _ ((k + q : Nat) : Int) h1 h2 (by rw [if_pos (by omega)]; omega))⟩
  refine (ack_more (m := q) (Lib.hid s'.out.sd) _ rfl (by omega) (by omega) (by omega)).mono ?_
  rintro e W'' ⟨rfl, v', h4, h5, h6⟩
  exact ⟨rfl, v', xs.drop q, snSend s' h4.out h5.out, Lib.hid (sna_next (sna_ack hA.out (by omega)))⟩
/-- The reference's value in a variable of its own: behind the call. -/
theorem sn_leaf1 {sv' : Value} {k' kr : Nat} {all' : List (List UInt8)} {w4 : World} (s : Hid (SnM w g v k xs h sv kr all W)) (hb : Below W.heap.size W w4) (hst : Hid (w4.ownsRow w.heap.size 9 1 sv' all'.length (cs stb all'))) :
    Hid (SnM w g v k xs h sv kr all (w4.alloc (.cells #[sv', .int .i64 (k' : Int)] 35))) ∧ Hid ((w4.alloc (.cells #[sv', .int .i64 (k' : Int)] 35)).ownsRow w.heap.size 9 1 sv' all'.length (cs stb all')) ∧ Hid (BlkAt (w4.alloc (.cells #[sv', .int .i64 (k' : Int)] 35)) w4.heap.size #[sv', .int .i64 (k' : Int)]) :=
  ⟨snBelow s (below_step hb (below_alloc _ _)), Lib.hid (ownsRow_ext hst.out (below_alloc _ _)), Lib.hid (blkNew rfl)⟩
theorem sn_leaf2 {sv' x y : Value} {k' kr nb : Nat} {all' : List (List UInt8)} {w4 : World} (s : Hid (SnM w g v k xs h sv kr all W)) (hb : Below W.heap.size W w4) (hnb : W.heap.size ≤ nb) (hz : w4.heap[nb]? = some (.cells #[x, y] 35)) (hst : Hid (w4.ownsRow w.heap.size 9 1 sv' all'.length (cs stb all'))) :
    Hid (SnM w g v k xs h sv kr all ((w4.setCell ⟨nb, 0, none⟩ sv').setCell ⟨nb, 1, none⟩ (.int .i64 (k' : Int)))) ∧ Hid (((w4.setCell ⟨nb, 0, none⟩ sv').setCell ⟨nb, 1, none⟩ (.int .i64 (k' : Int))).ownsRow w.heap.size 9 1 sv' all'.length (cs stb all')) ∧ Hid (BlkAt ((w4.setCell ⟨nb, 0, none⟩ sv').setCell ⟨nb, 1, none⟩ (.int .i64 (k' : Int))) nb #[sv', .int .i64 (k' : Int)]) := by
  refine ⟨snBelow s ((hb.setCell (p := ⟨nb, 0, none⟩) hnb _).setCell (p := ⟨nb, 1, none⟩) hnb _), Lib.hid (own_keepT hst.out (L := [nb]) (((Fx.refl [nb] w4).setCell (by simp)).setCell (by simp)) (noTy_blk hz (by decide))), Lib.hid ⟨35, ?_⟩⟩
  have h1 := heap_setCell_same w4 nb 0 _ _ sv' hz
  have h2 := heap_setCell_same _ nb 1 _ _ (.int .i64 (k' : Int)) h1
  simpa using h2
end
end Go.Proofs.Ytfhcaikfbfoopaa
