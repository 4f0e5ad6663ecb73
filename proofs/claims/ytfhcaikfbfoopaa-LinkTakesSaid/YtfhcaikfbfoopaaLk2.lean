/-
  LINK: Put.
-/
import Derived.Test.YtfhcaikfbfoopaaProg
import Derived.Test.YtfhcaikfbfoopaaBase1
import Derived.Test.YtfhcaikfbfoopaaBase2
import Derived.Test.YtfhcaikfbfoopaaBase3
import Derived.Test.YtfhcaikfbfoopaaBase5
import Derived.Test.YtfhcaikfbfoopaaBase6
import Derived.Test.YtfhcaikfbfoopaaBase11
import Derived.Test.YtfhcaikfbfoopaaHeld
import Derived.Test.YtfhcaikfbfoopaaLkP
import Derived.Test.YtfhcaikfbfoopaaLk1
import Derived.Test.YtfhcaikfbfoopaaBase14
import Derived.BigQuiet
import Derived.Laws.StructEq
import Derived.StillTailTactics
import Derived.RegionTactic
import Derived.BigRegion
import Derived.Deep.RegionHeld3
import Derived.Deep.RegionLaw
import Derived.Deep.DeepCutAuto
import Derived.Deep.QuietTactic
import Derived.WalkSpells
import Derived.WalkLawsBesides
namespace Go.Proofs.Ytfhcaikfbfoopaa
open Go.RowKit Go.Maps
set_option linter.unusedVariables false

theorem sndRow {B : Nat} {W : World} {g k : Nat} {v : Value} {xs : List Bv} (h : Hid (SendAt B W g v k xs)) : W.ownsRow B 22 1 v xs.length (cs bsv xs) := h.out.row
theorem sndDrew {B : Nat} {W : World} {g k : Nat} {v : Value} {xs : List Bv} (h : Hid (SendAt B W g v k xs)) : Hid (SendAt B W.drew g v k xs) := Lib.hid (h.out.below (below_drew (Below.refl _ _)))
theorem sndAlloc {B : Nat} {W : World} {o : Obj} {g k : Nat} {v : Value} {xs : List Bv} (h : Hid (SendAt B W g v k xs)) : Hid (SendAt B (W.alloc o) g v k xs) := Lib.hid (h.out.below (below_alloc _ _))
theorem sndBelow {B : Nat} {W W' : World} {g k : Nat} {v : Value} {xs : List Bv} (hb : Below W.heap.size W W') (h : Hid (SendAt B W g v k xs)) : Hid (SendAt B W' g v k xs) := Lib.hid (h.out.below hb)
theorem bsv_all (x : Bv) : ∀ u ∈ (#[bsv x] : Array Value).toList, u.oneCell' = true := by
  intro u hu
  simp at hu
  subst hu
  rfl
theorem infoB : (Try.prog.info? 22).map (fun i => (i.zero, i.size, i.bytes)) = some (some (.slice none 0 0), 1, 24) := by kernel_rfl
theorem sl_oneB {W : World} {k : Nat} {x : Bv} (h : BlkAt W k #[bsv x]) : Sl W 1 (some ⟨k, 0, none⟩) 1 1 (cs bsv [x]) := by
  obtain ⟨E, h⟩ := h
  refine ⟨rfl, Nat.le_refl _, by unfold maxLen; omega, (fun h => by cases h), fun j u hj => ⟨k, 0, rfl, ?_⟩⟩
  rw [Nat.zero_add, cell_of_row _ _ _ _ _ _ h]
  simpa [cs] using hj
/-- What Put leaves. -/
def PutRet (B g k : Nat) (v : Value) (xs : List Bv) (bs : List UInt8) (W : World) (e : Ending) (W' : World) : Prop :=
  e = .returned (.tuple #[.int .i64 ((k : Int) + (xs.length : Int)), .int .i64 0]) ∧ ∃ v' x, x.bs = bs ∧ Hid (SendAt B W' g v' k (xs ++ [x])) ∧ Hid (Fx (sF g v) W W') ∧ Hid (∀ j ∈ own v', j ∈ own v ∨ W.heap.size ≤ j)
theorem put_done {B g k : Nat} {v v' : Value} {xs : List Bv} {x : Bv} {bs : List UInt8} {W W1 W2 W3 : World} (h : Hid (SendAt B W g v k xs)) (hx : x.bs = bs) (hb1 : Below W.heap.size W W1) (hbd : BdOk W1 W.heap.size x) (hb2 : Below W1.heap.size W1 W2)
    (ho : W3.ownsRow B 22 1 v' (xs.length + 1) (cs bsv xs ++ [bsv x])) (hg : W2.grownBy W3 v.ownBlock) (hf : Fresh W2 v v') : ∃ u x, x.bs = bs ∧ Hid (SendAt B (W3.setCell ⟨g, 1, none⟩ v') g u k (xs ++ [x])) ∧ Hid (Fx (sF g v) W (W3.setCell ⟨g, 1, none⟩ v')) ∧ Hid (∀ j ∈ own u, j ∈ own v ∨ W.heap.size ≤ j) := by
  have hB : B ≤ W.heap.size := Nat.le_trans h.out.hB (Nat.le_of_lt (h.out.lt g (by simp)).1)
  have hb12 := below_step hb1 hb2
  have s1 := h.out.below hb1
  have f3 : Fx (own v) W W3 := (Fx.ofBelow (L := own v) hb12).trans (Fx.ofGrown (L := own v) hg (fun k e => mem_own.2 e)) (fun k hk => .inl hk)
  have f13 : Fx (own v) W1 W3 := (Fx.ofBelow (L := own v) hb2).trans (Fx.ofGrown (L := own v) hg (fun k e => mem_own.2 e)) (fun k hk => .inl hk)
  have f4 : Fx (sF g v) W (W3.setCell ⟨g, 1, none⟩ v') := (f3.mono (fun k hk => List.mem_cons_of_mem _ hk)).setCell (by simp)
  have f14 : Fx (sF g v) W1 (W3.setCell ⟨g, 1, none⟩ v') := (f13.mono (fun k hk => List.mem_cons_of_mem _ hk)).setCell (by simp)
  have e3 : W3.heap[g]? = some (.cells #[.int .i64 (k : Int), v] 91) := blk_keepF h.out.blk f3 h.out.gne
  have hgv : ∀ j, v'.ownBlock = some j → j ∉ [g] := fun j hj hm => by
    obtain rfl : j = g := by simpa using hm
    obtain ⟨_, _, C', fz', e'⟩ := own_ltF ho hj
    rw [e3] at e'; exact absurd (Obj.cells.inj (Option.some.inj e')).2.1 (by decide)
  refine ⟨v', x, hx, Lib.hid ⟨?_, ?_, ?_, h.out.hB⟩, Lib.hid f4, Lib.hid (fun j hj => ?_)⟩
  · have := heap_setCell_same W3 g 1 _ _ v' e3
    simpa using this
  · rw [cs_append, List.length_append]
    exact own_keepF (L := [g]) ho ((Fx.refl [g] W3).setCell (by simp)) hgv
  · intro y hy
    rcases List.mem_append.1 hy with hy | hy
    · exact (h.out.bds y hy).keep f4 h.out.nou8
    · simp at hy; subst hy
      exact (hbd.lower hB).keep f14 s1.nou8
  · rcases hf j (mem_own.1 hj) with e | e
    · exact .inl (mem_own.2 e)
    · exact .inr (Nat.le_trans hb12.size e)
set_option maxRecDepth 100000 in
set_option maxHeartbeats 4000000 in
theorem put_ok {B : Nat} {W : World} {g k : Nat} {v : Value} {xs : List Bv} (h : Hid (SendAt B W g v k xs)) (a : Option Addr) (len cap : Nat) (bs : List UInt8) (hs : Sl W 1 a len cap (cs b8 bs)) (h16 : xs.length < 16) (hlen : len ≤ 256) (hsum : k + xs.length < 1048576) :
    Calls Try.prog 21 #[.pointer (some ⟨g, 0, none⟩), .slice a len cap] W (PutRet B g k v xs bs W) := by
  obtain ⟨c0, c1, _, f1⟩ := h.out.cells
  obtain ⟨va, vc, e, _⟩ := h.out.form
  subst e
  have h16' : ¬ (16 : Int) ≤ (xs.length : Int) := by omega
  have hl' : ¬ (256 : Int) < (len : Int) := by omega
  have hx0 : (0 : Int) ≤ (xs.length : Int) := by omega
  obtain ⟨S, hS⟩ : ∃ S : Int, (k : Int) + (xs.length : Int) = S := ⟨_, rfl⟩
  have hsum' : ¬ (1048576 : Int) ≤ S := by omega
  have HNX : Hid (∀ W', Hid (SendAt B W' g (.slice va xs.length vc) k xs) → Calls Try.prog 44 #[.pointer (some ⟨g, 0, none⟩)] W' (fun e W'' => e = .returned (.int .i64 S) ∧ ∃ n, W'' = W'.drewN n)) := fun W' h' => by
    have := next_any h' (show (k : Int) ≤ 1048576 ∧ (xs.length : Int) ≤ 16 by omega)
    rw [hS] at this
    exact this
  have HSU := Lib.hid hS
  clear hS hx0
  have HK := Lib.hid (show (k : Int) ≤ 1048576 ∧ (xs.length : Int) ≤ 16 by omega)
  have HS := Lib.hid hs
  clear hs
  go_enter Try.func21, Try.ntmps21
  go_wp2_with fail
  refine (HNX.out _ h).mono ?_
  rintro e w1 ⟨rfl, n1, rfl⟩
  have HA := Lib.hid (h.out.below (below_drewN (Below.refl _ _) n1))
  go_wp2_with fail
  refine (HNX.out _ HA).mono ?_
  rintro e w1 ⟨rfl, n2, rfl⟩
  have HB0 := Lib.hid (below_drewN (Below.refl W.heap.size W) (n1 + n2))
  have HW := Lib.hid (h.out.below HB0.out)
  have HSW := Lib.hid (HS.out.ext HB0.out)
  obtain ⟨c0', c1', _, f1'⟩ := HW.out.cells
  go_upto_region 8 with (fail)
  clear c0 c1 f1 HA
  generalize W.drewN (n1 + n2) = W2 at *
  have hgW2 : g < W2.heap.size := (HW.out.lt g (by simp)).1
  have hBg : B ≤ g := HW.out.hB
  have hgne : some g ≠ (Value.slice va xs.length vc).ownBlock := fun e => HW.out.gne (mem_own.2 e.symm)
  have HCL : Hid (∀ W', Below W2.heap.size W2 W' → Calls Try.prog 45 #[.slice a len cap] W' (RetBd bs W')) := fun W' hb => clone_any W' a len cap bs (HSW.out.ext hb) (by omega)
  go_region_law (first
    | ((rw [if_pos (by simp [Region.wanted])]); go_simp; go_at_call 45; (with_reducible refine (HCL.out _ ?_).mono ?_); (focus (first | exact below_drew (Below.refl _ _) | exact Below.refl _ _)); rintro e w5 ⟨xa, xc, rfl, hbd5, hb5⟩; have c5 := cell_keep hb5 c1'; have f5 := (hb5.frozen hgW2).trans f1'; have hg5 := Nat.lt_of_lt_of_le hgW2 hb5.size)
    | ((refine step_append_row _ rfl (.tmp 32) (.tmp 35) 62 rfl B 22 (.slice none 0 0) 1 24 Try.underlying62 infoB rfl (by decide) (v := .slice va xs.length vc) (n := xs.length) (xs := cs bsv xs) (by rfl) (sndRow (g := g) (k := k) (by (repeat (first | (with_reducible assumption) | (with_reducible refine sndDrew ?_) | (with_reducible refine sndAlloc ?_) | ((with_reducible apply sndBelow); focus (with_reducible assumption)))))) (k := w5.heap.size) (C := #[.slice xa bs.length xc]) (by rfl) (by (repeat (first | ((with_reducible refine blkNew ?_); focus (simp; done)) | (with_reducible refine blkDrew ?_) | (with_reducible refine blkOld ?_)))) rfl (bsv_all ⟨xa, xc, bs⟩) (by unfold maxLen; omega) (by omega) (by first | (simp; done) | (simp; omega)) ?_); intro v9 w9 ho9 hg9 hf9; obtain ⟨a9, n9, e9, _⟩ := sl_of_own ho9; subst e9; have c9 := (World.cell?_of_block (a := ⟨g, 1, none⟩) (hg9.block g (by simp; omega) hgne)).trans (cell_keep (below_alloc w5 _) c5); have f9 := (World.frozen?_of_block (a := ⟨g, 1, none⟩) (hg9.block g (by simp; omega) hgne)).trans (((below_alloc w5 _).frozen (p := ⟨g, 1, none⟩) hg5).trans f5); have HO9 := Lib.hid (And.intro ho9 (And.intro hg9 hf9)); clear ho9 hg9 hf9))
  all_goals
    have hbx := below_step HB0.out (below_step (below_drew (Below.refl W2.heap.size W2)) hb5)
    have hd := put_done (W2 := w5.alloc (.cells #[.slice xa bs.length xc] 22)) (x := ⟨xa, xc, bs⟩) h rfl hbx (hbd5.out.lower HB0.out.size) (below_alloc _ _) HO9.out.1 HO9.out.2.1 HO9.out.2.2
    have HD := Lib.hid hd
    clear hd hbx
    go_wp2
    go_ret2
    exact ⟨by rw [HSU.out]; rfl, HD.out⟩
set_option maxRecDepth 100000 in
set_option maxHeartbeats 1000000 in
theorem put_full {B : Nat} {W : World} {g k : Nat} {v : Value} {xs : List Bv} (h : Hid (SendAt B W g v k xs)) (a : Option Addr) (len cap : Nat) (h16 : (16 : Int) ≤ (xs.length : Int)) :
    Calls Try.prog 21 #[.pointer (some ⟨g, 0, none⟩), .slice a len cap] W (fun e W' => e = .returned (.tuple #[.int .i64 0, .int .i64 8]) ∧ W' = W) := by
  obtain ⟨c0, c1, _, f1⟩ := h.out.cells
  obtain ⟨va, vc, e, _⟩ := h.out.form
  subst e
  clear h
  go_enter Try.func21, Try.ntmps21
  go_wp2
  go_ret2
  exact ⟨rfl, rfl⟩
set_option maxRecDepth 100000 in
set_option maxHeartbeats 1000000 in
theorem put_long {B : Nat} {W : World} {g k : Nat} {v : Value} {xs : List Bv} (h : Hid (SendAt B W g v k xs)) (a : Option Addr) (len cap : Nat) (h16 : ¬ (16 : Int) ≤ (xs.length : Int)) (hl : (256 : Int) < (len : Int)) :
    Calls Try.prog 21 #[.pointer (some ⟨g, 0, none⟩), .slice a len cap] W (fun e W' => e = .returned (.tuple #[.int .i64 0, .int .i64 1]) ∧ W' = W) := by
  obtain ⟨c0, c1, _, f1⟩ := h.out.cells
  obtain ⟨va, vc, e, _⟩ := h.out.form
  subst e
  clear h
  go_enter Try.func21, Try.ntmps21
  go_wp2
  go_ret2
  exact ⟨rfl, rfl⟩
set_option maxRecDepth 100000 in
set_option maxHeartbeats 1000000 in
theorem put_seq {B : Nat} {W : World} {g k : Nat} {v : Value} {xs : List Bv} (h : Hid (SendAt B W g v k xs)) (a : Option Addr) (len cap : Nat) (h16 : ¬ (16 : Int) ≤ (xs.length : Int)) (hl : ¬ (256 : Int) < (len : Int)) (hk : (k : Int) ≤ 1048576) (hsum : (1048576 : Int) ≤ (k : Int) + (xs.length : Int)) :
    Calls Try.prog 21 #[.pointer (some ⟨g, 0, none⟩), .slice a len cap] W (fun e W' => e = .returned (.tuple #[.int .i64 0, .int .i64 1]) ∧ Below W.heap.size W W') := by
  obtain ⟨c0, c1, _, f1⟩ := h.out.cells
  obtain ⟨va, vc, e, _⟩ := h.out.form
  subst e
  obtain ⟨S, hS⟩ : ∃ S : Int, (k : Int) + (xs.length : Int) = S := ⟨_, rfl⟩
  have HNX : Hid (∀ W', Hid (SendAt B W' g (.slice va xs.length vc) k xs) → Calls Try.prog 44 #[.pointer (some ⟨g, 0, none⟩)] W' (fun e W'' => e = .returned (.int .i64 S) ∧ ∃ n, W'' = W'.drewN n)) := fun W' h' => by
    have := next_any h' (show (k : Int) ≤ 1048576 ∧ (xs.length : Int) ≤ 16 by omega)
    rw [hS] at this
    exact this
  rw [hS] at hsum
  clear hS
  go_enter Try.func21, Try.ntmps21
  go_wp2_with fail
  refine (HNX.out _ h).mono ?_
  rintro e w1 ⟨rfl, n1, rfl⟩
  go_wp2
  go_ret2
  exact ⟨rfl, below_drewN (Below.refl _ _) _⟩
set_option maxRecDepth 100000 in
theorem put_nil (W : World) (a : Option Addr) (len cap : Nat) : Calls Try.prog 21 #[.pointer none, .slice a len cap] W (fun e W' => e = .returned (.tuple #[.int .i64 0, .int .i64 11]) ∧ W' = W) := by
  go_enter Try.func21, Try.ntmps21
  go_wp2
  go_ret2
  exact ⟨rfl, rfl⟩
end Go.Proofs.Ytfhcaikfbfoopaa
