/-
  HISTORY: what Count keeps.
-/
import Derived.Test.YtjfakdbgcinpcaaTdH
import Derived.BigQuiet
import Derived.BigRegion
import Derived.Deep.RegionHeld3
import Derived.Laws.StructEq
import Derived.StillTailTactics
import Derived.RegionTactic
import Derived.Deep.DeepCutAuto
import Derived.Deep.QuietTactic
import Derived.WalkSpells
import Derived.WalkLawsBesides
namespace Go.Proofs.Ytjfakdbgcinpcaa
open Go.RowKit
set_option linter.unusedVariables false

structure RideL where
  id : Int
  rid : Int
  sl : Int
  sh : Int
  el : Int
  eh : Int
  op : Bool
  la : Option Addr
  lc : Nat
  legs : List LegL
  pa : Option Addr
  pc : Nat
  pauses : List PauL
  fw : Int
  fp : Int
  wh : Int
  pl : Int
def rideA (r : RideL) : Array Value := #[.int .i64 r.id, .int .i64 r.rid, .int .i64 r.sl, .int .i64 r.sh, .int .i64 r.el, .int .i64 r.eh, .bool r.op, .slice r.la r.legs.length r.lc, .slice r.pa r.pauses.length r.pc, .int .i64 r.fw, .int .i64 r.fp, .int .i64 r.wh, .int .i64 r.pl]
def RideL.zero : RideL := ⟨0, 0, 0, 0, 0, 0, false, none, 0, [], none, 0, [], 0, 0, 0, 0⟩
/-- What a ride's element says of memory. -/
structure RideM (W : World) (r : RideL) : Prop where
  l : Sl W 5 r.la r.legs.length r.lc (flatV legA r.legs)
  p : Sl W 4 r.pa r.pauses.length r.pc (flatV pauA r.pauses)
  f : r.fp ≤ 9223372036854775807
  t : r.pl ≤ 9223372036854775807
theorem RideM.below {W W' : World} {r : RideL} (h : RideM W r) (hb : Below W.heap.size W W') : RideM W' r := ⟨h.l.ext hb, h.p.ext hb, h.f, h.t⟩
theorem ride_check (r : RideL) (w : World) (h : RideM w r) (hn : r.legs.length ≤ 1000) (hm : r.pauses.length ≤ 1000) : Calls Try.prog 13 #[.agg (rideA r)] w (SomeE w) :=
  rcheck_any r.id r.rid r.sl r.sh r.el r.eh r.op r.la r.legs.length r.lc r.pa r.pauses.length r.pc r.fw r.fp r.wh r.pl r.legs r.pauses w rfl rfl h.l h.p hn hm
theorem own_off {W : World} {B size n : Nat} {e : TypeId} {v u : Value} {xs : List Value} {a : Addr} (h : W.ownsRow B e size v n xs) (hv : v.ownBlock ≠ some a.block) : (W.setCell a u).ownsRow B e size v n xs := by
  refine ⟨h.1, ?_⟩
  rcases h.2 with hn' | ⟨g, cap, cur, hv', hB, hg, rest⟩
  · exact .inl hn'
  · refine .inr ⟨g, cap, cur, hv', hB, ?_, rest⟩
    rw [Below.heap_setCell W a u g (fun e => hv (by rw [hv', ← e]; rfl))]
    exact hg
/-- Two rows of ints of the call's own, and blocks that are neither. -/
structure CntW (w : World) (g1 g2 N : Nat) (xs ys : List Int) (L : List (Nat × Array Value)) (W : World) : Prop where
  o : W.ownsRow w.heap.size 3 1 (.slice (some ⟨g1, 0, none⟩) N N) N (cs i64v xs)
  i : W.ownsRow w.heap.size 3 1 (.slice (some ⟨g2, 0, none⟩) N N) N (cs i64v ys)
  ne : g1 ≠ g2
  bs : ∀ p ∈ L, BlkAt W p.1 p.2 ∧ p.1 ≠ g1 ∧ p.1 ≠ g2
  lo : Below w.heap.size w W
section
variable {w W W' : World} {g1 g2 N : Nat} {xs ys : List Int} {L : List (Nat × Array Value)}
theorem cntBelow (h : Hid (CntW w g1 g2 N xs ys L W)) (hb : Below W.heap.size W W') : Hid (CntW w g1 g2 N xs ys L W') := Lib.hid ⟨ownsRow_ext h.out.o hb, ownsRow_ext h.out.i hb, h.out.ne, fun p hp => ⟨blkBelow hb (h.out.bs p hp).1, (h.out.bs p hp).2⟩, below_step h.out.lo hb⟩
theorem cntAdd {X : Array Value} {E : TypeId} (h : Hid (CntW w g1 g2 N xs ys L W)) : Hid (CntW w g1 g2 N xs ys ((W.heap.size, X) :: L) (W.alloc (.cells X E))) := by
  have h' := (cntBelow h (below_alloc W (.cells X E))).out
  have l1 := (h.out.o.lt g1 rfl).2
  have l2 := (h.out.i.lt g2 rfl).2
  refine Lib.hid ⟨h'.o, h'.i, h'.ne, fun p hp => ?_, h'.lo⟩
  rcases List.mem_cons.1 hp with rfl | hp
  · exact ⟨blkNew rfl, by dsimp only; omega, by dsimp only; omega⟩
  · exact h'.bs p hp
theorem cntDrop {p : Nat × Array Value} (h : Hid (CntW w g1 g2 N xs ys (p :: L) W)) : Hid (CntW w g1 g2 N xs ys L W) := Lib.hid ⟨h.out.o, h.out.i, h.out.ne, fun q hq => h.out.bs q (List.mem_cons_of_mem _ hq), h.out.lo⟩
theorem cntHead {k : Nat} {X : Array Value} (h : Hid (CntW w g1 g2 N xs ys ((k, X) :: L) W)) : BlkAt W k X := (h.out.bs (k, X) (List.mem_cons_self ..)).1
theorem cntSet1 (h : Hid (CntW w g1 g2 N xs ys L W)) (j : Nat) (v : Int) : Hid (CntW w g1 g2 N (xs.set j v) ys L (W.setCell ⟨g1, j, none⟩ (.int .i64 v))) := by
  have l1 := (h.out.o.lt g1 rfl).1
  refine Lib.hid ⟨own_set h.out.o j v, own_off h.out.i (fun e => h.out.ne (Option.some.inj e).symm), h.out.ne, fun p hp => ⟨blk_off (h.out.bs p hp).1 (h.out.bs p hp).2.1, (h.out.bs p hp).2⟩, h.out.lo.setCell l1 _⟩
theorem cntSet2 (h : Hid (CntW w g1 g2 N xs ys L W)) (j : Nat) (v : Int) : Hid (CntW w g1 g2 N xs (ys.set j v) L (W.setCell ⟨g2, j, none⟩ (.int .i64 v))) := by
  have l2 := (h.out.i.lt g2 rfl).1
  refine Lib.hid ⟨own_off h.out.o (fun e => h.out.ne (Option.some.inj e)), own_set h.out.i j v, h.out.ne, fun p hp => ⟨blk_off (h.out.bs p hp).1 (h.out.bs p hp).2.2, (h.out.bs p hp).2⟩, h.out.lo.setCell l2 _⟩
end
section
variable {w W : World} {g1 g2 st : Nat} {xs ys : List Int} {L : List (Nat × Array Value)}
theorem add_1 (h : Hid (CntW w g1 g2 (st * 168) xs ys L W)) (place at_ : Int) (hst : st ≤ 32) (hpl : place ≤ 9223372036854775807) : Calls Try.prog 14 #[.slice (some ⟨g1, 0, none⟩) (st * 168) (st * 168), .int .i64 (st : Int), .int .i64 place, .int .i64 at_] W (fun e W' => ∃ er xs', e = .returned (.int .i64 er) ∧ Hid (CntW w g1 g2 (st * 168) xs' ys L W')) := by
  refine (add_any g1 st place at_ xs w.heap.size W h.out.o hst hpl).mono ?_
  rintro e W' ⟨er, rfl, rfl | ⟨i, v, _, rfl⟩⟩
  · exact ⟨er, xs, rfl, h⟩
  · exact ⟨er, _, rfl, cntSet1 h i v⟩
theorem add_2 (h : Hid (CntW w g1 g2 (st * 168) xs ys L W)) (place at_ : Int) (hst : st ≤ 32) (hpl : place ≤ 9223372036854775807) : Calls Try.prog 14 #[.slice (some ⟨g2, 0, none⟩) (st * 168) (st * 168), .int .i64 (st : Int), .int .i64 place, .int .i64 at_] W (fun e W' => ∃ er ys', e = .returned (.int .i64 er) ∧ Hid (CntW w g1 g2 (st * 168) xs ys' L W')) := by
  refine (add_any g2 st place at_ ys w.heap.size W h.out.i hst hpl).mono ?_
  rintro e W' ⟨er, rfl, rfl | ⟨i, v, _, rfl⟩⟩
  · exact ⟨er, ys, rfl, h⟩
  · exact ⟨er, _, rfl, cntSet2 h i v⟩
end
end Go.Proofs.Ytjfakdbgcinpcaa
