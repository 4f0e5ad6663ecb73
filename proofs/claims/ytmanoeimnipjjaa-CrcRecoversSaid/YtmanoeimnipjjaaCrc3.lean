/-
  CRC, THE WALKS: the tails, the frames, and what they call of the library.
-/
import Derived.Test.YtmanoeimnipjjaaProg
import Derived.Test.YtmanoeimnipjjaaBase3
import Derived.Test.YtmanoeimnipjjaaBase5
import Derived.Test.YtmanoeimnipjjaaBase6
import Derived.Test.YtmanoeimnipjjaaBase7
import Derived.Test.YtmanoeimnipjjaaBase8
import Derived.Test.YtmanoeimnipjjaaBase9
import Derived.Test.YtmanoeimnipjjaaCrcP2
import Derived.Test.YtmanoeimnipjjaaCrc2
import Derived.Test.YtmanoeimnipjjaaWire5
import Derived.Test.YtmanoeimnipjjaaHeld
import Derived.BigQuiet
import Derived.Laws.StructEq
import Derived.StillTailTactics
import Derived.RegionTactic
import Derived.Deep.DeepCutAuto
import Derived.Deep.QuietTactic
import Derived.WalkSpells
import Derived.WalkLawsBesides
namespace Go.Proofs.Ytmanoeimnipjjaa
open Go.RowKit
set_option linter.unusedVariables false

theorem nil_eq (ao : Option Addr) (n c : Nat) (w : World) : (binOp .eql 22 (.slice ao n c) (.slice none 0 0)).run Try.prog w = .ok (.bool ao.isNone) w :=
  Lib.run_eql_slice_nil w _ _ _ _ _ _ _ Try.underlying22
theorem own_lit4 {w w0 : World} (hb : Below w0.heap.size w0 w) (a b c d : UInt8) (e : TypeId) : (w.alloc (.cells #[b8 a, b8 b, b8 c, b8 d] e)).ownsRow w0.heap.size e 1 (.slice (some ⟨w.heap.size, 0, none⟩) 4 4) 4 (cs b8 [a, b, c, d]) :=
  World.ownsRow_lit w _ 4 hb.size (by unfold maxLen; omega) rfl

set_option maxRecDepth 100000 in
set_option maxHeartbeats 1000000 in
theorem tail_any (bs : List UInt8) (ao : Option Addr) (len cap : Nat) (w : World) (hs : Sl w 1 ao len cap (cs b8 bs)) (hlen : len ≤ 1000000000) :
    Calls Try.prog 80 #[.slice ao len cap] w (RetOwn w 5 4 (cs b8 (tail4 (crc bs)))) := by
  obtain ⟨x, hx⟩ : ∃ x, x = crc bs := ⟨_, rfl⟩
  have hsum := crcSum_any bs ao len cap w hs hlen
  rw [← hx] at hsum ⊢
  clear hx hs
  have hxl := x.isLt
  generalize hn : x.toNat = n at hsum hxl
  have HN := Lib.hid hn
  clear hn
  go_enter Try.func80, Try.ntmps80
  go_wp2_with (go_at_call 53; refine hsum.mono ?_; rintro e w1 ⟨rfl, hb1⟩)
  go_ret
  refine ⟨_, rfl, ?_, below_step hb1 (below_alloc _ _)⟩
  unfold tail4
  rw [HN.out]
  exact own_lit4 hb1 _ _ _ _ _

set_option maxRecDepth 100000 in
set_option maxHeartbeats 1000000 in
theorem refTail_any (x : BitVec 32) (w : World) :
    Calls Try.prog 81 #[.int .i64 (x.toNat : Int)] w (RetOwn w 5 4 (cs b8 (tail4 x))) := by
  have hxl := x.isLt
  generalize hn : x.toNat = n at *
  have HN := Lib.hid hn
  clear hn
  go_enter Try.func81, Try.ntmps81
  go_wp2
  go_ret
  refine ⟨_, rfl, ?_, below_alloc _ _⟩
  unfold tail4
  rw [HN.out]
  exact own_lit4 (Below.refl _ _) _ _ _ _ _

set_option maxRecDepth 100000 in
set_option maxHeartbeats 1000000 in
theorem equal_any (xs ys : List UInt8) (ao bo : Option Addr) (la ca lb cb : Nat) (w : World) (ha : Sl w 1 ao la ca (cs b8 xs)) (hb : Sl w 1 bo lb cb (cs b8 ys)) :
    Calls Try.prog 77 #[.slice ao la ca, .slice bo lb cb] w (RetB (.bool (decide (xs = ys))) w) := by
  go_enter Try.func77, Try.ntmps77
  go_wp2_with (first
    | (with_reducible refine wpList_b2s (o := ⟨some 6, _, _, _, _, _⟩) _ rfl 22 9 5 _ rfl Try.underlying22 Try.underlying9 Try.underlying5 ha rfl ?_)
    | (with_reducible refine wpList_b2s (o := ⟨some 8, _, _, _, _, _⟩) _ rfl 22 9 5 _ rfl Try.underlying22 Try.underlying9 Try.underlying5 hb rfl ?_))
  go_ret
  exact ⟨congrArg (fun b => Ending.returned (.bool b)) (by rw [Bool.eq_iff_iff]; simp), Below.refl _ _⟩

set_option maxRecDepth 100000 in
set_option maxHeartbeats 1000000 in
theorem clone_any (xs : List UInt8) (ao : Option Addr) (la ca : Nat) (w : World) (ha : Sl w 1 ao la ca (cs b8 xs)) (hla : la ≤ 1000000000000) :
    Calls Try.prog 75 #[.slice ao la ca] w (RetOwn w 5 la (cs b8 xs)) := by
  cases ao with
  | none =>
    have h0 := ha.hbare rfl
    have hle := ha.hle
    have hc := ha.count
    obtain rfl : la = 0 := by omega
    have hx : xs = [] := List.eq_nil_of_length_eq_zero hc
    subst hx
    subst h0
    have hnil : ∀ w : World, (binOp .eql 22 (.slice none 0 0) (.slice none 0 0)).run Try.prog w = .ok (.bool true) w := nil_eq _ _ _
    clear ha hle
    go_enter Try.func75, Try.ntmps75
    go_wp2
    go_ret
    exact ⟨_, rfl, World.ownsRow_nil _ _ _ _, Below.refl _ _⟩
  | some a =>
    have hnil : ∀ w : World, (binOp .eql 22 (.slice (some a) la ca) (.slice none 0 0)).run Try.prog w = .ok (.bool false) w := nil_eq _ _ _
    go_enter Try.func75, Try.ntmps75
    go_wp2_with (at_builtin; refine wpList_append_many b8 (fun _ => rfl) _ rfl _ _ 22 rfl w.heap.size 5 (.int .u8 0) 1 Try.underlying22 Try.infoU8 rfl (v := .slice (some ⟨w.heap.size, 0, none⟩) 0 0) (n := 0) (xs := []) (World.ownsRow_lit w #[] 0 (Nat.le_refl _) (by decide) rfl) rfl (ha.ext (below_alloc _ _)) rfl (by unfold maxLen; omega) (by omega) (by simp) ?_)
    intro v1 w1 ho1 hb1
    go_wp2
    go_ret
    refine ⟨v1, rfl, ?_, (below_alloc _ _).trans hb1⟩
    simpa using ho1
end Go.Proofs.Ytmanoeimnipjjaa
