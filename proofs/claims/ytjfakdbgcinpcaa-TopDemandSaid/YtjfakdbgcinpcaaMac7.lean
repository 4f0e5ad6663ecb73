/-
  MAC, THE WALKS: the reference's rounds.
-/
import Derived.Test.YtjfakdbgcinpcaaProg
import Derived.Test.YtjfakdbgcinpcaaBase7
import Derived.Test.YtjfakdbgcinpcaaHeld
import Derived.Test.YtjfakdbgcinpcaaMac1
import Derived.BigQuiet
import Derived.StillTailTactics
import Derived.RegionTactic
import Derived.Deep.DeepCutAuto
import Derived.Deep.QuietTactic
import Derived.WalkSpells
import Derived.WalkLawsBesides
namespace Go.Proofs.Ytjfakdbgcinpcaa
open Go.RowKit
set_option linter.unusedVariables false



section
variable {w w' w2 : World} {g : Nat} {a b c d : BitVec 64}
theorem St.at0 (h : St w g (a, b, c, d)) (hh : w2.heap = w.heap) (x : BitVec 64) : St (w2.setCell ⟨g, 0, none⟩ (u64 x)) g (x, b, c, d) := by
  obtain ⟨E, h⟩ := h; rw [← hh] at h; exact ⟨E, heap_setCell_same w2 g 0 _ E (u64 x) h⟩
theorem St.at1 (h : St w g (a, b, c, d)) (hh : w2.heap = w.heap) (x : BitVec 64) : St (w2.setCell ⟨g, 1, none⟩ (u64 x)) g (a, x, c, d) := by
  obtain ⟨E, h⟩ := h; rw [← hh] at h; exact ⟨E, heap_setCell_same w2 g 1 _ E (u64 x) h⟩
theorem St.at2 (h : St w g (a, b, c, d)) (hh : w2.heap = w.heap) (x : BitVec 64) : St (w2.setCell ⟨g, 2, none⟩ (u64 x)) g (a, b, x, d) := by
  obtain ⟨E, h⟩ := h; rw [← hh] at h; exact ⟨E, heap_setCell_same w2 g 2 _ E (u64 x) h⟩
theorem St.at3 (h : St w g (a, b, c, d)) (hh : w2.heap = w.heap) (x : BitVec 64) : St (w2.setCell ⟨g, 3, none⟩ (u64 x)) g (a, b, c, x) := by
  obtain ⟨E, h⟩ := h; rw [← hh] at h; exact ⟨E, heap_setCell_same w2 g 3 _ E (u64 x) h⟩
theorem BlkAt.far {C : Array Value} {k : Nat} {p : Addr} {u : Value} (h : BlkAt w k C) (hh : w2.heap = w.heap) (hk : k ≠ p.block) : BlkAt (w2.setCell p u) k C := by
  obtain ⟨E, h⟩ := h; rw [← hh] at h; exact ⟨E, (Below.heap_setCell w2 p u k hk).trans h⟩
/-- What holds on the way: the array in block g, the result's block as it was made, nothing else has turned. -/
def Way (w : World) (v : V4) (wx : World) : Prop := St wx w.heap.size v ∧ BlkAt wx (w.heap.size + 1) #[.int .u64 0, .int .u64 0, .int .u64 0, .int .u64 0] ∧ Below w.heap.size w wx
theorem below_same {B : Nat} (h : Below B w w') (e1 : w2.os = w'.os) (e2 : w2.tape = w'.tape) (e3 : w2.output = w'.output) (e4 : w2.heap = w'.heap) : Below B w w2 :=
  ⟨e1.trans h.os, e2.trans h.tape, e3.trans h.output, by rw [e4]; exact h.size, fun k hk => by rw [e4]; exact h.block k hk⟩
theorem Way.at0 (h : Way w (a, b, c, d) w') (e1 : w2.os = w'.os) (e2 : w2.tape = w'.tape) (e3 : w2.output = w'.output) (e4 : w2.heap = w'.heap) (x : BitVec 64) : Way w (x, b, c, d) (w2.setCell ⟨w.heap.size, 0, none⟩ (u64 x)) :=
  ⟨h.1.at0 e4 x, h.2.1.far e4 (by simp), (below_same h.2.2 e1 e2 e3 e4).setCell (Nat.le_refl _) _⟩
theorem Way.at1 (h : Way w (a, b, c, d) w') (e1 : w2.os = w'.os) (e2 : w2.tape = w'.tape) (e3 : w2.output = w'.output) (e4 : w2.heap = w'.heap) (x : BitVec 64) : Way w (a, x, c, d) (w2.setCell ⟨w.heap.size, 1, none⟩ (u64 x)) :=
  ⟨h.1.at1 e4 x, h.2.1.far e4 (by simp), (below_same h.2.2 e1 e2 e3 e4).setCell (Nat.le_refl _) _⟩
theorem Way.at2 (h : Way w (a, b, c, d) w') (e1 : w2.os = w'.os) (e2 : w2.tape = w'.tape) (e3 : w2.output = w'.output) (e4 : w2.heap = w'.heap) (x : BitVec 64) : Way w (a, b, x, d) (w2.setCell ⟨w.heap.size, 2, none⟩ (u64 x)) :=
  ⟨h.1.at2 e4 x, h.2.1.far e4 (by simp), (below_same h.2.2 e1 e2 e3 e4).setCell (Nat.le_refl _) _⟩
theorem Way.at3 (h : Way w (a, b, c, d) w') (e1 : w2.os = w'.os) (e2 : w2.tape = w'.tape) (e3 : w2.output = w'.output) (e4 : w2.heap = w'.heap) (x : BitVec 64) : Way w (a, b, c, x) (w2.setCell ⟨w.heap.size, 3, none⟩ (u64 x)) :=
  ⟨h.1.at3 e4 x, h.2.1.far e4 (by simp), (below_same h.2.2 e1 e2 e3 e4).setCell (Nat.le_refl _) _⟩
theorem Way.e0 (h : Way w (a, b, c, d) w') (x : BitVec 64) : Way w (x, b, c, d) (w'.setCell ⟨w.heap.size, 0, none⟩ (u64 x)) := h.at0 rfl rfl rfl rfl x
theorem Way.e1 (h : Way w (a, b, c, d) w') (x : BitVec 64) : Way w (a, x, c, d) (w'.setCell ⟨w.heap.size, 1, none⟩ (u64 x)) := h.at1 rfl rfl rfl rfl x
theorem Way.e2 (h : Way w (a, b, c, d) w') (x : BitVec 64) : Way w (a, b, x, d) (w'.setCell ⟨w.heap.size, 2, none⟩ (u64 x)) := h.at2 rfl rfl rfl rfl x
theorem Way.e3 (h : Way w (a, b, c, d) w') (x : BitVec 64) : Way w (a, b, c, x) (w'.setCell ⟨w.heap.size, 3, none⟩ (u64 x)) := h.at3 rfl rfl rfl rfl x
end

end Go.Proofs.Ytjfakdbgcinpcaa
