/-
  MAC, THE WALKS: the reference's Sum.
-/
import Derived.Test.YtjfakdbgcinpcaaProg
import Derived.Test.YtjfakdbgcinpcaaBase7
import Derived.Test.YtjfakdbgcinpcaaHeld
import Derived.Test.YtjfakdbgcinpcaaMac7
import Derived.Test.YtjfakdbgcinpcaaMac2
import Derived.Test.YtjfakdbgcinpcaaMacP
import Derived.BigQuiet
import Derived.StillTailTactics
import Derived.RegionTactic
import Derived.Deep.DeepCutAuto
import Derived.Deep.QuietTactic
import Derived.WalkSpells
import Derived.WalkLawsBesides
import Derived.Test.YtjfakdbgcinpcaaMac3
import Derived.Test.YtjfakdbgcinpcaaMac1
namespace Go.Proofs.Ytjfakdbgcinpcaa
open Go.RowKit
set_option linter.unusedVariables false



theorem St.ext {w w' : World} {g : Nat} {v : V4} (h : St w g v) (hb : Below w.heap.size w w') : St w' g v := by
  obtain ⟨E, h⟩ := h; exact ⟨E, hp_below hb h⟩
theorem St.lt {w : World} {g : Nat} {v : V4} (h : St w g v) : g < w.heap.size := by
  obtain ⟨E, h⟩ := h
  rcases Nat.lt_or_ge g w.heap.size with h' | h'
  · exact h'
  · rw [Array.getElem?_eq_none h'] at h; cases h
theorem St.all {w : World} {g : Nat} {v : V4} (h : St w g v) (u : V4) : St ((((w.setCell ⟨g, 0, none⟩ (u64 u.1)).setCell ⟨g, 1, none⟩ (u64 u.2.1)).setCell ⟨g, 2, none⟩ (u64 u.2.2.1)).setCell ⟨g, 3, none⟩ (u64 u.2.2.2)) g u := by
  obtain ⟨E, h⟩ := h
  exact ⟨E, heap_setCell_same _ g 3 _ E _ (heap_setCell_same _ g 2 _ E _ (heap_setCell_same _ g 1 _ E _ (heap_setCell_same w g 0 _ E _ h)))⟩
end Go.Proofs.Ytjfakdbgcinpcaa
