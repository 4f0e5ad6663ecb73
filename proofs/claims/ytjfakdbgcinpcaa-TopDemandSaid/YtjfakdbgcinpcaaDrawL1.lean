/-
  DRAW, THE LAWS' WALKS: DrawPicks, DrawBelow, DrawShuffles, DrawWords.
-/
import Derived.Test.YtjfakdbgcinpcaaProg
import Derived.Test.YtjfakdbgcinpcaaBase7
import Derived.Test.YtjfakdbgcinpcaaHeld
import Derived.BigQuiet
import Derived.Laws.StructEq
import Derived.StillTailTactics
import Derived.RegionTactic
import Derived.Deep.DeepCutAuto
import Derived.Deep.QuietTactic
import Derived.WalkSpells
import Derived.WalkLawsBesides
import Derived.Test.YtjfakdbgcinpcaaDraw5
import Derived.Lib.SmallJoins
import Derived.Test.YtjfakdbgcinpcaaDraw7
import Derived.Test.YtjfakdbgcinpcaaDrawL0
namespace Go.Proofs.Ytjfakdbgcinpcaa
open Go.RowKit
set_option linter.unusedVariables false

/-- A slice of words, hidden. -/
abbrev Ws (W : World) (a : Option Addr) (n c : Nat) (T : List (BitVec 64)) : Prop := Hid (Sl W 1 a n c (cs u64 T) ∧ n ≤ 1000)
theorem wsDrew {W : World} {a : Option Addr} {n c : Nat} {T : List (BitVec 64)} (h : Ws W a n c T) : Ws W.drew a n c T := ⟨h.out.1.ext (Below.refl _ W).drew, h.out.2⟩
theorem words_len (ka kb : BitVec 64) (from_ n : Int) : (words ka kb from_ n).length ≤ 512 := by
  unfold words
  split
  · simp
  · rw [wordsL_len]; omega
theorem words_s (ka kb : BitVec 64) (from_ n : Int) (w : World) : Calls Try.prog 7 #[.agg #[u64 ka, u64 kb], .int .i64 from_, .int .i64 n] w (fun e w' => ∃ a m c, e = .returned (.slice a m c) ∧ Ws w' a m c (words ka kb from_ n) ∧ Below w.heap.size w w') :=
  (words_any ka kb from_ n w).mono fun _ _ ⟨v, m, he, ho, hb⟩ => by
    obtain ⟨a, c, rfl, s⟩ := sl_of_own ho
    have h1 := s.count
    have h2 := words_len ka kb from_ n
    exact ⟨a, m, c, he, ⟨s, by omega⟩, hb⟩
end Go.Proofs.Ytjfakdbgcinpcaa
