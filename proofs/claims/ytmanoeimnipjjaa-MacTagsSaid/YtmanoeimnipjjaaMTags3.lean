/-
  MAC, THE LAWS' WALKS: MacTags, the law.
-/
import Derived.Test.YtmanoeimnipjjaaProg
import Derived.Test.YtmanoeimnipjjaaBase3
import Derived.Test.YtmanoeimnipjjaaBase5
import Derived.Test.YtmanoeimnipjjaaBase6
import Derived.Test.YtmanoeimnipjjaaBase13
import Derived.Test.YtmanoeimnipjjaaMac1
import Derived.Test.YtmanoeimnipjjaaMac4
import Derived.Test.YtmanoeimnipjjaaMac5
import Derived.Test.YtmanoeimnipjjaaMTags
import Derived.Test.YtmanoeimnipjjaaMTags1
import Derived.Test.YtmanoeimnipjjaaMTags2
import Derived.Test.YtmanoeimnipjjaaHeld
import Derived.Test.YtmanoeimnipjjaaHeld2
import Derived.Test.YtmanoeimnipjjaaWire5
import Derived.Test.YtmanoeimnipjjaaWireP5
import Derived.BigQuiet
import Derived.Laws.StructEq
import Derived.StillTailTactics
import Derived.RegionTactic
import Derived.BigRegion
import Derived.Deep.RegionHeld3
import Derived.Deep.DeepCutAuto
import Derived.Deep.QuietTactic
import Derived.WalkSpells
import Derived.WalkLawsBesides
namespace Go.Proofs.Ytmanoeimnipjjaa
open Go.RowKit
set_option linter.unusedVariables false

set_option maxRecDepth 100000 in
set_option maxHeartbeats 8000000 in
theorem macTags_walk (ka kb : BitVec 64) (l m : List Int) (ao bo : Option Addr) (la ca lb cb : Nat) (w : World) (h1 : Sl w 1 ao la ca (cs i64v l)) (h2 : Sl w 1 bo lb cb (cs i64v m)) (r1 : I64s l) (r2 : I64s m) :
    Calls Try.prog 4 #[.agg #[u64 ka, u64 kb], .slice ao la ca, .slice bo lb cb] w (RetB (.bool true) w) := by
  have hb0 := Lib.hid (below_alloc w (.cells #[u64 ka, u64 kb] 32))
  by_cases g1 : (100 : Int) < (la : Int)
  · go_enter Try.func4, Try.ntmps4
    go_wp2_with fail
    refine (awake06_any _).mono ?_
    rintro e w1 ⟨rfl, hb⟩
    go_wp2
    go_ret
    exact ⟨rfl, below_step hb0.out hb⟩
  · by_cases g2 : (100 : Int) < (lb : Int)
    · go_enter Try.func4, Try.ntmps4
      go_wp2_with fail
      refine (awake06_any _).mono ?_
      rintro e w1 ⟨rfl, hb⟩
      go_wp2
      go_ret
      exact ⟨rfl, below_step hb0.out hb⟩
    · have hl1 : l.length < 1000000000000 := by have := h1.count; omega
      have hl2 : m.length < 1000000000000 := by have := h2.count; omega
      have HL : Hid (Sl w 1 ao la ca (cs i64v l) ∧ I64s l ∧ la ≤ 1000000) := ⟨h1, r1, by omega⟩
      have HM : Hid (Sl w 1 bo lb cb (cs i64v m) ∧ I64s m ∧ lb ≤ 1000000) := ⟨h2, r2, by omega⟩
      by_cases hlm : l = m
      · subst hlm
        exact macTags_same ka kb l _ _ (Lib.hid rfl) (Lib.hid rfl) ao bo la ca lb cb w HL HM g1 g2
      · have hp : ¬ putInts l = putInts m := fun h => hlm (putInts_inj hl1 hl2 r1 r2 h)
        exact macTags_other ka kb l m _ _ _ _ (Lib.hid rfl) (Lib.hid rfl) (Lib.hid rfl) (Lib.hid rfl) (by rw [Go.ByteArray.toList_mk, Go.ByteArray.toList_mk]; exact beq_eq_false_iff_ne.mpr hp) (by rw [Go.ByteArray.toList_mk, Go.ByteArray.toList_mk]; exact hp) (Lib.hid hlm) ao bo la ca lb cb w HL HM g1 g2
end Go.Proofs.Ytmanoeimnipjjaa
