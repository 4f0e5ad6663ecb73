/-
  TOKENS, THE LAWS: TokenOnce.
-/
import Derived.Test.YtgfgkgidpinmoaaProg
import Derived.Test.YtgfgkgidpinmoaaBase1
import Derived.Test.YtgfgkgidpinmoaaBase2
import Derived.Test.YtgfgkgidpinmoaaBase3
import Derived.Test.YtgfgkgidpinmoaaBase5
import Derived.Test.YtgfgkgidpinmoaaBase6
import Derived.Test.YtgfgkgidpinmoaaBase7
import Derived.Test.YtgfgkgidpinmoaaBase15
import Derived.Test.YtgfgkgidpinmoaaMacP
import Derived.Test.YtgfgkgidpinmoaaTokP
import Derived.Test.YtgfgkgidpinmoaaTkP
import Derived.Test.YtgfgkgidpinmoaaTok1
import Derived.Test.YtgfgkgidpinmoaaTok2
import Derived.Test.YtgfgkgidpinmoaaWire1
import Derived.Test.YtgfgkgidpinmoaaWire2
import Derived.Test.YtgfgkgidpinmoaaWire5
import Derived.Test.YtgfgkgidpinmoaaBase14
import Derived.Test.YtgfgkgidpinmoaaTok3
import Derived.Test.YtgfgkgidpinmoaaTkA
import Derived.Test.YtgfgkgidpinmoaaTkO
import Derived.Test.YtgfgkgidpinmoaaShell5
import Derived.Test.YtgfgkgidpinmoaaHeld
import Derived.BigQuiet
import Derived.Laws.StructEq
import Derived.StillTailTactics
import Derived.RegionTactic
import Derived.BigRegion
import Derived.Deep.RegionHeld3
import Derived.Deep.DeepCutAuto
import Derived.Deep.QuietTactic
import Derived.WalkSpells
import Derived.WalkLawsBesides
namespace Go.Proofs.Ytgfgkgidpinmoaa
open Go.RowKit
set_option linter.unusedVariables false

theorem infoTk : (Try.prog.info? 36).map (fun i => (i.zero, i.size, i.bytes)) = some (some (.agg #[.int .i64 0, .int .i64 0, .int .i64 0, .int .i64 0, .int .i64 0, .int .i64 0, .int .u64 0]), 7, 56) := by kernel_rfl
theorem tokA_one1 (l : List TokL) : ∀ u ∈ flatV tokA l, u.oneCell' = true := by
  intro u hu
  unfold flatV at hu
  obtain ⟨x, _, hx⟩ := List.mem_flatMap.1 hu
  simp [tokA] at hx
  rcases hx with rfl | rfl | rfl | rfl | rfl | rfl | rfl <;> rfl
/-- What a round keeps. -/
structure OnW (w : World) (x y : BitVec 64) (us : List TokL) (v : Value) (W : World) : Prop where
  k : BlkAt W w.heap.size #[u64 x, u64 y]
  o : W.ownsRow (w.heap.size + 1) 36 7 v us.length (flatV tokA us)
  lo : Below w.heap.size w W
theorem on_step {w W W' : World} {x y : BitVec 64} {us : List TokL} {v : Value} (h : Hid (OnW w x y us v W)) (hb : Below W.heap.size W W') : Hid (OnW w x y us v W') := ⟨blkBelow hb h.out.k, ownsRow_ext h.out.o hb, below_step h.out.lo hb⟩
theorem four_on {W : World} {k : Nat} {a b c d : Value} (h : BlkAt W k #[a, b, c, d]) : W.cell? ⟨k, 0, none⟩ = some a ∧ W.cell? ⟨k, 1, none⟩ = some b ∧ W.cell? ⟨k, 2, none⟩ = some c ∧ W.cell? ⟨k, 3, none⟩ = some d := by
  obtain ⟨E, h⟩ := h
  refine ⟨?_, ?_, ?_, ?_⟩ <;> rw [cell_of_row _ _ _ _ _ _ h] <;> rfl
/-- What a usable token says. -/
theorem use_says {ka kb : BitVec 64} {b r d f t n : Int} {g : BitVec 64} {bike lo hi last : Int} (h : usable ka kb b r d f t n g bike lo hi last = 0) : gen ka kb b r d f t n g = true ∧ b = bike ∧ last < n ∧ f ≤ lo ∧ hi < t ∧ lo ≤ hi := by
  unfold usable at h
  by_cases h1 : gen ka kb b r d f t n g = false
  · rw [if_pos h1] at h; exact absurd h (by decide)
  · rw [if_neg h1] at h
    by_cases h2 : b ≠ bike
    · rw [if_pos h2] at h; exact absurd h (by decide)
    · rw [if_neg h2] at h
      by_cases h3 : n ≤ last
      · rw [if_pos h3] at h; exact absurd h (by decide)
      · rw [if_neg h3] at h
        by_cases h4 : lo < f
        · rw [if_pos h4] at h; exact absurd h (by decide)
        · rw [if_neg h4] at h
          by_cases h5 : t ≤ hi
          · rw [if_pos h5] at h; exact absurd h (by decide)
          · rw [if_neg h5] at h
            by_cases h6 : hi < lo
            · rw [if_pos h6] at h; exact absurd h (by decide)
            · exact ⟨by simpa using h1, Decidable.of_not_not h2, by omega, by omega, by omega, by omega⟩
set_option maxRecDepth 100000 in
set_option maxHeartbeats 1000000 in
theorem tokenOnce_long (x y : BitVec 64) (bike : Int) (ta : Option Addr) (tl tc : Nat) (ra : Option Addr) (rl rc : Nat) (w : World) (h : (20 : Int) < (tl : Int) ∨ (60 : Int) < (rl : Int)) : Calls Try.prog 6 #[.agg #[Ytgfgkgidpinmoaa.u64 x, Ytgfgkgidpinmoaa.u64 y], .int .i64 bike, .slice ta tl tc, .slice ra rl rc] w (RetB (.bool true) w) := by
  have HQ := Lib.hid (below_alloc w (.cells #[Ytgfgkgidpinmoaa.u64 x, Ytgfgkgidpinmoaa.u64 y] 32))
  by_cases h1 : (20 : Int) < (tl : Int)
  · clear h
    go_enter Try.func6, Try.ntmps6
    go_wp2_with fail
    refine (awake15_any _).mono ?_
    rintro e wz ⟨rfl, hbz⟩
    have HBZ := Lib.hid (below_step HQ.out hbz)
    clear hbz
    go_wp2
    go_ret
    exact ⟨rfl, HBZ.out⟩
  · have h2 : (60 : Int) < (rl : Int) := by omega
    clear h
    go_enter Try.func6, Try.ntmps6
    go_wp2_with fail
    refine (awake15_any _).mono ?_
    rintro e wz ⟨rfl, hbz⟩
    have HBZ := Lib.hid (below_step HQ.out hbz)
    clear hbz
    go_wp2
    go_ret
    exact ⟨rfl, HBZ.out⟩
end Go.Proofs.Ytgfgkgidpinmoaa
