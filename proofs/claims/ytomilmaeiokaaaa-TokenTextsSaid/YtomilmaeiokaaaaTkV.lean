/-
  TOKENS, THE WALKS: value.
-/
import Derived.Test.YtomilmaeiokaaaaProg
import Derived.Test.YtomilmaeiokaaaaBase15
import Derived.Test.YtomilmaeiokaaaaMacP
import Derived.Test.YtomilmaeiokaaaaTokP
import Derived.Test.YtomilmaeiokaaaaTkP
import Derived.Test.YtomilmaeiokaaaaTok1
import Derived.Test.YtomilmaeiokaaaaTok2
import Derived.Test.YtomilmaeiokaaaaWire1
import Derived.Test.YtomilmaeiokaaaaWire2
import Derived.Test.YtomilmaeiokaaaaWire5
import Derived.Test.YtomilmaeiokaaaaTkE
import Derived.Test.YtomilmaeiokaaaaTkT
import Derived.Test.YtomilmaeiokaaaaHeld
import Derived.BigQuiet
import Derived.Laws.StructEq
import Derived.StillTailTactics
import Derived.RegionTactic
import Derived.BigRegion
import Derived.Deep.DeepCutAuto
import Derived.Deep.QuietTactic
import Derived.WalkSpells
import Derived.WalkLawsBesides
namespace Go.Proofs.Ytomilmaeiokaaaa
open Go.RowKit
set_option linter.unusedVariables false

/-- The index of a character, 32 if there is none. -/
def idxA (c : UInt8) : Nat := alphaL.idxOf c
theorem idxA_le (c : UInt8) : idxA c ≤ 32 := List.idxOf_le_length
theorem alpha_at (c : UInt8) (h : idxA c < 32) : alpha (idxA c) = c := by
  unfold alpha idxA
  have h2 : alphaL.idxOf c < alphaL.length := h
  rw [List.getD, List.getElem?_eq_getElem h2]
  exact List.getElem_idxOf h2
theorem alpha_ne (c : UInt8) (j : Nat) (h : j < idxA c) : ¬ alpha j = c := by
  intro e
  have hj : j < alphaL.length := Nat.lt_of_lt_of_le h (idxA_le c)
  have := List.not_of_lt_findIdx (p := (· == c)) (xs := alphaL) (i := j) h
  unfold alpha at e
  rw [List.getD, List.getElem?_eq_getElem hj] at e
  simp at this e
  exact this e
/-- What a parser panics with. -/
abbrev badPanic : List PanicEntry := [{ v := .iface 76 (.agg #[]), recovered := false }]
set_option maxRecDepth 100000 in
set_option maxHeartbeats 1000000 in
theorem value_ok (c : UInt8) (w : World) (h : idxA c < 32) : Calls Try.prog 60 #[b8 c] w (fun e w' => e = .returned (.int .i64 (idxA c : Int)) ∧ w' = w) := by
  have hat := alpha_at c h
  have hne := fun j hj => alpha_ne c j hj
  obtain ⟨n, hn⟩ : ∃ n, idxA c = n := ⟨_, rfl⟩
  rw [hn] at h hat hne ⊢
  have HAT := Lib.hid hat
  have HNE := Lib.hid hne
  clear hat hne hn
  go_enter Try.func60, Try.ntmps60
  go_wp2
  go_loopw [3, 4] (fun _ i wr => ∃ k : Nat, k ≤ n ∧ i = .int .i64 k ∧ wr = w) (fun _ i _ => 32 - (intOf i).toNat)
  case atStart => exact ⟨0, by omega, rfl, rfl⟩
  case round =>
    obtain ⟨k, hk, rfl, hw⟩ := hrel
    subst wr
    have hk32 : (k : Int) < 32 := by omega
    have hidx := fun w => alpha_idx k (by omega) w
    by_cases hkn : k = n
    · have hd : alpha k = c := by rw [hkn]; exact HAT.out
      have HKN := Lib.hid hkn
      clear hkn
      go_wp2
      go_ret
      exact ⟨by rw [HKN.out]; rfl, rfl⟩
    · have hd : ¬ alpha k = c := HNE.out k (by omega)
      go_wp2
      go_roundw
      case rel => exact ⟨k + 1, by omega, by go_num, by first | rfl | trivial⟩
      case measure => simp [intOf]; omega
set_option maxRecDepth 100000 in
set_option maxHeartbeats 1000000 in
theorem value_bad (c : UInt8) (w : World) (h : ¬ idxA c < 32) : Calls Try.prog 60 #[b8 c] w (fun e w' => e = .panicked badPanic ∧ w' = w) := by
  have hne := fun j hj => alpha_ne c j hj
  have hle := idxA_le c
  rw [show idxA c = 32 from by omega] at hne
  have HNE := Lib.hid hne
  clear hne h hle
  go_enter Try.func60, Try.ntmps60
  go_wp2
  go_loopw [3, 4] (fun _ i wr => ∃ k : Nat, k ≤ 32 ∧ i = .int .i64 k ∧ wr = w) (fun _ i _ => 32 - (intOf i).toNat)
  case atStart => exact ⟨0, by omega, rfl, rfl⟩
  case round =>
    obtain ⟨k, hk, rfl, hw⟩ := hrel
    subst wr
    by_cases hk32 : k < 32
    · have hk32' : (k : Int) < 32 := by omega
      have hidx := fun w => alpha_idx k hk32 w
      have hd : ¬ alpha k = c := HNE.out k hk32
      go_wp2
      go_roundw
      case rel => exact ⟨k + 1, by omega, by go_num, by first | rfl | trivial⟩
      case measure => simp [intOf]; omega
    · have hk32' : ¬ (k : Int) < 32 := by omega
      go_wp2
      simp [bodyPost]
end Go.Proofs.Ytomilmaeiokaaaa
