/-
  DRAW: what an order is, for its callers.
-/
import Derived.Test.YtjfakdbgcinpcaaProg
import Derived.Test.YtjfakdbgcinpcaaBase7
import Derived.Test.YtjfakdbgcinpcaaDraw5
import Derived.Test.YtjfakdbgcinpcaaHeld
import Derived.Lib.SmallJoins
import Derived.BigQuiet
import Derived.Laws.StructEq
import Derived.StillTailTactics
import Derived.RegionTactic
import Derived.Deep.DeepCutAuto
import Derived.Deep.QuietTactic
import Derived.WalkSpells
import Derived.WalkLawsBesides
namespace Go.Proofs.Ytjfakdbgcinpcaa
open Go.RowKit
set_option linter.unusedVariables false

theorem shuffle_val {ws : List (BitVec 64)} {n e : Int} {L : List Int} {ao : Option Addr} {len cap : Nat} {w : World} (hs : Sl w 1 ao len cap (cs u64 ws)) (hlen : len ≤ 1000000000000) (h : Hid (shuffle ws n = (L, e))) :
    Calls Try.prog 18 #[.slice ao len cap, .int .i64 n] w (fun q w' => ∃ a m c, q = .returned (.tuple #[.slice a m c, .int .i64 e]) ∧ Sl w' 1 a m c (cs i64v L) ∧ m = L.length ∧ Below w.heap.size w w') := (shuffle_any ws n ao len cap w hs hlen).mono fun _ _ h' => by
    rw [h.out] at h'
    obtain ⟨v, m, rfl, ho, hb⟩ := h'
    obtain ⟨a, c, rfl, s⟩ := sl_of_own ho
    exact ⟨a, m, c, rfl, s, s.count.symm, hb⟩
theorem shuf_len : ∀ (i : Nat) (ws : List (BitVec 64)) (l : List Int) (L : List Int) (e : Int), shuf i ws l = (L, e) → (e = 0 → L.length = l.length) ∧ (e ≠ 0 → L = [])
  | 0, ws, l, L, e, h => by
    rw [shuf] at h
    cases h
    exact ⟨fun _ => rfl, fun h => absurd rfl h⟩
  | i + 1, ws, l, L, e, h => by
    rw [shuf] at h
    split at h
    · rename_i hne
      cases h
      exact ⟨fun h => absurd h hne, fun _ => rfl⟩
    · have := shuf_len i _ _ L e h
      rw [swp_length] at this
      exact this
theorem shuffle_len {ws : List (BitVec 64)} {n e : Int} {L : List Int} (h : shuffle ws n = (L, e)) : L.length ≤ 256 ∧ (e = 0 → (L.length : Int) = n ∧ 0 ≤ n) ∧ (e ≠ 0 → L = []) := by
  unfold shuffle at h
  split at h
  · cases h
    exact ⟨by simp, fun h => by omega, fun _ => rfl⟩
  · have h1 := shuf_len _ _ _ _ _ h
    rw [iota_len] at h1
    by_cases he : e = 0
    · have := h1.1 he
      exact ⟨by omega, fun _ => by omega, fun h => absurd he h⟩
    · have := h1.2 he
      exact ⟨by rw [this]; simp, fun h => absurd h he, fun _ => this⟩
end Go.Proofs.Ytjfakdbgcinpcaa
