/-
  LOCKS, THE LAWS: LockOnce, the plain law.
-/
import Derived.Test.YtgfgkgidpinmoaaLockQ
import Derived.Test.YtgfgkgidpinmoaaLock8
namespace Go.Proofs.Ytgfgkgidpinmoaa
open Go.RowKit
set_option linter.unusedVariables false

/-- Usable for a genuine token of this lock, from 10 to 20, at 12 to 13. -/
theorem use_on {ka kb : BitVec 64} {b r d n last : Int} (hok : ¬ Tok.bad ⟨b, r, d, 10, 20, n⟩) : usable ka kb b r d 10 20 n (tagOf ka kb b r d 10 20 n) b 12 13 last = if n ≤ last then 20 else 0 := by
  unfold usable
  rw [gen_ok hok, decide_eq_true rfl, if_neg (by decide), if_neg (fun h => h rfl)]
  by_cases h : n ≤ last
  · rw [if_pos h, if_pos h]
  · rw [if_neg h, if_neg h, if_neg (by decide), if_neg (by decide), if_neg (by decide)]
def on1 (b : Int) (ka kb : BitVec 64) (r d n : Int) : LS := ⟨b, ka, kb, 2, n, [(1, 5, 3, 0, r, d)]⟩
def on2 (b : Int) (ka kb : BitVec 64) (r d n : Int) : LS := ⟨b, ka, kb, 1, n, [(1, 5, 3, 0, r, d), (2, 6, 2, 0, 0, 0)]⟩
def on3 (b : Int) (ka kb : BitVec 64) (r d n r2 d2 n2 : Int) : LS := ⟨b, ka, kb, 2, n2, [(1, 5, 3, 0, r, d), (2, 6, 2, 0, 0, 0), (3, 8, 3, 0, r2, d2)]⟩
theorem bad_pos {b r d f t n : Int} (h : ¬ Tok.bad ⟨b, r, d, f, t, n⟩) : 1 ≤ n := by
  unfold Tok.bad at h
  dsimp only at h
  omega
theorem on_t1 {b r d n : Int} {ka kb : BitVec 64} (hok : ¬ Tok.bad ⟨b, r, d, 10, 20, n⟩) : LS.unlock ⟨b, ka, kb, 1, 0, []⟩ b r d 10 20 n (tagOf ka kb b r d 10 20 n) 12 13 5 = (on1 b ka kb r d n, 0) := by
  have hp := bad_pos hok
  unfold LS.unlock
  dsimp only
  rw [use_on hok, if_neg (show ¬ n ≤ 0 by omega)]
  rfl
theorem on_t2 {b r d n : Int} {ka kb : BitVec 64} : (on1 b ka kb r d n).close 0 6 = (on2 b ka kb r d n, 0) := rfl
theorem on_t3 {b r d n : Int} {ka kb : BitVec 64} (hok : ¬ Tok.bad ⟨b, r, d, 10, 20, n⟩) : (on2 b ka kb r d n).unlock b r d 10 20 n (tagOf ka kb b r d 10 20 n) 12 13 7 = (on2 b ka kb r d n, 20) := by
  unfold LS.unlock on2
  dsimp only
  rw [use_on hok, if_pos (Int.le_refl n)]
  rfl
theorem on_t4 {b r d n r2 d2 n2 : Int} {ka kb : BitVec 64} (hok : ¬ Tok.bad ⟨b, r2, d2, 10, 20, n2⟩) (h : n2 ≤ n) : (on2 b ka kb r d n).unlock b r2 d2 10 20 n2 (tagOf ka kb b r2 d2 10 20 n2) 12 13 8 = (on2 b ka kb r d n, 20) := by
  unfold LS.unlock on2
  dsimp only
  rw [use_on hok, if_pos h]
  rfl
theorem on_t5 {b r d n r2 d2 n2 : Int} {ka kb : BitVec 64} (hok : ¬ Tok.bad ⟨b, r2, d2, 10, 20, n2⟩) (h : ¬ n2 ≤ n) : (on2 b ka kb r d n).unlock b r2 d2 10 20 n2 (tagOf ka kb b r2 d2 10 20 n2) 12 13 8 = (on3 b ka kb r d n r2 d2 n2, 0) := by
  unfold LS.unlock on2
  dsimp only
  rw [use_on hok, if_neg h]
  rfl
end Go.Proofs.Ytgfgkgidpinmoaa
