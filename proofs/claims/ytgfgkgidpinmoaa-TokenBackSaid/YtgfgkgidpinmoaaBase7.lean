/-
  MACHINE WORDS: shift counts that are words themselves. No condition.
-/
import Derived.Test.YtgfgkgidpinmoaaBase0
namespace Go.Proofs.Ytgfgkgidpinmoaa
open Go.RowKit
set_option linter.unusedVariables false

@[go_sem ↓] theorem u64_shl_w (t : TypeId) (a s : BitVec 64) : binOp .shl t (u64 a) (u64 s) = pure (u64 (a <<< s.toNat)) := by
  conv => lhs; arg 4; unfold u64
  rw [u64_shl t a _ .u64 (Int.natCast_nonneg _), Int.toNat_natCast]
@[go_sem ↓] theorem u64_shr_w (t : TypeId) (a s : BitVec 64) : binOp .shr t (u64 a) (u64 s) = pure (u64 (a >>> s.toNat)) := by
  conv => lhs; arg 4; unfold u64
  rw [u64_shr t a _ .u64 (Int.natCast_nonneg _), Int.toNat_natCast]
end Go.Proofs.Ytgfgkgidpinmoaa
