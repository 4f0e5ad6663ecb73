/-
  LOCKS, THE WALKS: the reference's Same.
-/
import Derived.Test.YtpmjgiabedjlgaaProg
import Derived.Test.YtpmjgiabedjlgaaBase7
import Derived.Test.YtpmjgiabedjlgaaBase14
import Derived.Test.YtpmjgiabedjlgaaLockP
import Derived.Test.YtpmjgiabedjlgaaLock3
import Derived.BigQuiet
import Derived.Laws.StructEq
import Derived.StillTailTactics
import Derived.RegionTactic
import Derived.Deep.DeepCutAuto
import Derived.Deep.QuietTactic
import Derived.WalkSpells
import Derived.WalkLawsBesides
namespace Go.Proofs.Ytpmjgiabedjlgaa
open Go.RowKit
set_option linter.unusedVariables false

theorem sl_rep {w : World} {ao : Option Addr} {len cap : Nat} {l : List Rep} (h : Sl w 6 ao len cap (rcs l)) (hl : l.length = len) (k : Nat) (hk : k < len) :
    ∃ b o, ao = some ⟨b, o, none⟩ ∧ ∀ j v, (repA (l.getD k (0, 0, 0, 0, 0, 0)))[j]? = some v → w.cell? ⟨b, o + k * 6 + j, none⟩ = some v := by
  have hj6 : ∀ j v, (repA (l.getD k (0, 0, 0, 0, 0, 0)))[j]? = some v → j < 6 := fun j v e => by
    have := (Array.getElem?_eq_some_iff.1 e).1
    simpa [repA] using this
  obtain ⟨b, o, e, _, hc⟩ := h.addr (by rw [rcs_len]; omega)
  refine ⟨b, o, e, fun j v hv => ?_⟩
  have := hc (k * 6 + j) v (by rw [rcs_get l k j (by omega) (hj6 j v hv)]; exact hv)
  rw [Nat.add_assoc]
  exact this
set_option maxRecDepth 100000 in
theorem rep_neq (x y : Rep) (w : World) : (binOp .neq 45 (.agg (repA x)) (.agg (repA y))).run Try.prog w = .ok (.bool (!decide (x = y))) w := by
  obtain ⟨x1, x2, x3, x4, x5, x6⟩ := x
  obtain ⟨y1, y2, y3, y4, y5, y6⟩ := y
  have h1 : Try.prog.underlying 45 = some (.struct (Try.prog.fieldsOf 45)) := by kernel_rfl
  have h2 : Try.prog.stoodInHeld 45 = false := by kernel_rfl
  rw [run_neq_struct, run_equalIn_agg _ _ _ _ _ h1 h2]
  simp only [Program.fieldsOf, Try.underlying45, repA]
  clear h1 h2
  go_simp
  by_cases e1 : x1 = y1 <;> by_cases e2 : x2 = y2 <;> by_cases e3 : x3 = y3 <;> by_cases e4 : x4 = y4 <;> by_cases e5 : x5 = y5 <;> by_cases e6 : x6 = y6 <;> simp [e1, e2, e3, e4, e5, e6]
end Go.Proofs.Ytpmjgiabedjlgaa
