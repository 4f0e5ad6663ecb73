/-
  'bikesharelaw12.LinkTakes': for every input the law returns true, and each argument reads afterwards as before. No condition.
-/
import Derived.Test.YtfhcaikfbfoopaaRows
import Derived.Deep.DeepCutAuto
import Derived.BigQuiet
import Derived.Deep.QuietTactic
import Derived.Lib.Hide
import Derived.Test.YtfhcaikfbfoopaaLkQ
import Derived.Test.YtfhcaikfbfoopaaShellB
import Derived.Test.YtfhcaikfbfoopaaBase4
import Derived.Test.YtfhcaikfbfoopaaShell
import Derived.Test.YtfhcaikfbfoopaaShell4
import Derived.Test.YtfhcaikfbfoopaaRowsL
import Derived.WalkKit
import Derived.ProofKit
import Derived.OpenShut
import Derived.ShutString
import Derived.ChangeOld
import Derived.Below
namespace Go.Proofs.Ytfhcaikfbfoopaa.linkTakes
open Go.ChangeShapes Go.WideShapes Go.ChangeAt Go.RowKit
open Go.ChangeMaps (open_string shut_string)
set_option linter.unusedVariables false

theorem own : ownKnob Try.prog.godebug = none := by kernel_rfl
theorem laidOut : laidOutB Try.prog = true := by kernel_rfl

def IsRow (k : IntKind) (w : World) (a : Option Addr) (len cap : Nat) (zs : List Int) : Prop :=
  (a = none ∧ len = 0 ∧ cap = 0 ∧ zs = []) ∨
  ∃ x, a = some x ∧ len ≤ cap ∧ cap ≤ maxLen ∧ zs.length = cap ∧ (∀ i, i < zs.length → w.cell? (x.add i) = some (.int k (zs.getD i 0))) ∧ ∀ n ∈ zs, (Lit.int k n).wf = true

theorem walk (a0 : Option Addr) (len0 cap0 : Nat) (l0 : List FrL) (w : World) (q0 : l0.length = len0) (s0 : Sl w 2 a0 len0 cap0 (flatV frA l0)) (w0 : ∀ o ∈ l0, Sl w 1 o.b.a o.b.bs.length o.b.c (cs b8 o.b.bs)) :
    Calls Try.prog 5 #[.slice a0 len0 cap0] w fun e w' => e = .returned (.bool true) ∧ Below w.heap.size w w' := by
  exact linkTakes_walk a0 len0 cap0 l0 w q0 s0 w0

set_option maxRecDepth 100000 in
theorem lifted (os : Os) (started : os.Started) (H : Type) (enc : TypeId × Value → H) :
    ReturnsInHanded {} Try.checked os 5 .any (Rows.linkTakesSpec.pre6 enc Try.prog Try.f5 Rows.linkTakesRow.domain false) (Rows.linkTakesSpec.post enc Try.prog Try.f5 false true false false) := by
  refine returnsInHanded_of_change (C := Try.checked) own started (by kernel_rfl) Try.func5
    (ChangeSpec.witness6 (enc := enc) (C := Try.checked) false ⟨#[], #[.slice none 0 0], []⟩ 8 (by kernel_rfl) (by kernel_rfl) (by kernel_rfl) (by kernel_rfl)) ?_
  intro W base args ds gs before hval0 hW hcnd _
  have hval : ∀ (j : Nat) t v, Try.f5.params[j]? = some t → args[j]? = some v → Value.okWide Try.prog W .any base t v := hval0
  have hW' := hW
  obtain ⟨p, q, hA0, hV, rfl, hfz, hnd⟩ := hW
  have hA : DataW.TrodAll enc Try.prog W 0 (fun _ => true) true Try.f5.params.toList args.toList ds p := hA0
  rw [Try.params5] at hA hval
  obtain ⟨v0, vs0, d0, ds0, p0, q0, hargs, rfl, rfl, h0, r0⟩ := trodAll_cons hA
  obtain ⟨rfl, rfl, rfl⟩ := trodAll_nil r0
  obtain rfl : args = #[v0] := by cases args; simp_all
  obtain ⟨rfl, rfl⟩ := trodVars_none hV
  have k0 := h0
  have lt0 : ∀ x ∈ p0, x.block < W.heap.size := by obtain ⟨m, hm⟩ := k0; exact DataW.trod_lt m _ _ _ hm
  obtain ⟨a0, len0, cap0, rfl⟩ := okWide_slice Try.underlying47 (hval 0 47 v0 rfl rfl)
  obtain ⟨l0, qq0, s0, w0⟩ : ∃ l : List FrL, l.length = len0 ∧ Sl W 2 a0 len0 cap0 (flatV frA l) ∧ ∀ o ∈ l, Sl W 1 o.b.a o.b.bs.length o.b.c (cs b8 o.b.bs) := by
    obtain ⟨fuel, hf⟩ := h0
    obtain ⟨a', len', cap', hcs, l', h1, h2, h3⟩ := rowsB_open FrL.zero frA 2 (by decide) (fun _ => rfl) (fun o => Sl W 1 o.b.a o.b.bs.length o.b.c (cs b8 o.b.bs)) (e := 56) Try.underlying47 (by kernel_rfl) (fun fuel cs x h => frL_open (i := 3) (b := 22) (q := 5) Try.underlying56 (by kernel_rfl) Try.underlying3 Try.underlying22 Try.underlying5 (by kernel_rfl) (by kernel_rfl) (by kernel_rfl) (by kernel_rfl) fuel cs x h) hf
    simp [Value.cells] at hcs
    obtain ⟨rfl, rfl, rfl⟩ := hcs
    exact ⟨l', h1, h2, h3⟩
  clear hA0 hval0
  refine (walk a0 len0 cap0 l0 W qq0 s0 w0).mono fun e W' ⟨he, bel⟩ => ?_
  subst he
  exact ⟨_, rfl, _, _, _, [], _, [], hW', trodAll_mk1 (shut_bool Try.underlying4 _), (trodAll_cons_mk (Below.trod laidOut (by kernel_rfl) (of_decide_eq_true (by kernel_rfl)) k0 bel lt0) trodAll_mk0), rfl, bel.frame _, fun h => by cases h⟩

theorem over : Rows.linkTakesRow.holds Try.pinned (OpenSpec.ofChange Rows.linkTakesSpec) :=
  OpenClaim.holds_of_wide 5 Try.f5 rfl rfl rfl rfl rfl rfl rfl ⟨rfl, rfl, rfl, rfl, rfl⟩ rfl rfl rfl rfl rfl (by kernel_rfl) Try.func5 (by kernel_rfl)
    (of_decide_eq_true (by kernel_rfl)) (by unfold Func.isWrapper; first | (rw [if_pos (by decide +kernel)]; kernel_rfl) | (rw [if_neg (by decide +kernel)]; exact ⟨rfl, rfl⟩))
    (fun os started H enc _ => lifted os started H enc)

/-- THE STATEMENT. -/
theorem proved : Rows.LinkTakesSaid := over
#print axioms proved
end Go.Proofs.Ytfhcaikfbfoopaa.linkTakes
