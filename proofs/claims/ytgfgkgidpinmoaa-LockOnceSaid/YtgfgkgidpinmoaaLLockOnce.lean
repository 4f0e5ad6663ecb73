/-
  'bikesharelaw16.LockOnce': for every input the law returns true, and each argument reads afterwards as before. No condition.
-/
import Derived.Test.YtgfgkgidpinmoaaRows
import Derived.Deep.DeepCutAuto
import Derived.BigQuiet
import Derived.Deep.QuietTactic
import Derived.Lib.Hide
import Derived.Test.YtgfgkgidpinmoaaLock23
import Derived.Test.YtgfgkgidpinmoaaLockS
import Derived.Test.YtgfgkgidpinmoaaBase4
import Derived.Test.YtgfgkgidpinmoaaShell
import Derived.Test.YtgfgkgidpinmoaaShell4
import Derived.WalkKit
import Derived.ProofKit
import Derived.OpenShut
import Derived.ShutString
import Derived.ChangeOld
import Derived.Below
namespace Go.Proofs.Ytgfgkgidpinmoaa.lockOnce
open Go.ChangeShapes Go.WideShapes Go.ChangeAt Go.RowKit
open Go.ChangeMaps (open_string shut_string)
set_option linter.unusedVariables false

theorem own : ownKnob Try.prog.godebug = none := by kernel_rfl
theorem laidOut : laidOutB Try.prog = true := by kernel_rfl

def IsRow (k : IntKind) (w : World) (a : Option Addr) (len cap : Nat) (zs : List Int) : Prop :=
  (a = none ∧ len = 0 ∧ cap = 0 ∧ zs = []) ∨
  ∃ x, a = some x ∧ len ≤ cap ∧ cap ≤ maxLen ∧ zs.length = cap ∧ (∀ i, i < zs.length → w.cell? (x.add i) = some (.int k (zs.getD i 0))) ∧ ∀ n ∈ zs, (Lit.int k n).wf = true

theorem walk (a0 : Int) (x1 y1 : BitVec 64) (Tb2 Tr2 Td2 Tf2 Tt2 Tn2 : Int) (Tg2 : BitVec 64) (Tb3 Tr3 Td3 Tf3 Tt3 Tn3 : Int) (Tg3 : BitVec 64) (w : World) (w0 : (Lit.int .i64 a0).wf = true) (w2 : ∀ x ∈ [Tb2, Tr2, Td2, Tf2, Tt2, Tn2], (Lit.int .i64 x).wf = true) (w3 : ∀ x ∈ [Tb3, Tr3, Td3, Tf3, Tt3, Tn3], (Lit.int .i64 x).wf = true) :
    Calls Try.prog 14 #[.int .i64 a0, .agg #[u64 x1, u64 y1], .agg #[.int .i64 Tb2, .int .i64 Tr2, .int .i64 Td2, .int .i64 Tf2, .int .i64 Tt2, .int .i64 Tn2, u64 Tg2], .agg #[.int .i64 Tb3, .int .i64 Tr3, .int .i64 Td3, .int .i64 Tf3, .int .i64 Tt3, .int .i64 Tn3, u64 Tg3]] w fun e w' => e = .returned (.bool true) ∧ Below w.heap.size w w' := by
  exact lockOnce_walk a0 x1 y1 Tb2 Tr2 Td2 Tf2 Tt2 Tn2 Tg2 Tb3 Tr3 Td3 Tf3 Tt3 Tn3 Tg3 w

set_option maxRecDepth 100000 in
theorem lifted (os : Os) (started : os.Started) (H : Type) (enc : TypeId × Value → H) :
    ReturnsInHanded {} Try.checked os 14 .any (Rows.lockOnceSpec.pre6 enc Try.prog Try.f14 Rows.lockOnceRow.domain false) (Rows.lockOnceSpec.post enc Try.prog Try.f14 false true false false) := by
  refine returnsInHanded_of_change (C := Try.checked) own started (by kernel_rfl) Try.func14
    (ChangeSpec.witness6 (enc := enc) (C := Try.checked) false ⟨#[], #[.int .i64 0, .agg #[.int .u64 0, .int .u64 0], .agg #[.int .i64 0, .int .i64 0, .int .i64 0, .int .i64 0, .int .i64 0, .int .i64 0, .int .u64 0], .agg #[.int .i64 0, .int .i64 0, .int .i64 0, .int .i64 0, .int .i64 0, .int .i64 0, .int .u64 0]], []⟩ 8 (by kernel_rfl) (by kernel_rfl) (by kernel_rfl) (by kernel_rfl)) ?_
  intro W base args ds gs before hval0 hW hcnd _
  have hval : ∀ (j : Nat) t v, Try.f14.params[j]? = some t → args[j]? = some v → Value.okWide Try.prog W .any base t v := hval0
  have hW' := hW
  obtain ⟨p, q, hA0, hV, rfl, hfz, hnd⟩ := hW
  have hA : DataW.TrodAll enc Try.prog W 0 (fun _ => true) true Try.f14.params.toList args.toList ds p := hA0
  rw [Try.params14] at hA hval
  obtain ⟨v0, vs0, d0, ds0, p0, q0, hargs, rfl, rfl, h0, r0⟩ := trodAll_cons hA
  obtain ⟨v1, vs1, d1, ds1, p1, q1, rfl, rfl, rfl, h1, r1⟩ := trodAll_cons r0
  obtain ⟨v2, vs2, d2, ds2, p2, q2, rfl, rfl, rfl, h2, r2⟩ := trodAll_cons r1
  obtain ⟨v3, vs3, d3, ds3, p3, q3, rfl, rfl, rfl, h3, r3⟩ := trodAll_cons r2
  obtain ⟨rfl, rfl, rfl⟩ := trodAll_nil r3
  obtain rfl : args = #[v0, v1, v2, v3] := by cases args; simp_all
  obtain ⟨rfl, rfl⟩ := trodVars_none hV
  obtain ⟨a0, rfl, rfl, rfl, w0⟩ := open_int Try.underlying3 (hval 0 3 v0 rfl rfl) h0
  have k1 := h1
  have lt1 : ∀ x ∈ p1, x.block < W.heap.size := by obtain ⟨m, hm⟩ := k1; exact DataW.trod_lt m _ _ _ hm
  obtain ⟨x1, y1, rfl⟩ := key_open Try.underlying32 (by kernel_rfl) (by kernel_rfl) Try.underlying30 Try.underlying30 (hval 1 32 v1 rfl rfl) h1
  have k2 := h2
  have lt2 : ∀ x ∈ p2, x.block < W.heap.size := by obtain ⟨m, hm⟩ := k2; exact DataW.trod_lt m _ _ _ hm
  obtain ⟨Tb2, Tr2, Td2, Tf2, Tt2, Tn2, Tg2, rfl, w2⟩ := tok_val (n := 5) Try.underlying36 (by kernel_rfl) (hval 2 36 v2 rfl rfl) h2
  have k3 := h3
  have lt3 : ∀ x ∈ p3, x.block < W.heap.size := by obtain ⟨m, hm⟩ := k3; exact DataW.trod_lt m _ _ _ hm
  obtain ⟨Tb3, Tr3, Td3, Tf3, Tt3, Tn3, Tg3, rfl, w3⟩ := tok_val (n := 5) Try.underlying36 (by kernel_rfl) (hval 3 36 v3 rfl rfl) h3
  clear hA0 hval0
  refine (walk a0 x1 y1 Tb2 Tr2 Td2 Tf2 Tt2 Tn2 Tg2 Tb3 Tr3 Td3 Tf3 Tt3 Tn3 Tg3 W w0 w2 w3).mono fun e W' ⟨he, bel⟩ => ?_
  subst he
  exact ⟨_, rfl, _, _, _, [], _, [], hW', trodAll_mk1 (shut_bool Try.underlying4 _), (trodAll_cons_mk (shut_int Try.underlying3 w0) (trodAll_cons_mk (Below.trod laidOut (by kernel_rfl) (of_decide_eq_true (by kernel_rfl)) k1 bel lt1) (trodAll_cons_mk (Below.trod laidOut (by kernel_rfl) (of_decide_eq_true (by kernel_rfl)) k2 bel lt2) (trodAll_cons_mk (Below.trod laidOut (by kernel_rfl) (of_decide_eq_true (by kernel_rfl)) k3 bel lt3) trodAll_mk0)))), rfl, bel.frame _, fun h => by cases h⟩

theorem over : Rows.lockOnceRow.holds Try.pinned (OpenSpec.ofChange Rows.lockOnceSpec) :=
  OpenClaim.holds_of_wide 14 Try.f14 rfl rfl rfl rfl rfl rfl rfl ⟨rfl, rfl, rfl, rfl, rfl⟩ rfl rfl rfl rfl rfl (by kernel_rfl) Try.func14 (by kernel_rfl)
    (of_decide_eq_true (by kernel_rfl)) (by unfold Func.isWrapper; first | (rw [if_pos (by decide +kernel)]; kernel_rfl) | (rw [if_neg (by decide +kernel)]; exact ⟨rfl, rfl⟩))
    (fun os started H enc _ => lifted os started H enc)

/-- THE STATEMENT. -/
theorem proved : Rows.LockOnceSaid := over
#print axioms proved
end Go.Proofs.Ytgfgkgidpinmoaa.lockOnce
