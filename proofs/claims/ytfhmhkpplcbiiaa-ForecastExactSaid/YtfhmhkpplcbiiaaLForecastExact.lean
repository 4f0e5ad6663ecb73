/-
  'bikesharelaw40.ForecastExact': for every input the law returns true, and each argument reads afterwards as before. No condition.
-/
import Derived.Test.YtfhmhkpplcbiiaaRows
import Derived.Deep.DeepCutAuto
import Derived.BigQuiet
import Derived.Deep.QuietTactic
import Derived.Lib.Hide
import Derived.Test.YtfhmhkpplcbiiaaFcL5
import Derived.Test.YtfhmhkpplcbiiaaBase4
import Derived.Test.YtfhmhkpplcbiiaaShell3
import Derived.WalkKit
import Derived.ProofKit
import Derived.OpenShut
import Derived.ShutString
import Derived.ChangeOld
import Derived.Below
namespace Go.Proofs.Ytfhmhkpplcbiiaa.forecastExact
open Go.ChangeShapes Go.WideShapes Go.ChangeAt Go.RowKit
open Go.ChangeMaps (open_string shut_string)
set_option linter.unusedVariables false

theorem own : ownKnob Try.prog.godebug = none := by kernel_rfl
theorem laidOut : laidOutB Try.prog = true := by kernel_rfl

def IsRow (k : IntKind) (w : World) (a : Option Addr) (len cap : Nat) (zs : List Int) : Prop :=
  (a = none ∧ len = 0 ∧ cap = 0 ∧ zs = []) ∨
  ∃ x, a = some x ∧ len ≤ cap ∧ cap ≤ maxLen ∧ zs.length = cap ∧ (∀ i, i < zs.length → w.cell? (x.add i) = some (.int k (zs.getD i 0))) ∧ ∀ n ∈ zs, (Lit.int k n).wf = true

theorem walk (st0 : Int) (xa0 : Option Addr) (xl0 xc0 : Nat) (xz0 : List Int) (ya0 : Option Addr) (yl0 yc0 : Nat) (yz0 : List Int) (a1_0 a1_1 a1_2 a1_3 a1_4 : Int) (w : World) (g0 : IsRow .i64 w xa0 xl0 xc0 xz0) (w0 : IsRow .i64 w ya0 yl0 yc0 yz0) (w1 : ∀ n ∈ [a1_0, a1_1, a1_2, a1_3, a1_4], (Lit.int .i64 n).wf = true) :
    Calls Try.prog 16 #[.agg #[.int .i64 st0, .slice xa0 xl0 xc0, .slice ya0 yl0 yc0], .agg #[.int .i64 a1_0, .int .i64 a1_1, .int .i64 a1_2, .int .i64 a1_3, .int .i64 a1_4]] w fun e w' => e = .returned (.bool true) ∧ Below w.heap.size w w' := by
  obtain ⟨l1, s1, _⟩ := sl_ints g0
  obtain ⟨l2, s2, _⟩ := sl_ints w0
  exact forecastExact_walk st0 a1_0 a1_1 a1_2 a1_3 a1_4 l1 l2 xa0 xl0 xc0 ya0 yl0 yc0 w s1 s2

set_option maxRecDepth 100000 in
theorem lifted (os : Os) (started : os.Started) (H : Type) (enc : TypeId × Value → H) :
    ReturnsInHanded {} Try.checked os 16 .any (Rows.forecastExactSpec.pre6 enc Try.prog Try.f16 Rows.forecastExactRow.domain false) (Rows.forecastExactSpec.post enc Try.prog Try.f16 false true false false) := by
  refine returnsInHanded_of_change (C := Try.checked) own started (by kernel_rfl) Try.func16
    (ChangeSpec.witness6 (enc := enc) (C := Try.checked) false ⟨#[], #[.agg #[.int .i64 0, .slice none 0 0, .slice none 0 0], .agg #[.int .i64 0, .int .i64 0, .int .i64 0, .int .i64 0, .int .i64 0]], []⟩ 8 (by kernel_rfl) (by kernel_rfl) (by kernel_rfl) (by kernel_rfl)) ?_
  intro W base args ds gs before hval0 hW hcnd _
  have hval : ∀ (j : Nat) t v, Try.f16.params[j]? = some t → args[j]? = some v → Value.okWide Try.prog W .any base t v := hval0
  have hW' := hW
  obtain ⟨p, q, hA0, hV, rfl, hfz, hnd⟩ := hW
  have hA : DataW.TrodAll enc Try.prog W 0 (fun _ => true) true Try.f16.params.toList args.toList ds p := hA0
  rw [Try.params16] at hA hval
  obtain ⟨v0, vs0, d0, ds0, p0, q0, hargs, rfl, rfl, h0, r0⟩ := trodAll_cons hA
  obtain ⟨v1, vs1, d1, ds1, p1, q1, rfl, rfl, rfl, h1, r1⟩ := trodAll_cons r0
  obtain ⟨rfl, rfl, rfl⟩ := trodAll_nil r1
  obtain rfl : args = #[v0, v1] := by cases args; simp_all
  obtain ⟨rfl, rfl⟩ := trodVars_none hV
  have k0 := h0
  have lt0 : ∀ x ∈ p0, x.block < W.heap.size := by obtain ⟨m, hm⟩ := k0; exact DataW.trod_lt m _ _ _ hm
  obtain ⟨V0, V1, V2, Y0, Y1, Y2, N0, rfl, _, _, H0, H1, H2⟩ := Joins.open_agg3 Try.underlying57 (by kernel_rfl) (by kernel_rfl) (hval 0 57 v0 rfl rfl) h0
  obtain ⟨st0, E0, _, _⟩ := DataW.trod_int Try.underlying3 H0
  cases E0
  obtain ⟨xa0, xl0, xc0, hsH1⟩ := Joins.slice_form Try.underlying23 H1
  cases hsH1
  obtain ⟨xz0, g0⟩ : ∃ zs, IsRow .i64 W xa0 xl0 xc0 zs := by
    rcases open_ints Try.underlying23 Try.underlying3 (by kernel_rfl) H1 with ⟨hcs, _⟩ | ⟨x, l, c, zs, hcs, _, hl, hm, hz, _, hcell, hwz⟩
    · simp at hcs
      obtain ⟨rfl, rfl, rfl⟩ := hcs
      exact ⟨[], .inl ⟨rfl, rfl, rfl, rfl⟩⟩
    · simp at hcs
      obtain ⟨rfl, rfl, rfl⟩ := hcs
      exact ⟨zs, .inr ⟨_, rfl, hl, hm, by simpa using hz, hcell, hwz⟩⟩
  obtain ⟨ya0, yl0, yc0, hsH2⟩ := Joins.slice_form Try.underlying23 H2
  cases hsH2
  obtain ⟨yz0, w0⟩ : ∃ zs, IsRow .i64 W ya0 yl0 yc0 zs := by
    rcases open_ints Try.underlying23 Try.underlying3 (by kernel_rfl) H2 with ⟨hcs, _⟩ | ⟨x, l, c, zs, hcs, _, hl, hm, hz, _, hcell, hwz⟩
    · simp at hcs
      obtain ⟨rfl, rfl, rfl⟩ := hcs
      exact ⟨[], .inl ⟨rfl, rfl, rfl, rfl⟩⟩
    · simp at hcs
      obtain ⟨rfl, rfl, rfl⟩ := hcs
      exact ⟨zs, .inr ⟨_, rfl, hl, hm, by simpa using hz, hcell, hwz⟩⟩
  have k1 := h1
  have lt1 : ∀ x ∈ p1, x.block < W.heap.size := by obtain ⟨m, hm⟩ := k1; exact DataW.trod_lt m _ _ _ hm
  obtain ⟨a1_0, a1_1, a1_2, a1_3, a1_4, rfl, w1⟩ := ints5 ⟨[3, 3, 3, 3, 3], by kernel_rfl, by kernel_rfl, by kernel_rfl, rfl, fun u hu => by simp at hu; subst hu; exact Try.underlying3⟩ (hval 1 59 v1 rfl rfl)
  clear hA0 hval0
  refine (walk st0 xa0 xl0 xc0 xz0 ya0 yl0 yc0 yz0 a1_0 a1_1 a1_2 a1_3 a1_4 W g0 w0 w1).mono fun e W' ⟨he, bel⟩ => ?_
  subst he
  exact ⟨_, rfl, _, _, _, [], _, [], hW', trodAll_mk1 (shut_bool Try.underlying4 _), (trodAll_cons_mk (Below.trod laidOut (by kernel_rfl) (of_decide_eq_true (by kernel_rfl)) k0 bel lt0) (trodAll_cons_mk (Below.trod laidOut (by kernel_rfl) (of_decide_eq_true (by kernel_rfl)) k1 bel lt1) trodAll_mk0)), rfl, bel.frame _, fun h => by cases h⟩

theorem over : Rows.forecastExactRow.holds Try.pinned (OpenSpec.ofChange Rows.forecastExactSpec) :=
  OpenClaim.holds_of_wide 16 Try.f16 rfl rfl rfl rfl rfl rfl rfl ⟨rfl, rfl, rfl, rfl, rfl⟩ rfl rfl rfl rfl rfl (by kernel_rfl) Try.func16 (by kernel_rfl)
    (of_decide_eq_true (by kernel_rfl)) (by unfold Func.isWrapper; first | (rw [if_pos (by decide +kernel)]; kernel_rfl) | (rw [if_neg (by decide +kernel)]; exact ⟨rfl, rfl⟩))
    (fun os started H enc _ => lifted os started H enc)

/-- THE STATEMENT. -/
theorem proved : Rows.ForecastExactSaid := over
#print axioms proved
end Go.Proofs.Ytfhmhkpplcbiiaa.forecastExact
