/-
  'bikesharetop.TopRecovery': for every input the law returns true, and each argument reads afterwards as before. No condition.
-/
import Derived.Test.YtdgjdbpbnipjcaaRows
import Derived.Deep.DeepCutAuto
import Derived.BigQuiet
import Derived.Deep.QuietTactic
import Derived.Lib.Hide
import Derived.Test.YtdgjdbpbnipjcaaTsI
import Derived.Test.YtdgjdbpbnipjcaaTsY
import Derived.Test.YtdgjdbpbnipjcaaBase4
import Derived.Test.YtdgjdbpbnipjcaaShell
import Derived.Test.YtdgjdbpbnipjcaaRowsL
import Derived.Test.YtdgjdbpbnipjcaaShell3
import Derived.WalkKit
import Derived.ProofKit
import Derived.OpenShut
import Derived.ShutString
import Derived.ChangeOld
import Derived.Below
namespace Go.Proofs.Ytdgjdbpbnipjcaa.topRecovery
open Go.ChangeShapes Go.WideShapes Go.ChangeAt Go.RowKit
open Go.ChangeMaps (open_string shut_string)
set_option linter.unusedVariables false

theorem own : ownKnob Try.prog.godebug = none := by kernel_rfl
theorem laidOut : laidOutB Try.prog = true := by kernel_rfl

def IsRow (k : IntKind) (w : World) (a : Option Addr) (len cap : Nat) (zs : List Int) : Prop :=
  (a = none ∧ len = 0 ∧ cap = 0 ∧ zs = []) ∨
  ∃ x, a = some x ∧ len ≤ cap ∧ cap ≤ maxLen ∧ zs.length = cap ∧ (∀ i, i < zs.length → w.cell? (x.add i) = some (.int k (zs.getD i 0))) ∧ ∀ n ∈ zs, (Lit.int k n).wf = true

theorem walk (fb0 fr0 fv0 : Int) (xa0 : Option Addr) (xl0 xc0 : Nat) (xz0 : List Int) (ya0 : Option Addr) (yl0 yc0 : Nat) (yz0 : List Int) (a1 : Option Addr) (len1 cap1 : Nat) (l1 : List EvL) (a2 : Int) (a3_0 a3_1 a3_2 a3_3 a3_4 a3_5 a3_6 a3_7 a3_8 : Int) (w : World) (g0 : IsRow .i64 w xa0 xl0 xc0 xz0) (w0 : IsRow .i64 w ya0 yl0 yc0 yz0) (q1 : l1.length = len1) (s1 : Sl w 9 a1 len1 cap1 (flatV evA l1)) (w2 : (Lit.int .i64 a2).wf = true) (w3 : ∀ n ∈ [a3_0, a3_1, a3_2, a3_3, a3_4, a3_5, a3_6, a3_7, a3_8], (Lit.int .i64 n).wf = true) :
    Calls Try.prog 3 #[.agg #[.int .i64 fb0, .int .i64 fr0, .int .i64 fv0, .slice xa0 xl0 xc0, .slice ya0 yl0 yc0], .slice a1 len1 cap1, .int .i64 a2, .agg #[.int .i64 a3_0, .int .i64 a3_1, .int .i64 a3_2, .int .i64 a3_3, .int .i64 a3_4, .int .i64 a3_5, .int .i64 a3_6, .int .i64 a3_7, .int .i64 a3_8]] w fun e w' => e = .returned (.bool true) ∧ Below w.heap.size w w' := by
  obtain ⟨lx, hx, _⟩ := sl_ints g0
  obtain ⟨ly, hy, _⟩ := sl_ints w0
  exact topRecovery_walk ⟨fb0, fr0, fv0, xa0, xl0, xc0, lx, ya0, yl0, yc0, ly⟩ a1 len1 cap1 l1 a2 ⟨a3_0, a3_1, a3_2, a3_3, a3_4, a3_5, a3_6, a3_7, a3_8⟩ w q1 s1 ⟨hx, hy, hx.count, hy.count⟩

set_option maxRecDepth 100000 in
theorem lifted (os : Os) (started : os.Started) (H : Type) (enc : TypeId × Value → H) :
    ReturnsInHanded {} Try.checked os 3 .any (Rows.topRecoverySpec.pre6 enc Try.prog Try.f3 Rows.topRecoveryRow.domain false) (Rows.topRecoverySpec.post enc Try.prog Try.f3 false true false false) := by
  refine returnsInHanded_of_change (C := Try.checked) own started (by kernel_rfl) Try.func3
    (ChangeSpec.witness6 (enc := enc) (C := Try.checked) false ⟨#[], #[.agg #[.int .i64 0, .int .i64 0, .int .i64 0, .slice none 0 0, .slice none 0 0], .slice none 0 0, .int .i64 0, .agg #[.int .i64 0, .int .i64 0, .int .i64 0, .int .i64 0, .int .i64 0, .int .i64 0, .int .i64 0, .int .i64 0, .int .i64 0]], []⟩ 8 (by kernel_rfl) (by kernel_rfl) (by kernel_rfl) (by kernel_rfl)) ?_
  intro W base args ds gs before hval0 hW hcnd _
  have hval : ∀ (j : Nat) t v, Try.f3.params[j]? = some t → args[j]? = some v → Value.okWide Try.prog W .any base t v := hval0
  have hW' := hW
  obtain ⟨p, q, hA0, hV, rfl, hfz, hnd⟩ := hW
  have hA : DataW.TrodAll enc Try.prog W 0 (fun _ => true) true Try.f3.params.toList args.toList ds p := hA0
  rw [Try.params3] at hA hval
  obtain ⟨v0, vs0, d0, ds0, p0, q0, hargs, rfl, rfl, h0, r0⟩ := trodAll_cons hA
  obtain ⟨v1, vs1, d1, ds1, p1, q1, rfl, rfl, rfl, h1, r1⟩ := trodAll_cons r0
  obtain ⟨v2, vs2, d2, ds2, p2, q2, rfl, rfl, rfl, h2, r2⟩ := trodAll_cons r1
  obtain ⟨v3, vs3, d3, ds3, p3, q3, rfl, rfl, rfl, h3, r3⟩ := trodAll_cons r2
  obtain ⟨rfl, rfl, rfl⟩ := trodAll_nil r3
  obtain rfl : args = #[v0, v1, v2, v3] := by cases args; simp_all
  obtain ⟨rfl, rfl⟩ := trodVars_none hV
  have k0 := h0
  have lt0 : ∀ x ∈ p0, x.block < W.heap.size := by obtain ⟨m, hm⟩ := k0; exact DataW.trod_lt m _ _ _ hm
  obtain ⟨V0, V1, V2, V3, V4, Y0, Y1, Y2, Y3, Y4, N0, rfl, H0, H1, H2, H3, H4⟩ := open_agg5 Try.underlying24 (by kernel_rfl) (by kernel_rfl) (hval 0 24 v0 rfl rfl) h0
  obtain ⟨fb0, E0, _, _⟩ := DataW.trod_int Try.underlying3 H0
  cases E0
  obtain ⟨fr0, E1, _, _⟩ := DataW.trod_int Try.underlying3 H1
  cases E1
  obtain ⟨fv0, E2, _, _⟩ := DataW.trod_int Try.underlying3 H2
  cases E2
  obtain ⟨xa0, xl0, xc0, hsH3⟩ := Joins.slice_form Try.underlying22 H3
  cases hsH3
  obtain ⟨xz0, g0⟩ : ∃ zs, IsRow .i64 W xa0 xl0 xc0 zs := by
    rcases open_ints Try.underlying22 Try.underlying3 (by kernel_rfl) H3 with ⟨hcs, _⟩ | ⟨x, l, c, zs, hcs, _, hl, hm, hz, _, hcell, hwz⟩
    · simp at hcs
      obtain ⟨rfl, rfl, rfl⟩ := hcs
      exact ⟨[], .inl ⟨rfl, rfl, rfl, rfl⟩⟩
    · simp at hcs
      obtain ⟨rfl, rfl, rfl⟩ := hcs
      exact ⟨zs, .inr ⟨_, rfl, hl, hm, by simpa using hz, hcell, hwz⟩⟩
  obtain ⟨ya0, yl0, yc0, hsH4⟩ := Joins.slice_form Try.underlying22 H4
  cases hsH4
  obtain ⟨yz0, w0⟩ : ∃ zs, IsRow .i64 W ya0 yl0 yc0 zs := by
    rcases open_ints Try.underlying22 Try.underlying3 (by kernel_rfl) H4 with ⟨hcs, _⟩ | ⟨x, l, c, zs, hcs, _, hl, hm, hz, _, hcell, hwz⟩
    · simp at hcs
      obtain ⟨rfl, rfl, rfl⟩ := hcs
      exact ⟨[], .inl ⟨rfl, rfl, rfl, rfl⟩⟩
    · simp at hcs
      obtain ⟨rfl, rfl, rfl⟩ := hcs
      exact ⟨zs, .inr ⟨_, rfl, hl, hm, by simpa using hz, hcell, hwz⟩⟩
  obtain ⟨a1, len1, cap1, rfl⟩ := okWide_slice Try.underlying25 (hval 1 25 v1 rfl rfl)
  have k1 := h1
  have lt1 : ∀ x ∈ p1, x.block < W.heap.size := by obtain ⟨m, hm⟩ := k1; exact DataW.trod_lt m _ _ _ hm
  obtain ⟨l1, qq1, s1⟩ : ∃ l : List EvL, l.length = len1 ∧ Sl W 9 a1 len1 cap1 (flatV evA l) := by
    obtain ⟨fuel, hf⟩ := h1
    rcases leaves_slice (n := 5) (ks := evLv) (e := 27) Try.underlying25 (by kernel_rfl) (by kernel_rfl) hf with hcs | ⟨x, l, c, hcs, hl, hm, hall⟩
    · simp [Value.cells] at hcs
      obtain ⟨rfl, rfl, rfl⟩ := hcs
      exact ⟨[], rfl, Sl.nil W 9⟩
    · simp [Value.cells] at hcs
      obtain ⟨rfl, rfl, rfl⟩ := hcs
      obtain ⟨ls, h1, h2, _⟩ := rows_sl EvL.zero evA 9 (by decide) (fun _ => rfl) _ rfl evA_open hl hm hall
      exact ⟨ls, h1, h2⟩
  obtain ⟨a2, rfl, rfl, rfl, w2⟩ := open_int Try.underlying3 (hval 2 3 v2 rfl rfl) h2
  have k3 := h3
  have lt3 : ∀ x ∈ p3, x.block < W.heap.size := by obtain ⟨m, hm⟩ := k3; exact DataW.trod_lt m _ _ _ hm
  obtain ⟨a3_0, a3_1, a3_2, a3_3, a3_4, a3_5, a3_6, a3_7, a3_8, rfl, w3⟩ := ints9 ⟨[3, 3, 3, 3, 3, 3, 3, 3, 3], by kernel_rfl, by kernel_rfl, by kernel_rfl, rfl, fun u hu => by simp at hu; subst hu; exact Try.underlying3⟩ (hval 3 27 v3 rfl rfl)
  clear hA0 hval0
  refine (walk fb0 fr0 fv0 xa0 xl0 xc0 xz0 ya0 yl0 yc0 yz0 a1 len1 cap1 l1 a2 a3_0 a3_1 a3_2 a3_3 a3_4 a3_5 a3_6 a3_7 a3_8 W g0 w0 qq1 s1 w2 w3).mono fun e W' ⟨he, bel⟩ => ?_
  subst he
  exact ⟨_, rfl, _, _, _, [], _, [], hW', trodAll_mk1 (shut_bool Try.underlying4 _), (trodAll_cons_mk (Below.trod laidOut (by kernel_rfl) (of_decide_eq_true (by kernel_rfl)) k0 bel lt0) (trodAll_cons_mk (Below.trod laidOut (by kernel_rfl) (of_decide_eq_true (by kernel_rfl)) k1 bel lt1) (trodAll_cons_mk (shut_int Try.underlying3 w2) (trodAll_cons_mk (Below.trod laidOut (by kernel_rfl) (of_decide_eq_true (by kernel_rfl)) k3 bel lt3) trodAll_mk0)))), rfl, bel.frame _, fun h => by cases h⟩

theorem over : Rows.topRecoveryRow.holds Try.pinned (OpenSpec.ofChange Rows.topRecoverySpec) :=
  OpenClaim.holds_of_wide 3 Try.f3 rfl rfl rfl rfl rfl rfl rfl ⟨rfl, rfl, rfl, rfl, rfl⟩ rfl rfl rfl rfl rfl (by kernel_rfl) Try.func3 (by kernel_rfl)
    (of_decide_eq_true (by kernel_rfl)) (by unfold Func.isWrapper; first | (rw [if_pos (by decide +kernel)]; kernel_rfl) | (rw [if_neg (by decide +kernel)]; exact ⟨rfl, rfl⟩))
    (fun os started H enc _ => lifted os started H enc)

/-- THE STATEMENT. -/
theorem proved : Rows.TopRecoverySaid := over
#print axioms proved
end Go.Proofs.Ytdgjdbpbnipjcaa.topRecovery
