/-
  WHAT A LAW's STEP WANTS BESIDES: structs and arrays of ints as arguments; a struct of an int and two slices of ints. No condition.
-/
import Derived.Test.YtdgjdbpbnipjcaaBase4
import Derived.Lib.SmallJoins
namespace Go.Proofs.Ytdgjdbpbnipjcaa
open Go.RowKit
set_option linter.unusedVariables false

theorem list_of_get {α : Type} (cs : List α) (f : Int → α) : ∀ (N : Nat), cs.length = N → (∀ i, i < N → ∃ n, cs[i]? = some (f n) ∧ (Lit.int .i64 n).wf = true) → ∃ ns : List Int, cs = ns.map f ∧ ns.length = N ∧ ∀ n ∈ ns, (Lit.int .i64 n).wf = true := by
  induction cs with
  | nil => intro N h _; exact ⟨[], rfl, h, fun n hn => by cases hn⟩
  | cons c cs ih =>
    intro N h hall
    obtain ⟨n, hn, hw⟩ := hall 0 (by rw [← h]; simp)
    obtain ⟨ns, rfl, hl, hns⟩ := ih cs.length rfl (fun i hi => by
      have := hall (i + 1) (by rw [← h]; simp; omega)
      simpa using this)
    simp at hn
    subst hn
    refine ⟨n :: ns, rfl, by rw [← h]; simp, fun m hm => ?_⟩
    rcases List.mem_cons.1 hm with rfl | hm
    · exact hw
    · exact hns m hm
/-- A value of ints alone. -/
theorem ints_open {P : Program} {w : World} {r : Reach} {b0 : Nat} {t : TypeId} {v : Value} {ts : List TypeId} (hagg : (match P.underlying t with | some (.struct _) => true | some (.array _ _) => true | _ => false) = true)
    (hts : P.cellTypes P.depth t = some ts) (hC : P.cellsOf t = ts.length) (hall : ∀ u ∈ ts, P.underlying u = some (.int .i64)) (hv : Value.okWide P w r b0 t v) :
    ∃ ns : List Int, v = .agg (ns.map fun n => Value.int .i64 n).toArray ∧ ns.length = ts.length ∧ ∀ n ∈ ns, (Lit.int .i64 n).wf = true := by
  have key : ∃ cs, v = .agg cs ∧ cs.size = P.cellsOf t ∧ Row.okWide P w r b0 t cs := by
    unfold Value.okWide at hv
    split at hv
    · exact hv
    · exact hv
    · rename_i h1 h2
      split at hagg
      · rename_i h; exact absurd h (h1 _)
      · rename_i h; exact absurd h (h2 _ _)
      · cases hagg
  obtain ⟨cs, rfl, hsz, ts', hts', _, hcell⟩ := key
  rw [hts] at hts'
  cases hts'
  obtain ⟨ns, hns, hl, hw⟩ := list_of_get cs.toList (fun n => Value.int .i64 n) ts.length (by rw [Array.length_toList, hsz, hC]) (fun i hi => by
    have hic : i < cs.size := by rw [hsz, hC]; exact hi
    obtain ⟨u, hu, hok⟩ := hcell i cs[i] (Array.getElem?_eq_getElem hic)
    rw [Nat.mod_eq_of_lt hi] at hu
    have hui := hall u (List.mem_of_getElem? hu)
    unfold Cell.okWide at hok
    rw [hui] at hok
    simp only [Cell.ok, hui] at hok
    rw [Array.getElem?_toList, Array.getElem?_eq_getElem hic]
    generalize cs[i] = x at *
    cases x with
    | int k n =>
      obtain ⟨rfl, hw⟩ := hok
      exact ⟨n, rfl, by unfold Lit.wf; simp only [Bool.and_eq_true, decide_eq_true_eq]; exact hw⟩
    | _ => exact False.elim hok)
  exact ⟨ns, by rw [← hns], hl, hw⟩
theorem wf_all2 {a b : Int} (h : ∀ n ∈ [a, b], (Lit.int .i64 n).wf = true) : (Lit.int .i64 a).wf = true ∧ (Lit.int .i64 b).wf = true := ⟨h _ (by simp), h _ (by simp)⟩
section
variable {P : Program} {w : World} {r : Reach} {b0 : Nat} {t : TypeId} {v : Value}
def IntsAt (P : Program) (t : TypeId) (N : Nat) : Prop := ∃ ts, (match P.underlying t with | some (.struct _) => true | some (.array _ _) => true | _ => false) = true ∧ P.cellTypes P.depth t = some ts ∧ P.cellsOf t = ts.length ∧ ts.length = N ∧ ∀ u ∈ ts, P.underlying u = some (.int .i64)
theorem ints2 (h : IntsAt P t 2) (hv : Value.okWide P w r b0 t v) : ∃ a b : Int, v = .agg #[.int .i64 a, .int .i64 b] ∧ ∀ n ∈ [a, b], (Lit.int .i64 n).wf = true := by
  obtain ⟨ts, h1, h2, h3, h4, h5⟩ := h
  obtain ⟨ns, rfl, hl, hw⟩ := ints_open h1 h2 h3 h5 hv
  rw [h4] at hl
  match ns, hl with
  | [a, b], _ => exact ⟨a, b, rfl, hw⟩
theorem ints3 (h : IntsAt P t 3) (hv : Value.okWide P w r b0 t v) : ∃ a b c : Int, v = .agg #[.int .i64 a, .int .i64 b, .int .i64 c] ∧ ∀ n ∈ [a, b, c], (Lit.int .i64 n).wf = true := by
  obtain ⟨ts, h1, h2, h3, h4, h5⟩ := h
  obtain ⟨ns, rfl, hl, hw⟩ := ints_open h1 h2 h3 h5 hv
  rw [h4] at hl
  match ns, hl with
  | [a, b, c], _ => exact ⟨a, b, c, rfl, hw⟩
theorem ints5 (h : IntsAt P t 5) (hv : Value.okWide P w r b0 t v) : ∃ a b c d e : Int, v = .agg #[.int .i64 a, .int .i64 b, .int .i64 c, .int .i64 d, .int .i64 e] ∧ ∀ n ∈ [a, b, c, d, e], (Lit.int .i64 n).wf = true := by
  obtain ⟨ts, h1, h2, h3, h4, h5⟩ := h
  obtain ⟨ns, rfl, hl, hw⟩ := ints_open h1 h2 h3 h5 hv
  rw [h4] at hl
  match ns, hl with
  | [a, b, c, d, e], _ => exact ⟨a, b, c, d, e, rfl, hw⟩
theorem ints6 (h : IntsAt P t 6) (hv : Value.okWide P w r b0 t v) : ∃ a b c d e f : Int, v = .agg #[.int .i64 a, .int .i64 b, .int .i64 c, .int .i64 d, .int .i64 e, .int .i64 f] ∧ ∀ n ∈ [a, b, c, d, e, f], (Lit.int .i64 n).wf = true := by
  obtain ⟨ts, h1, h2, h3, h4, h5⟩ := h
  obtain ⟨ns, rfl, hl, hw⟩ := ints_open h1 h2 h3 h5 hv
  rw [h4] at hl
  match ns, hl with
  | [a, b, c, d, e, f], _ => exact ⟨a, b, c, d, e, f, rfl, hw⟩
end
end Go.Proofs.Ytdgjdbpbnipjcaa
