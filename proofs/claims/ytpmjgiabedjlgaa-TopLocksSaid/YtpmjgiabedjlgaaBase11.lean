/-
  AN APPEND INSIDE A REGION THAT DRAWS ITS ORDER. No condition.
-/
import Derived.Test.YtpmjgiabedjlgaaBase7
import Derived.Test.YtpmjgiabedjlgaaBase14
import Derived.RegionTactic
namespace Go.Proofs.Ytpmjgiabedjlgaa
open Go.RowKit
set_option linter.unusedVariables false

theorem step_append_many {P : Program} {α : Type} (f : α → Value) (hf : ∀ x, (f x).oneCell' = true) (w : World) {ops : Array Oper} {o : Oper} {a : Act} {K : Act → World → Prop} {Q : Exit → Act → World → Prop} {E : Prop}
    (hw : Region.wanted o (yielded ops a.tmps) = true) (s x : Operand) (t : TypeId)
    (ho : o.op = .call { callee := .builtin .append, args := #[s, x], argTypes := #[t, t] })
    (B : Nat) (e : TypeId) (z : Value) (bytes : Nat) (ht : P.underlying t = some (.slice e))
    (hinfo : (P.info? e).map (fun i => (i.zero, i.size, i.bytes)) = some (some z, 1, bytes)) (hzs : z.cells.size = 1)
    {v : Value} {n : Nat} {xs : List α} (hs : a.eval s = v) (hown : w.ownsRow B e 1 v n (cs f xs)) {ao : Option Addr} {m c : Nat} {ys : List α} (hx : a.eval x = .slice ao m c) (hsl : Sl w 1 ao m c (cs f ys))
    (h63 : n + m ≤ maxLen) (hbytes : (n + m) * bytes ≤ 140737488355328) (hB : B ≤ w.heap.size)
    (hK : ∀ v' w', w'.ownsRow B e 1 v' (n + m) (cs f (xs ++ ys)) → Below B w w' → K (a.put o.dst v') w') :
    if Region.wanted o (yielded ops a.tmps) = true then Oper.wp P o a w K Q else E := by
  rw [if_pos hw]
  obtain ⟨v', w', hrun, r1, r2, r0, r3, r4⟩ := run_append_acc (P := P) w B t t o.type e z 1 bytes ht hinfo hzs (by decide) v n (cs f xs) (.inl hown) (.slice ao m c) m (cs f ys)
    (src_sl w ht hsl (fun u hu => by unfold cs at hu; obtain ⟨y, _, rfl⟩ := List.mem_map.1 hu; exact hf y)) h63 hbytes hB
  have hfin : w'.ownsRow B e 1 v' (n + m) (cs f (xs ++ ys)) := by
    rw [cs_append]
    by_cases hm : 0 < m
    · exact r2 hm
    · obtain rfl : m = 0 := by omega
      obtain ⟨rfl, rfl⟩ := r0 rfl
      have hy : ys = [] := List.eq_nil_of_length_eq_zero hsl.count
      subst hy
      simpa [cs] using hown
  unfold Oper.wp execOp
  simp only [ho, resolve, invoke, builtin, Sem.run_bind, Sem.run_pure, Result.andThen_ok, List.map_toArray, List.map_cons, List.map_nil, hs, hx, hrun]
  exact hK v' w' hfin r4
theorem step_append_many0 {P : Program} {α : Type} (f : α → Value) (hf : ∀ x, (f x).oneCell' = true) (w : World) {ops : Array Oper} {o : Oper} {a : Act} {K : Act → World → Prop} {Q : Exit → Act → World → Prop} {E : Prop}
    (hgd : o.guard = none) (s x : Operand) (t : TypeId)
    (ho : o.op = .call { callee := .builtin .append, args := #[s, x], argTypes := #[t, t] })
    (B : Nat) (e : TypeId) (z : Value) (bytes : Nat) (ht : P.underlying t = some (.slice e))
    (hinfo : (P.info? e).map (fun i => (i.zero, i.size, i.bytes)) = some (some z, 1, bytes)) (hzs : z.cells.size = 1)
    {v : Value} {n : Nat} {xs : List α} (hs : a.eval s = v) (hown : w.ownsRow B e 1 v n (cs f xs)) {ao : Option Addr} {m c : Nat} {ys : List α} (hx : a.eval x = .slice ao m c) (hsl : Sl w 1 ao m c (cs f ys))
    (h63 : n + m ≤ maxLen) (hbytes : (n + m) * bytes ≤ 140737488355328) (hB : B ≤ w.heap.size)
    (hK : ∀ v' w', w'.ownsRow B e 1 v' (n + m) (cs f (xs ++ ys)) → Below B w w' → K (a.put o.dst v') w') :
    if Region.wanted o (yielded ops a.tmps) = true then Oper.wp P o a w K Q else E :=
  step_append_many f hf w (by simp [Region.wanted, hgd]) s x t ho B e z bytes ht hinfo hzs hs hown hx hsl h63 hbytes hB hK
theorem own_empty {α : Type} {f : α → Value} {W : World} {g B : Nat} {e : TypeId} (h : W.heap[g]? = some (.cells #[] e)) (hB : B ≤ g) : W.ownsRow B e 1 (.slice (some ⟨g, 0, none⟩) 0 0) 0 (cs f []) :=
  ⟨rfl, .inr ⟨g, 0, #[], rfl, hB, h, Nat.le_refl _, Nat.zero_le _, rfl, rfl⟩⟩
end Go.Proofs.Ytpmjgiabedjlgaa
