/-
  SLICES FOR THE WALK, MORE: make with a capacity. No condition.
-/
import Derived.Test.YtjfakdbgcinpcaaBase7
namespace Go.Proofs.Ytjfakdbgcinpcaa
open Go.RowKit
set_option linter.unusedVariables false

/-- 'make([]T, 0, n)'. -/
theorem wpList_make_cap {P : Program} {α : Type} (f : α → Value) (w : World) {ops : Array Oper} {rest : List Oper} {o : Oper} {a : Act} {Q : Exit → Act → World → Prop}
    (hg : o.guard = none) (l c : Operand) (t : TypeId) (hop : o.op = Op.makeSlice t l c)
    (e : TypeId) (z : Value) (bytes : Nat) (h1 : P.underlying t = some (.slice e)) (hinfo : (P.info? e).map (fun i => (i.zero, i.size, i.bytes)) = some (some z, 1, bytes))
    (kl kc : IntKind) (C : Int) (n : Nat) (hl : a.eval l = .int kl 0) (hc : a.eval c = .int kc C) (hC : C = (n : Int)) (b2 : bytes * n ≤ 281474976710656) (b3 : n ≤ maxLen)
    (hK : ∀ w', w'.ownsRow w.heap.size e 1 (.slice (some ⟨w.heap.size, 0, none⟩) 0 n) 0 (cs f []) → Below w.heap.size w w' → wpList P ops Q rest (a.put o.dst (.slice (some ⟨w.heap.size, 0, none⟩) 0 n)) w') :
    wpList P ops Q (o :: rest) a w := by
  obtain ⟨i, hi, hz0, hsz, rfl⟩ := info_parts hinfo
  refine wpList_make_own w hg l c t hop w.heap.size e i z 1 h1 hi hz0 hsz kl kc C n hl hc hC b2 b3 (Nat.le_refl _) fun w' h2 h3 => ?_
  exact hK w' h2 ((Below.refl w.heap.size w).grown h3 (Nat.le_refl _) (fun k hk => by cases hk))
end Go.Proofs.Ytjfakdbgcinpcaa
