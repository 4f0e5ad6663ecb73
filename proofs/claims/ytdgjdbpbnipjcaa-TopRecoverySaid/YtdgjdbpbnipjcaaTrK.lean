/-
  EVENTS: how they are compared.
-/
import Derived.Test.YtdgjdbpbnipjcaaTrH
import Derived.Shelf.SlSortCmp.WholeK
import Derived.BigQuiet
import Derived.BigRegion
import Derived.Laws.StructEq
import Derived.StillTailTactics
import Derived.RegionTactic
import Derived.Deep.DeepCutAuto
import Derived.Deep.QuietTactic
import Derived.Deep.RegionHeld3
import Derived.WalkSpells
import Derived.WalkLawsBesides
namespace Go.Proofs.Ytdgjdbpbnipjcaa
open Go.RowKit Go.Sort
set_option linter.unusedVariables false

/-! ### plain: lists of numbers, compared -/
def cmpI (x y : Int) : Int := if x < y then -1 else if y < x then 1 else 0
def lexC : List Int → List Int → Int
  | x :: xs, y :: ys => if cmpI x y = 0 then lexC xs ys else cmpI x y
  | _, _ => 0
theorem cmpI_cases (x y : Int) : (x < y ∧ cmpI x y = -1) ∨ (x = y ∧ cmpI x y = 0) ∨ (y < x ∧ cmpI x y = 1) := by
  unfold cmpI
  by_cases h1 : x < y
  · exact .inl ⟨h1, if_pos h1⟩
  · by_cases h2 : y < x
    · exact .inr (.inr ⟨h2, by rw [if_neg h1, if_pos h2]⟩)
    · exact .inr (.inl ⟨by omega, by rw [if_neg h1, if_neg h2]⟩)
theorem lexC_self : ∀ xs : List Int, lexC xs xs = 0
  | [] => rfl
  | x :: xs => by
    unfold lexC
    have : cmpI x x = 0 := by rcases cmpI_cases x x with h | h | h <;> omega
    rw [if_pos this, lexC_self xs]
theorem lexC_cons (x y : Int) (xs ys : List Int) : (x < y ∧ lexC (x :: xs) (y :: ys) = -1) ∨ (x = y ∧ lexC (x :: xs) (y :: ys) = lexC xs ys) ∨ (y < x ∧ lexC (x :: xs) (y :: ys) = 1) := by
  show _ ∨ (_ ∧ (if cmpI x y = 0 then lexC xs ys else cmpI x y) = _) ∨ _
  have e : lexC (x :: xs) (y :: ys) = if cmpI x y = 0 then lexC xs ys else cmpI x y := rfl
  rw [e]
  rcases cmpI_cases x y with ⟨h, hc⟩ | ⟨h, hc⟩ | ⟨h, hc⟩
  · exact .inl ⟨h, by rw [hc, if_neg (by decide)]⟩
  · exact .inr (.inl ⟨h, by rw [if_pos hc]⟩)
  · exact .inr (.inr ⟨h, by rw [hc, if_neg (by decide)]⟩)
theorem lexC_trans : ∀ (xs ys zs : List Int), xs.length = ys.length → ys.length = zs.length → lexC xs ys < 0 → lexC ys zs < 0 → lexC xs zs < 0
  | [], [], zs, _, _, h, _ => by simp [lexC] at h
  | x :: xs, y :: ys, z :: zs, h1, h2, h3, h4 => by
    have ih := lexC_trans xs ys zs (by simpa using h1) (by simpa using h2)
    rcases lexC_cons x y xs ys with ⟨a, b⟩ | ⟨a, b⟩ | ⟨a, b⟩ <;> rcases lexC_cons y z ys zs with ⟨c, d⟩ | ⟨c, d⟩ | ⟨c, d⟩ <;> rcases lexC_cons x z xs zs with ⟨e, f⟩ | ⟨e, f⟩ | ⟨e, f⟩ <;> first | omega | (have := ih (by omega) (by omega); omega)
  | [], _ :: _, _, h, _, _, _ => by simp at h
  | _ :: _, [], _, h, _, _, _ => by simp at h
  | _ :: _, _ :: _, [], _, h, _, _ => by simp at h
theorem lexC_ntrans : ∀ (xs ys zs : List Int), xs.length = ys.length → ys.length = zs.length → 0 ≤ lexC xs ys → 0 ≤ lexC ys zs → 0 ≤ lexC xs zs
  | [], [], zs, _, _, _, _ => by simp [lexC]
  | x :: xs, y :: ys, z :: zs, h1, h2, h3, h4 => by
    have ih := lexC_ntrans xs ys zs (by simpa using h1) (by simpa using h2)
    rcases lexC_cons x y xs ys with ⟨a, b⟩ | ⟨a, b⟩ | ⟨a, b⟩ <;> rcases lexC_cons y z ys zs with ⟨c, d⟩ | ⟨c, d⟩ | ⟨c, d⟩ <;> rcases lexC_cons x z xs zs with ⟨e, f⟩ | ⟨e, f⟩ | ⟨e, f⟩ <;> first | omega | (have := ih (by omega) (by omega); omega)
  | [], _ :: _, _, h, _, _, _ => by simp at h
  | _ :: _, [], _, h, _, _, _ => by simp at h
  | _ :: _, _ :: _, [], _, h, _, _ => by simp at h
theorem swo_lex {α : Type} (K : α → List Int) (n : Nat) (hK : ∀ x, (K x).length = n) : SWO (ltOf fun x y : α => lexC (K x) (K y)) where
  irrefl x := by unfold ltOf; simp [lexC_self]
  trans x y z h1 h2 := by
    unfold ltOf at *
    simp at *
    exact lexC_trans _ _ _ (by rw [hK, hK]) (by rw [hK, hK]) h1 h2
  ntrans x y z h1 h2 := by
    unfold ltOf at *
    simp at *
    exact lexC_ntrans _ _ _ (by rw [hK, hK]) (by rw [hK, hK]) h1 h2
def keyL (x : EvL) : List Int := [x.a, x.d, x.s, x.l, x.k, x.b, x.p, x.r, x.e]
def cmpE (x y : EvL) : Int := lexC (keyL x) (keyL y)
def cmp1 (x y : EvL) : Int := lexC (x.d :: x.s :: keyL x) (y.d :: y.s :: keyL y)
theorem swo_cmpE : SWO (ltOf cmpE) := swo_lex keyL 9 (fun _ => rfl)
theorem swo_cmp1 : SWO (ltOf cmp1) := swo_lex (fun x : EvL => x.d :: x.s :: keyL x) 11 (fun _ => rfl)
def or3 (x y z : Int) : Int := if x = 0 then (if y = 0 then z else y) else x
theorem cmp1_or (x y : EvL) : or3 (cmpI x.d y.d) (cmpI x.s y.s) (cmpE x y) = cmp1 x y := rfl

/-! ### worlds that have grown -/
def GrW (W W' : World) : Prop := ∃ q os, W' = grow (W.drewN q) os
theorem GrW.refl (W : World) : GrW W W := ⟨0, #[], by rw [grow_empty]; rfl⟩
theorem GrW.trans {a b c : World} (h : GrW a b) (k : GrW b c) : GrW a c := by
  obtain ⟨n, os, rfl⟩ := h
  obtain ⟨q, os', rfl⟩ := k
  exact ⟨n + q, os ++ os', by show grow (grow ((a.drewN n).drewN q) os) os' = _; rw [grow_grow, World.drewN_drewN]⟩
theorem grw_alloc (W : World) (o : Obj) : GrW W (W.alloc o) := ⟨0, #[o], by rw [alloc_eq_grow]; rfl⟩
theorem grw_drewN (W : World) (n : Nat) : GrW W (W.drewN n) := ⟨n, #[], by rw [grow_empty]⟩
theorem grw_drew (W : World) : GrW W W.drew := ⟨1, #[], by rw [grow_empty]; rfl⟩
theorem GrW.below {W W' : World} (h : GrW W W') : Below W.heap.size W W' := by
  obtain ⟨q, os, rfl⟩ := h
  refine ⟨rfl, rfl, rfl, ?_, fun k hk => ?_⟩
  · show W.heap.size ≤ (W.heap ++ os).size
    simp
  · show (W.heap ++ os)[k]? = W.heap[k]?
    exact Array.getElem?_append_left hk

/-! ### the walks -/
theorem cmpI_any (x y : Int) (w : World) : Calls Try.prog 39 #[.int .i64 x, .int .i64 y] w (fun e w' => e = .returned (.int .i64 (cmpI x y)) ∧ w' = w) := by
  rcases cmpI_cases x y with ⟨h, hc⟩ | ⟨h, hc⟩ | ⟨h, hc⟩
  · rw [hc]
    go_enter Try.func39, Try.ntmps39
    go_wp2
    go_ret
    exact ⟨rfl, rfl⟩
  · rw [hc]
    subst h
    go_enter Try.func39, Try.ntmps39
    go_wp2
    go_ret
    exact ⟨rfl, rfl⟩
  · rw [hc]
    have h' : ¬ x < y := by omega
    go_enter Try.func39, Try.ntmps39
    go_wp2
    go_ret
    exact ⟨rfl, rfl⟩
theorem three_cells {W : World} {k : Nat} {x0 x1 x2 : Value} (h : BlkAt W k #[x0, x1, x2]) : W.cell? ⟨k, 0, none⟩ = some x0 ∧ W.cell? ⟨k, 1, none⟩ = some x1 ∧ W.cell? ⟨k, 2, none⟩ = some x2 := by
  obtain ⟨E, h⟩ := h
  refine ⟨?_, ?_, ?_⟩ <;> (rw [cell_of_row _ _ _ _ _ _ h]; rfl)
set_option maxHeartbeats 2000000 in
theorem or3_any {g : Nat} {x y z : Int} (w : World) (hb : BlkAt w g #[.int .i64 x, .int .i64 y, .int .i64 z]) : Calls Try.prog 38 #[.slice (some ⟨g, 0, none⟩) 3 3] w (fun e w' => e = .returned (.int .i64 (or3 x y z)) ∧ w' = w) := by
  obtain ⟨c0, c1, c2⟩ := three_cells hb
  obtain ⟨T, hT⟩ : ∃ T, or3 x y z = T := ⟨_, rfl⟩
  rw [hT]
  unfold or3 at hT
  have HT := Lib.hid hT
  clear hb hT
  go_enter Try.func38, Try.ntmps38
  go_wp2
  refine wp_loop_rounds 4 ?_
  by_cases hx : x = 0
  · subst hx
    by_cases hy : y = 0
    · subst hy
      by_cases hz : z = 0
      · subst hz
        obtain rfl : 0 = T := HT.out
        rw [rounds_succ]
        go_wp2
        rw [rounds_succ]
        go_wp2
        rw [rounds_succ]
        go_wp2
        rw [rounds_succ]
        go_wp2
        go_ret
        exact ⟨rfl, rfl⟩
      · obtain rfl : z = T := HT.out
        rw [rounds_succ]
        go_wp2
        rw [rounds_succ]
        go_wp2
        rw [rounds_succ]
        go_wp2
        go_ret
        exact ⟨rfl, rfl⟩
    · obtain rfl : y = T := by rw [← HT.out, if_pos rfl, if_neg hy]
      rw [rounds_succ]
      go_wp2
      rw [rounds_succ]
      go_wp2
      go_ret
      exact ⟨rfl, rfl⟩
  · obtain rfl : x = T := by rw [← HT.out, if_neg hx]
    rw [rounds_succ]
    go_wp2
    go_ret
    exact ⟨rfl, rfl⟩
end Go.Proofs.Ytdgjdbpbnipjcaa
