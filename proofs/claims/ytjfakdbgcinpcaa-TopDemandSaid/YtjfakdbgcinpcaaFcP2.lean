/-
  FORECAST, THE PLAIN LAW: the scenario. No program in sight.
-/
import Derived.Test.YtjfakdbgcinpcaaFc3
import Derived.Test.YtjfakdbgcinpcaaFc6
import Derived.Test.YtjfakdbgcinpcaaDrawL0
import Derived.Test.YtjfakdbgcinpcaaDrawP2
namespace Go.Proofs.Ytjfakdbgcinpcaa
open Go.RowKit
set_option linter.unusedVariables false

def stepOf (a p : Int) : Int := if p < a then -1 else 1
def stepsL (a : Int) (L : List Int) : List Int := L.map (stepOf a)
theorem stepOf_lt {a p : Int} (h : p < a) : stepOf a p = -1 := by unfold stepOf; rw [if_pos h]
theorem stepOf_ge {a p : Int} (h : ¬ p < a) : stepOf a p = 1 := by unfold stepOf; rw [if_neg h]
theorem stepsL_len (a : Int) (L : List Int) : (stepsL a L).length = L.length := by unfold stepsL; simp
def caseT (s : List Int × Int) (a : Int) : List Int × Int := if s.2 ≠ 0 then ([], 4) else (stepsL a s.1, 0)
def caseB (ws : List (BitVec 64)) (a b : Int) : List Int × Int := if 64 < a + b then ([], 8) else caseT (shuffle ws (a + b)) a
def case2 (ws : List (BitVec 64)) (a n : Int) : List Int × Int := if (below ws 1000).2.2 ≠ 0 then ([], 4) else caseB (ws.drop (below ws 1000).2.1.toNat) a (rnd n (below ws 1000).1)
def caseF (r : Int × Int × Int) (ws : List (BitVec 64)) : List Int × Int :=
  if r.2.2 ≠ 0 then ([], r.2.2) else if (below ws 1000).2.2 ≠ 0 then ([], 4) else case2 (ws.drop (below ws 1000).2.1.toNat) (rnd r.1 (below ws 1000).1) r.2.1
theorem caseF_e {o i e : Int} {ws : List (BitVec 64)} (he : e ≠ 0) : caseF (o, i, e) ws = ([], e) := by unfold caseF; rw [if_pos he]
theorem caseF_1 {o i x u e : Int} {ws : List (BitVec 64)} (h : below ws 1000 = (x, u, e)) (he : e ≠ 0) : caseF (o, i, 0) ws = ([], 4) := by unfold caseF; rw [if_neg (fun h : (0 : Int) ≠ 0 => h rfl), h, if_pos he]
theorem caseF_2 {o i x u : Int} {ws : List (BitVec 64)} (h : below ws 1000 = (x, u, 0)) : caseF (o, i, 0) ws = case2 (ws.drop u.toNat) (rnd o x) i := by
  unfold caseF; rw [if_neg (fun h : (0 : Int) ≠ 0 => h rfl), h, if_neg (fun h : (0 : Int) ≠ 0 => h rfl)]
theorem case2_1 {a n x u e : Int} {ws : List (BitVec 64)} (h : below ws 1000 = (x, u, e)) (he : e ≠ 0) : case2 ws a n = ([], 4) := by unfold case2; rw [h, if_pos he]
theorem case2_2 {a n x u : Int} {ws : List (BitVec 64)} (h : below ws 1000 = (x, u, 0)) : case2 ws a n = caseB (ws.drop u.toNat) a (rnd n x) := by unfold case2; rw [h, if_neg (fun h : (0 : Int) ≠ 0 => h rfl)]
theorem caseB_1 {a b : Int} {ws : List (BitVec 64)} (h : 64 < a + b) : caseB ws a b = ([], 8) := by unfold caseB; rw [if_pos h]
theorem caseB_2 {a b : Int} {ws : List (BitVec 64)} (h : ¬ 64 < a + b) {L : List Int} {e : Int} (hs : shuffle ws (a + b) = (L, e)) : caseB ws a b = if e ≠ 0 then ([], 4) else (stepsL a L, 0) := by unfold caseB; rw [if_neg h, hs]; rfl
theorem rnd_bounds {n : Int} (x : Int) (h0 : 0 ≤ n) (h1 : n ≤ 200000000000) : 0 ≤ rnd n x ∧ rnd n x ≤ 200000001 := by unfold rnd; split <;> omega
theorem expc_bounds {st k p s sl h o i : Int} {xs ys : List Int} (hr : expc st xs ys k p s sl h = (o, i, 0)) : (0 ≤ o ∧ o ≤ 200000000000) ∧ (0 ≤ i ∧ i ≤ 200000000000) := by
  unfold expc at hr
  split at hr
  · rename_i hc; simp at hr; exact absurd hr.2.2 hc
  · rename_i hc
    split at hr
    · simp at hr
    · split at hr
      · simp at hr
      · rename_i q
        obtain ⟨z0, z1, z2, z3, z4, z5⟩ := okC_ok (Decidable.not_not.mp hc)
        have hk : okR k p := Decidable.not_not.mp (fun g => q (.inl g))
        have b1 := expS_bounds s sl z4 hk h.toNat
        have b2 := expS_bounds s sl z5 hk h.toNat
        have h168 : ((h.toNat : Nat) : Int) ≤ 168 := by omega
        have h3 : ((h.toNat : Nat) : Int) * 1001000000 ≤ 168 * 1001000000 := by omega
        simp at hr
        omega
theorem stepsL_take {a : Int} {L S : List Int} {k : Nat} (hk : k < L.length) (hS : S = stepsL a (L.take k)) : S ++ [stepOf a (L.getD k 0)] = stepsL a (L.take (k + 1)) := by
  subst hS
  unfold stepsL
  rw [List.take_add_one, List.map_append]
  congr 1
  simp [List.getD, hk]
end Go.Proofs.Ytjfakdbgcinpcaa
