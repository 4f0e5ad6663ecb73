/-
  TopDemand: what the scenarios keep.
-/
import Derived.Test.YtjfakdbgcinpcaaTdU
import Derived.Test.YtjfakdbgcinpcaaTdJ
import Derived.Test.YtjfakdbgcinpcaaFc7
import Derived.Test.YtjfakdbgcinpcaaDrawL1
import Derived.Test.YtjfakdbgcinpcaaBase10
import Derived.Test.YtjfakdbgcinpcaaLk6
import Derived.BigQuiet
import Derived.BigRegion
import Derived.Deep.RegionHeld3
import Derived.Laws.StructEq
import Derived.StillTailTactics
import Derived.RegionTactic
import Derived.Deep.DeepCutAuto
import Derived.Deep.QuietTactic
import Derived.WalkSpells
import Derived.WalkLawsBesides
namespace Go.Proofs.Ytjfakdbgcinpcaa
open Go.RowKit
set_option linter.unusedVariables false

/-- The scenarios so far, in a row of the call's own. -/
structure DmW (W2 : World) (v : Value) (xss : List Cv) (W : World) : Prop where
  row : W.ownsRow W2.heap.size 34 1 v xss.length (cs csv xss)
  xs : ∀ x ∈ xss, W.ownsRow W2.heap.size 3 1 (csv x) x.zs.length (cs i64v x.zs) ∧ okS x.zs
  lo : Below W2.heap.size W2 W
theorem dmStart (W2 : World) : Hid (DmW W2 (.slice none 0 0) [] W2) := Lib.hid ⟨World.ownsRow_nil _ _ _ _, fun x hx => by simp at hx, Below.refl _ _⟩
theorem dmBelow {W2 W W' : World} {v : Value} {xss : List Cv} (h : Hid (DmW W2 v xss W)) (hb : Below W.heap.size W W') : Hid (DmW W2 v xss W') := Lib.hid ⟨ownsRow_ext h.out.row hb, fun x hx => ⟨ownsRow_ext (h.out.xs x hx).1 hb, (h.out.xs x hx).2⟩, h.out.lo.trans (hb.mono h.out.lo.size)⟩
theorem csv_one (x : Cv) : ∀ u ∈ (#[csv x] : Array Value).toList, u.oneCell' = true := by
  intro u hu
  simp at hu
  subst hu
  rfl
/-- One scenario more. -/
theorem dmMore {W2 W W3 : World} {v v' : Value} {xss : List Cv} {x : Cv} {E : TypeId} (h : Hid (DmW W2 v xss W)) (hx : W.ownsRow W2.heap.size 3 1 (csv x) x.zs.length (cs i64v x.zs)) (hs : okS x.zs)
    (ho : W3.ownsRow W2.heap.size 34 1 v' (xss.length + 1) (cs csv xss ++ (#[csv x] : Array Value).toList)) (hg : (W.alloc (.cells #[csv x] E)).grownBy W3 v.ownBlock) : Hid (DmW W2 v' (xss ++ [x]) W3) := by
  refine Lib.hid ⟨?_, fun y hy => ?_, ?_⟩
  · rw [List.length_append, cs_append]
    exact ho
  · rcases List.mem_append.1 hy with hy | hy
    · exact ⟨ownsRow_far (h.out.xs y hy).1 h.out.row (by decide) hg, (h.out.xs y hy).2⟩
    · simp at hy
      subst hy
      exact ⟨ownsRow_far hx h.out.row (by decide) hg, hs⟩
  · have h1 : Below W2.heap.size W2 (W.alloc (.cells #[csv x] E)) := h.out.lo.trans ((below_alloc _ _).mono h.out.lo.size)
    exact h1.grown hg h1.size (fun k hk => (own_ltF h.out.row hk).2.1)
theorem dmForm {W2 W : World} {v : Value} {xss : List Cv} (h : Hid (DmW W2 v xss W)) : ∃ a c, v = .slice a xss.length c ∧ Hid (Sl W 1 a xss.length c (cs csv xss)) ∧ Hid (∀ x ∈ xss, CvOk W x) := by
  obtain ⟨a, c, e, hs⟩ := sl_of_own h.out.row
  refine ⟨a, c, e, Lib.hid hs, Lib.hid (fun x hx => ?_)⟩
  obtain ⟨a', c', e', hs'⟩ := sl_of_own (h.out.xs x hx).1
  unfold csv at e'
  injection e' with e1 e2 e3
  subst e1 e3
  exact ⟨hs', (h.out.xs x hx).2⟩
theorem caseF_ok {r : Int × Int × Int} {ws : List (BitVec 64)} {zs : List Int} (h : caseF r ws = (zs, 0)) : okS zs := by
  unfold caseF at h
  by_cases h1 : r.2.2 ≠ 0
  · rw [if_pos h1] at h
    exact absurd (Prod.mk.inj h).2 h1
  rw [if_neg h1] at h
  by_cases h2 : (below ws 1000).2.2 ≠ 0
  · rw [if_pos h2] at h
    exact absurd (Prod.mk.inj h).2 (by decide)
  rw [if_neg h2] at h
  unfold case2 at h
  split at h
  · exact absurd (Prod.mk.inj h).2 (by decide)
  unfold caseB at h
  split at h
  · exact absurd (Prod.mk.inj h).2 (by decide)
  rename_i h4
  unfold caseT at h
  split at h
  · exact absurd (Prod.mk.inj h).2 (by decide)
  rename_i h5
  obtain ⟨rfl, _⟩ := Prod.mk.inj h
  refine ⟨fun s hs => ?_, ?_⟩
  · unfold stepsL at hs
    obtain ⟨p, _, rfl⟩ := List.mem_map.1 hs
    unfold stepOf isS
    split
    · exact .inr rfl
    · exact .inl rfl
  · rw [stepsL_len]
    have h6 := (shuffle_len (show shuffle _ _ = ((shuffle _ _).1, (shuffle _ _).2) from rfl)).2.1 (Classical.not_not.1 h5)
    omega
end Go.Proofs.Ytjfakdbgcinpcaa
