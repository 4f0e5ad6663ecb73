/-
  EVENTS: slices.Clone at events, event.Set.
-/
import Derived.Test.YtdgjdbpbnipjcaaTrP
import Derived.Test.YtdgjdbpbnipjcaaTrF
import Derived.BigQuiet
import Derived.BigRegion
import Derived.Laws.StructEq
import Derived.StillTailTactics
import Derived.RegionTactic
import Derived.Deep.DeepCutAuto
import Derived.Deep.QuietTactic
import Derived.WalkSpells
import Derived.WalkLawsBesides
namespace Go.Proofs.Ytdgjdbpbnipjcaa
open Go.RowKit Go.Sort
set_option linter.unusedVariables false

theorem flatE_one (l : List EvL) : ∀ u ∈ flatV evA l, u.oneCell' = true := by
  intro u hu
  unfold flatV at hu
  obtain ⟨x, _, hx⟩ := List.mem_flatMap.1 hu
  exact evOne x u hx
/-- 'append(out, xs...)' at events, out the call's own. -/
theorem wpList_append_evs (w : World) {ops : Array Oper} {rest : List Oper} {o : Oper} {a : Act} {Q : Exit → Act → World → Prop} (hgd : o.guard = none) (s x : Operand)
    (ho : o.op = .call { callee := .builtin .append, args := #[s, x], argTypes := #[25, 25] })
    (B : Nat) {v : Value} {n : Nat} {xs : List EvL} (hown : w.ownsRow B 27 9 v n (flatV evA xs)) (hs : a.eval s = v) {ao : Option Addr} {m c : Nat} {ys : List EvL} (hsl : Sl w 9 ao m c (flatV evA ys))
    (hx : a.eval x = .slice ao m c)
    (h63 : n + m ≤ 1000000) (hB : B ≤ w.heap.size)
    (hK : ∀ v' w', w'.ownsRow B 27 9 v' (n + m) (flatV evA (xs ++ ys)) → Below B w w' → wpList Try.prog ops Q rest (a.put o.dst v') w') :
    wpList Try.prog ops Q (o :: rest) a w := by
  refine wpList_append_src w hgd s x _ _ ho B 27 (.agg #[.int .i64 0, .int .i64 0, .int .i64 0, .int .i64 0, .int .i64 0, .int .i64 0, .int .i64 0, .int .i64 0, .int .i64 0]) 9 72 Try.underlying25 infoEv rfl (by decide) hown hs (src_sl w Try.underlying25 hsl (flatE_one ys)) hx (by unfold maxLen; omega) (by omega) hB fun v' w' r2 r3 r4 => ?_
  refine hK v' w' ?_ r4
  rw [flatV_append]; exact r2
def RetOwnV (w : World) (xs : List EvL) (e : Ending) (w' : World) : Prop := ∃ v, e = .returned v ∧ w'.ownsRow w.heap.size 27 9 v xs.length (flatV evA xs) ∧ Below w.heap.size w w'
set_option maxHeartbeats 1000000 in
theorem cloneE_any (xs : List EvL) (ao : Option Addr) (la ca : Nat) (w : World) (ha : Sl w 9 ao la ca (flatV evA xs)) (hl : xs.length = la) (hla : la ≤ 1000000) :
    Calls Try.prog 35 #[.slice ao la ca] w (RetOwnV w xs) := by
  cases ao with
  | none =>
    have h0 := ha.hbare rfl
    have hle := ha.hle
    obtain rfl : la = 0 := by omega
    have hx : xs = [] := List.eq_nil_of_length_eq_zero hl
    subst hx
    subst h0
    have hnil : ∀ w : World, (binOp .eql 25 (.slice none 0 0) (.slice none 0 0)).run Try.prog w = .ok (.bool true) w := fun w => Lib.run_eql_slice_nil w _ _ none 0 0 0 0 Try.underlying25
    clear ha hle
    go_enter Try.func35, Try.ntmps35
    go_wp2
    go_ret
    exact ⟨_, rfl, World.ownsRow_nil _ _ _ _, Below.refl _ _⟩
  | some a =>
    have hnil : ∀ w : World, (binOp .eql 25 (.slice (some a) la ca) (.slice none 0 0)).run Try.prog w = .ok (.bool false) w := fun w => Lib.run_eql_slice_nil w _ _ (some a) la ca 0 0 Try.underlying25
    have HA := Lib.hid ha
    have HL := Lib.hid hl
    clear ha hl
    go_enter Try.func35, Try.ntmps35
    go_wp2_with (at_builtin; refine wpList_append_evs _ rfl _ _ rfl w.heap.size (v := .slice (some ⟨w.heap.size, 0, none⟩) 0 0) (n := 0) (xs := []) (World.ownsRow_lit w #[] 0 (Nat.le_refl _) (by decide) rfl) rfl (HA.out.ext (below_alloc _ _)) rfl (by omega) (by simp) ?_)
    intro v1 w1 ho1 hb1
    go_wp2
    go_ret
    refine ⟨v1, rfl, ?_, (below_alloc _ _).trans hb1⟩
    rw [HL.out]
    simpa using ho1
def setL (l : List EvL) : List EvL := srt cmpE (cptL (srt cmp1 l))
theorem setL_len (l : List EvL) : (setL l).length ≤ l.length := by
  unfold setL
  rw [srt_len swo_cmpE]
  have := cptL_len (srt cmp1 l)
  rw [srt_len swo_cmp1] at this
  exact this
theorem setL_mem (l : List EvL) (x : EvL) (h : x ∈ setL l) : x ∈ l := srt_mem swo_cmp1 l x (cptL_mem _ x (srt_mem swo_cmpE _ x h))
theorem own_below {w w0 w' : World} {B n : Nat} {v : Value} {e : TypeId} {xs : List Value} {s : Nat} (h : w.ownsRow B e s v n xs) (hb : Below B w0 w) (hs : B ≤ w.heap.size) (hg : w.grownBy w' v.ownBlock) : Below B w0 w' :=
  Below.grown hb hg hs (fun k hk => (h.lt k hk).1)
set_option maxHeartbeats 1000000 in
theorem set_any (l : List EvL) (ao : Option Addr) (la ca : Nat) (w : World) (ha : Sl w 9 ao la ca (flatV evA l)) (hl : l.length = la) (hla : la ≤ 1000000) :
    Calls Try.prog 28 #[.slice ao la ca] w (RetOwnV w (setL l)) := by
  have HA := Lib.hid (cloneE_any l ao la ca w ha hl hla)
  have eg1 : ∀ args w, (callFunc 37 args).run Try.prog w = .ok (.enter 37 args) w := enters_of Try.func37 (by kernel_rfl) rfl
  have eg2 : ∀ args w, (callFunc 40 args).run Try.prog w = .ok (.enter 40 args) w := enters_of Try.func40 (by kernel_rfl) rfl
  have HE1 := Lib.hid eg1
  have HE2 := Lib.hid eg2
  have HL := Lib.hid hl
  clear ha eg1 eg2 hl
  go_enter Try.func28, Try.ntmps28
  go_wp2_with fail
  refine HA.out.mono ?_
  rintro e w1 ⟨v1, rfl, ho1, hb1⟩
  have H1 := Lib.hid (And.intro ho1 hb1)
  clear ho1 hb1 HA
  go_wp2_with fail
  refine (sort_any cmp1 swo_cmp1 _ HE1.out laysS l w1 H1.out.1 rfl (by rw [HL.out]; exact hla)).mono ?_
  rintro e w2 ⟨rfl, ho2, hg2⟩
  have H2 := Lib.hid (And.intro ho2 (own_below H1.out.1 H1.out.2 H1.out.2.size hg2))
  clear ho2 hg2
  go_wp2_with fail
  refine (compact_any (srt cmp1 l) w2 H2.out.1 (srt_len swo_cmp1 l) (by rw [HL.out]; exact hla)).mono ?_
  rintro e w3 ⟨v3, rfl, ho3, hg3⟩
  have H3 := Lib.hid (And.intro ho3 (own_below H2.out.1 H2.out.2 H2.out.2.size hg3))
  clear ho3 hg3
  go_wp2_with fail
  refine (sort_any cmpE swo_cmpE _ HE2.out laysC (cptL (srt cmp1 l)) w3 H3.out.1 rfl (by have := cptL_len (srt cmp1 l); rw [srt_len swo_cmp1, HL.out] at this; omega)).mono ?_
  rintro e w4 ⟨rfl, ho4, hg4⟩
  have H4 := Lib.hid (And.intro ho4 (own_below H3.out.1 H3.out.2 H3.out.2.size hg4))
  clear ho4 hg4
  go_wp2_with fail
  go_ret
  refine ⟨v3, rfl, ?_, H4.out.2⟩
  have e : (setL l).length = (cptL (srt cmp1 l)).length := by unfold setL; rw [srt_len swo_cmpE]
  rw [e]
  exact H4.out.1
end Go.Proofs.Ytdgjdbpbnipjcaa
