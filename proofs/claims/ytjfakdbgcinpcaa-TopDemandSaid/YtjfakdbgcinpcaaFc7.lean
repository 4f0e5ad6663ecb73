/-
  FORECAST, THE WALKS: Case.
-/
import Derived.Test.YtjfakdbgcinpcaaProg
import Derived.Test.YtjfakdbgcinpcaaBase7
import Derived.Test.YtjfakdbgcinpcaaBase12
import Derived.Test.YtjfakdbgcinpcaaDraw4
import Derived.Test.YtjfakdbgcinpcaaDraw5
import Derived.Test.YtjfakdbgcinpcaaHeld
import Derived.Lib.SmallJoins
import Derived.BigQuiet
import Derived.Laws.StructEq
import Derived.StillTailTactics
import Derived.RegionTactic
import Derived.Deep.DeepCutAuto
import Derived.Deep.QuietTactic
import Derived.WalkSpells
import Derived.WalkLawsBesides
import Derived.Test.YtjfakdbgcinpcaaDrawL0
import Derived.Test.YtjfakdbgcinpcaaDrawP2
import Derived.Test.YtjfakdbgcinpcaaFcP
import Derived.Test.YtjfakdbgcinpcaaFc1
import Derived.Test.YtjfakdbgcinpcaaFc2
import Derived.Test.YtjfakdbgcinpcaaFc3
import Derived.Test.YtjfakdbgcinpcaaFc3c
import Derived.Test.YtjfakdbgcinpcaaFc6
import Derived.Test.YtjfakdbgcinpcaaFcP2
namespace Go.Proofs.Ytjfakdbgcinpcaa
open Go.RowKit
set_option linter.unusedVariables false

theorem expected_s {st k p s sl h : Int} {xs ys : List Int} {a1 a2 : Option Addr} {l1 c1 l2 c2 : Nat} {o i e : Int} {w W : World} (hr : Hid (expc st xs ys k p s sl h = (o, i, e))) (h1 : Hid (Sl w 1 a1 l1 c1 (cs i64v xs))) (h2 : Hid (Sl w 1 a2 l2 c2 (cs i64v ys))) (hb : Below w.heap.size w W) :
    Calls Try.prog 15 #[.agg #[.int .i64 st, .slice a1 l1 c1, .slice a2 l2 c2], .int .i64 k, .int .i64 p, .int .i64 s, .int .i64 sl, .int .i64 h] W (fun q w' => q = .returned (.tuple #[.int .i64 o, .int .i64 i, .int .i64 e]) ∧ Below W.heap.size W w') := by
  have := expected_any st k p s sl h xs ys a1 l1 c1 a2 l2 c2 W (h1.out.ext hb) (h2.out.ext hb)
  rw [hr.out] at this
  exact this
theorem below_box {w W W' : World} {o : Obj} (hW : W = w.alloc o) (hb : Below W.heap.size W W') : Below w.heap.size w W' := by
  subst hW; exact below_step (below_alloc _ _) hb
/-- The words' own cell. -/
theorem wcell {w w1 : World} {ao : Option Addr} {len cap : Nat} {E : TypeId} (hb : Below w.heap.size w w1) :
    BlkAt (w1.alloc (.cells #[.slice ao len cap] E)) w1.heap.size #[.slice ao len cap] ∧ Below w.heap.size w (w1.alloc (.cells #[.slice ao len cap] E)) :=
  ⟨blkNew rfl, below_step hb (below_alloc _ _)⟩

set_option maxRecDepth 100000 in
set_option maxHeartbeats 4000000 in
theorem case_any (st k p s sl h : Int) (xs ys : List Int) (ws : List (BitVec 64)) (a1 : Option Addr) (l1 c1 : Nat) (a2 : Option Addr) (l2 c2 : Nat) (ao : Option Addr) (len cap : Nat) (w : World) (h1 : Sl w 1 a1 l1 c1 (cs i64v xs)) (h2 : Sl w 1 a2 l2 c2 (cs i64v ys)) (hs : Sl w 1 ao len cap (cs u64 ws)) (hlen : len ≤ 1000000000000) :
    Calls Try.prog 6 #[cntV st a1 l1 c1 a2 l2 c2, .int .i64 k, .int .i64 p, .int .i64 s, .int .i64 sl, .int .i64 h, .slice ao len cap] w (RetLE (caseF (expc st xs ys k p s sl h) ws) w) := by
  have hmf : ∀ (fn : Fn) (first cap : Array Value) (w : World), (Instr.makeFunc fn first cap).run Try.prog w = .ok (.func fn first cap) w := fun _ _ _ _ => rfl
  unfold cntV
  obtain ⟨⟨o, i, e⟩, hr⟩ : ∃ r, expc st xs ys k p s sl h = r := ⟨_, rfl⟩
  rw [hr]
  obtain ⟨T, hT⟩ : ∃ T, caseF (o, i, e) ws = T := ⟨_, rfl⟩
  rw [hT]
  have HR := Lib.hid hr
  have H1 := Lib.hid h1
  have H2 := Lib.hid h2
  have HS := Lib.hid hs
  clear h1 h2 hs
  by_cases he : e = 0
  · subst he
    obtain ⟨⟨o0, o1⟩, i0, i1⟩ := expc_bounds hr
    clear hr
    obtain ⟨⟨x, u, e1⟩, hx⟩ : ∃ r, below ws 1000 = r := ⟨_, rfl⟩
    by_cases he1 : e1 = 0
    · subst he1
      rw [caseF_2 hx] at hT
      have hu := ((below_props hx).1 rfl).2.2.1
      obtain ⟨A0, A1⟩ := rnd_bounds x o0 o1
      have HX := Lib.hid hx
      clear hx
      obtain ⟨⟨y, v, e2⟩, hy⟩ : ∃ r, below (ws.drop u.toNat) 1000 = r := ⟨_, rfl⟩
      by_cases he2 : e2 = 0
      · subst he2
        rw [case2_2 hy] at hT
        obtain ⟨B0, B1⟩ := rnd_bounds y i0 i1
        have HY := Lib.hid hy
        clear hy
        have hro := rounded_ok (n := o) HS.out hlen HX o0 o1 (g := 0) (w := w)
        clear hro
        obtain ⟨A, hA⟩ : ∃ A, rnd o x = A := ⟨_, rfl⟩
        obtain ⟨B, hB⟩ : ∃ B, rnd i y = B := ⟨_, rfl⟩
        rw [hA] at hT A0 A1
        rw [hB] at hT B0 B1
        have HA := Lib.hid hA
        have HB := Lib.hid hB
        clear hA hB
        by_cases hAB : 64 < A + B
        · rw [caseB_1 hAB] at hT
          have HT := Lib.hid hT.symm
          clear hT
          go_enter Try.func6, Try.ntmps6
          go_wp2_with fail
          refine (expected_s HR H1 H2 (below_alloc _ _)).mono ?_
          rintro er w1 ⟨rfl, hb1⟩
          have hb1' := below_box rfl hb1
          obtain ⟨k1, hb2⟩ := wcell (ao := ao) (len := len) (cap := cap) (E := 43) hb1'
          have K1 := Lib.hid k1
          have HB2 := Lib.hid hb2
          have hz := hb1'.size
          clear k1 hb2 hb1 hb1'
          go_wp2_with fail
          refine (rounded_ok (n := o) HS.out hlen HX o0 o1 HB2.out hz K1.out).mono ?_
          rw [HA.out]
          rintro er w2 ⟨a', rfl, s2, k2, hb2⟩
          have S2 := Lib.hid s2
          have K2 := Lib.hid k2
          have HB2 := Lib.hid hb2
          clear s2 k2 hb2
          go_wp2_with fail
          refine (rounded_ok (n := i) S2.out (by omega) HY i0 i1 HB2.out hz K2.out).mono ?_
          rw [HB.out]
          rintro er w3 ⟨a'', rfl, s3, k3, hb3⟩
          have HB3 := Lib.hid hb3
          clear s3 k3 hb3
          go_wp2_with fail
          go_ret2
          exact retLE_nil HT.out HB3.out
        · obtain ⟨⟨L, e3⟩, hL⟩ : ∃ r, shuffle ((ws.drop u.toNat).drop v.toNat) (A + B) = r := ⟨_, rfl⟩
          rw [caseB_2 hAB hL] at hT
          obtain ⟨len1, len2, len3⟩ := shuffle_len hL
          have HL := Lib.hid hL
          clear hL
          by_cases he3 : e3 = 0
          · subst he3
            rw [if_neg (fun h : (0 : Int) ≠ 0 => h rfl)] at hT
            have HT := Lib.hid hT.symm
            clear hT len2 len3
            go_enter Try.func6, Try.ntmps6
            go_wp2_with fail
            refine (expected_s HR H1 H2 (below_alloc _ _)).mono ?_
            rintro er w1 ⟨rfl, hb1⟩
            have hb1' := below_box rfl hb1
            obtain ⟨k1, hb2⟩ := wcell (ao := ao) (len := len) (cap := cap) (E := 43) hb1'
            have K1 := Lib.hid k1
            have HB2 := Lib.hid hb2
            have hz := hb1'.size
            clear k1 hb2 hb1 hb1'
            go_wp2_with fail
            refine (rounded_ok (n := o) HS.out hlen HX o0 o1 HB2.out hz K1.out).mono ?_
            rw [HA.out]
            rintro er w2 ⟨a', rfl, s2, k2, hb2⟩
            have S2 := Lib.hid s2
            have K2 := Lib.hid k2
            have HB2 := Lib.hid hb2
            clear s2 k2 hb2
            go_wp2_with fail
            refine (rounded_ok (n := i) S2.out (by omega) HY i0 i1 HB2.out hz K2.out).mono ?_
            rw [HB.out]
            rintro er w3 ⟨a'', rfl, s3, k3, hb3⟩
            have S3 := Lib.hid s3
            have HB3 := Lib.hid hb3
            obtain ⟨d3, f3⟩ := one_facts k3
            clear s3 k3 hb3 f3
            go_wp2_with fail
            refine (shuffle_val (S3.out.ext HB3.out) (by omega) HL).mono ?_
            rintro er w4 ⟨ap, m, c, rfl, s4, hm, hb4⟩
            have S4 := Lib.hid s4
            have HM := Lib.hid hm
            have HB4 := Lib.hid (below_step HB3.out hb4)
            have hm' : m ≤ 256 := by omega
            clear s4 hm hb4
            go_wp2_with (refine wpList_make_cap i64v _ rfl _ _ 34 rfl 3 (.int .i64 0) 8 Try.underlying34 infoI .i64 .i64 _ m rfl rfl rfl (by omega) (by unfold maxLen; omega) ?_)
            intro w5 ho5 hb5
            have HB5 := Lib.hid hb5
            have HCL := Lib.hid S4.out.count
            clear hb5
            go_wp2_with fail
            go_loopw [24, 80] (fun v i wr => ∃ (k : Nat) (S : List Int), k ≤ m ∧ i = .int .i64 k ∧ Hid (S = stepsL A (L.take k)) ∧ wr.ownsRow w4.heap.size 3 1 v k (cs i64v S) ∧ Hid (Below w4.heap.size w4 wr)) (fun _ i _ => m - (intOf i).toNat)
            case atStart => exact ⟨0, [], by omega, rfl, rfl, ho5, HB5⟩
            case round =>
              obtain ⟨k, S, hk, rfl, hS, ho, hb⟩ := hrel
              clear HB5
              have hz5 := hb.out.size
              by_cases hkm : k < m
              · have hkm' : (k : Int) < (m : Int) := by omega
                have hk0 : (0 : Int) ≤ (k : Int) := by omega
                obtain ⟨b, off, e0, hcell⟩ := (S4.out.ext hb.out).at_ k hkm 0
                subst e0
                have hcell' : wr.cell? ⟨b, off + k, none⟩ = some (.int .i64 (L.getD k 0)) := hcell
                have hnext := stepsL_take (by rw [HCL.out]; exact hkm) hS.out
                clear hcell hS
                by_cases hlt : L.getD k 0 < A
                · rw [stepOf_lt hlt] at hnext
                  have HN := Lib.hid hnext
                  clear hnext
                  generalize L.getD k 0 = q at *
                  go_wp2_with (at_builtin; refine wpList_append_one i64v (fun _ => rfl) _ rfl _ _ 34 rfl w4.heap.size 3 _ (.int .i64 0) 8 Try.underlying34 infoI rfl (.own ho) rfl (-1) rfl (by unfold maxLen; omega) (by omega) (by omega) ?_)
                  intro v2 w2 ho2 hg2 hb2
                  go_wp2
                  go_roundw
                  case rel => exact ⟨k + 1, _, by omega, by go_num, HN.out, ho2, Lib.hid (hb.out.trans hb2)⟩
                  case measure => simp [intOf]; omega
                · rw [stepOf_ge hlt] at hnext
                  have HN := Lib.hid hnext
                  clear hnext
                  generalize L.getD k 0 = q at *
                  go_wp2_with (at_builtin; refine wpList_append_one i64v (fun _ => rfl) _ rfl _ _ 34 rfl w4.heap.size 3 _ (.int .i64 0) 8 Try.underlying34 infoI rfl (.own ho) rfl 1 rfl (by unfold maxLen; omega) (by omega) (by omega) ?_)
                  intro v2 w2 ho2 hg2 hb2
                  go_wp2
                  go_roundw
                  case rel => exact ⟨k + 1, _, by omega, by go_num, HN.out, ho2, Lib.hid (hb.out.trans hb2)⟩
                  case measure => simp [intOf]; omega
              · have hkm' : ¬ (k : Int) < (m : Int) := by omega
                have hke : k = m := by omega
                subst hke
                have hS' : S = stepsL A L := by rw [hS.out, List.take_of_length_le (by rw [HCL.out]; exact Nat.le_refl _)]
                subst hS'
                clear hS
                go_wp2
                go_ret2
                exact ⟨_, k, by rw [HT.out]; rfl, by rw [HT.out]; exact ownsRow_mono ho HB4.out.size, below_step HB4.out hb.out⟩
          · rw [if_pos he3] at hT
            have HT := Lib.hid hT.symm
            clear hT len2 len3
            go_enter Try.func6, Try.ntmps6
            go_wp2_with fail
            refine (expected_s HR H1 H2 (below_alloc _ _)).mono ?_
            rintro er w1 ⟨rfl, hb1⟩
            have hb1' := below_box rfl hb1
            obtain ⟨k1, hb2⟩ := wcell (ao := ao) (len := len) (cap := cap) (E := 43) hb1'
            have K1 := Lib.hid k1
            have HB2 := Lib.hid hb2
            have hz := hb1'.size
            clear k1 hb2 hb1 hb1'
            go_wp2_with fail
            refine (rounded_ok (n := o) HS.out hlen HX o0 o1 HB2.out hz K1.out).mono ?_
            rw [HA.out]
            rintro er w2 ⟨a', rfl, s2, k2, hb2⟩
            have S2 := Lib.hid s2
            have K2 := Lib.hid k2
            have HB2 := Lib.hid hb2
            clear s2 k2 hb2
            go_wp2_with fail
            refine (rounded_ok (n := i) S2.out (by omega) HY i0 i1 HB2.out hz K2.out).mono ?_
            rw [HB.out]
            rintro er w3 ⟨a'', rfl, s3, k3, hb3⟩
            have S3 := Lib.hid s3
            have HB3 := Lib.hid hb3
            obtain ⟨d3, f3⟩ := one_facts k3
            clear s3 k3 hb3 f3
            go_wp2_with fail
            refine (shuffle_val (S3.out.ext HB3.out) (by omega) HL).mono ?_
            rintro er w4 ⟨ap, m, c, rfl, s4, hm, hb4⟩
            have HB4 := Lib.hid (below_step HB3.out hb4)
            clear s4 hm hb4
            go_wp2_with fail
            go_ret2
            exact retLE_nil HT.out HB4.out
      · rw [case2_1 hy he2] at hT
        have HY := Lib.hid hy
        have HT := Lib.hid hT.symm
        clear hy hT
        go_enter Try.func6, Try.ntmps6
        go_wp2_with fail
        refine (expected_s HR H1 H2 (below_alloc _ _)).mono ?_
        rintro er w1 ⟨rfl, hb1⟩
        have hb1' := below_box rfl hb1
        obtain ⟨k1, hb2⟩ := wcell (ao := ao) (len := len) (cap := cap) (E := 43) hb1'
        have K1 := Lib.hid k1
        have HB2 := Lib.hid hb2
        have hz := hb1'.size
        clear k1 hb2 hb1 hb1'
        go_wp2_with fail
        refine (rounded_ok (n := o) HS.out hlen HX o0 o1 HB2.out hz K1.out).mono ?_
        rintro er w2 ⟨a', rfl, s2, k2, hb2⟩
        have S2 := Lib.hid s2
        have K2 := Lib.hid k2
        have HB2 := Lib.hid hb2
        clear s2 k2 hb2
        go_wp2_with fail
        refine (rounded_err (n := i) S2.out (by omega) HY he2 HB2.out K2.out).mono ?_
        rintro er w3 ⟨rfl, hb3⟩
        have HB3 := Lib.hid hb3
        clear hb3
        go_wp2_with fail
        go_ret2
        exact retLE_nil HT.out HB3.out
    · rw [caseF_1 hx he1] at hT
      have HX := Lib.hid hx
      have HT := Lib.hid hT.symm
      clear hx hT
      go_enter Try.func6, Try.ntmps6
      go_wp2_with fail
      refine (expected_s HR H1 H2 (below_alloc _ _)).mono ?_
      rintro er w1 ⟨rfl, hb1⟩
      have hb1' := below_box rfl hb1
      obtain ⟨k1, hb2⟩ := wcell (ao := ao) (len := len) (cap := cap) (E := 43) hb1'
      have K1 := Lib.hid k1
      have HB2 := Lib.hid hb2
      clear k1 hb2 hb1 hb1'
      go_wp2_with fail
      refine (rounded_err (n := o) HS.out hlen HX he1 HB2.out K1.out).mono ?_
      rintro er w2 ⟨rfl, hb2⟩
      have HB2 := Lib.hid hb2
      clear hb2
      go_wp2_with fail
      go_ret2
      exact retLE_nil HT.out HB2.out
  · rw [caseF_e he] at hT
    have HT := Lib.hid hT.symm
    clear hT hr
    go_enter Try.func6, Try.ntmps6
    go_wp2_with fail
    refine (expected_s HR H1 H2 (below_alloc _ _)).mono ?_
    rintro er w1 ⟨rfl, hb1⟩
    have HB1 := Lib.hid (below_box rfl hb1)
    clear hb1
    go_wp2_with fail
    go_ret2
    exact retLE_nil HT.out HB1.out
end Go.Proofs.Ytjfakdbgcinpcaa
