/-
  DRAW, THE LAWS' WALKS: DrawExact.
-/
import Derived.Test.YtfhmhkpplcbiiaaProg
import Derived.Test.YtfhmhkpplcbiiaaBase3
import Derived.Test.YtfhmhkpplcbiiaaBase5
import Derived.Test.YtfhmhkpplcbiiaaBase6
import Derived.Test.YtfhmhkpplcbiiaaBase7
import Derived.Test.YtfhmhkpplcbiiaaDrawP
import Derived.Test.YtfhmhkpplcbiiaaDraw2
import Derived.Test.YtfhmhkpplcbiiaaDraw6
import Derived.Test.YtfhmhkpplcbiiaaDraw8
import Derived.Test.YtfhmhkpplcbiiaaDrawL1
import Derived.Test.YtfhmhkpplcbiiaaDrawP2
import Derived.Test.YtfhmhkpplcbiiaaHeld
import Derived.BigQuiet
import Derived.Laws.StructEq
import Derived.StillTailTactics
import Derived.RegionTactic
import Derived.Deep.DeepCutAuto
import Derived.Deep.QuietTactic
import Derived.WalkSpells
import Derived.WalkLawsBesides
namespace Go.Proofs.Ytfhmhkpplcbiiaa
open Go.RowKit
set_option linter.unusedVariables false

set_option maxRecDepth 100000 in
set_option maxHeartbeats 3000000 in
theorem drawExact_walk (l : List Int) (ao : Option Addr) (len cap : Nat) (w : World) (hs : Sl w 1 ao len cap (cs i64v l)) :
    Calls Try.prog 8 #[.slice ao len cap] w (RetB (.bool true) w) := by
  by_cases hbig : (30 : Int) < (len : Int)
  · go_enter Try.func8, Try.ntmps8
    go_wp2_with fail
    refine (awake11_any _).mono ?_
    rintro e w1 ⟨rfl, hb1⟩
    go_wp2
    go_ret
    exact ⟨rfl, hb1⟩
  · obtain ⟨⟨n, er⟩, hr⟩ : ∃ r, total l = r := ⟨_, rfl⟩
    have HS := Lib.hid hs
    have hcount := hs.count
    have HC := Lib.hid hcount
    clear hs hcount
    by_cases he : er = 0
    · subst he
      obtain ⟨t1, t2, t3, t4, t5⟩ := total_ok hr
      by_cases hn : 300 < n
      · have HR := Lib.hid hr
        clear hr t2 t3
        go_enter Try.func8, Try.ntmps8
        go_wp2_with fail
        refine (total_val HS.out HR).mono ?_
        rintro e w1 ⟨rfl, rfl⟩
        go_wp2_with fail
        refine (awake11_any _).mono ?_
        rintro e w1 ⟨rfl, hb1⟩
        go_wp2
        go_ret
        exact ⟨rfl, hb1⟩
      · obtain ⟨N, rfl⟩ := Int.eq_ofNat_of_zero_le (show 0 ≤ n by omega)
        have hp : ∀ y ∈ l, 0 ≤ y := fun y hy => (t2 y hy).1
        have hpick : ∀ X : Nat, X < N → pick l (X : Int) = (((pk l (X : Int) : Nat) : Int), (0 : Int)) := fun X hX => by
          unfold pick
          rw [hr, if_neg (fun h : (0 : Int) ≠ 0 => h rfl), if_neg (by simp only; omega)]
        have hend : pick l (N : Int) = (0, 1) := by
          unfold pick
          rw [hr, if_neg (fun h : (0 : Int) ≠ 0 => h rfl), if_pos (by simp only; omega)]
        have HR := Lib.hid hr
        have HP := Lib.hid hp
        have HPK := Lib.hid hpick
        have HEND := Lib.hid hend
        have T2 := Lib.hid t2
        have T3 := Lib.hid t3
        clear hr hp hpick hend t2 t3
        go_enter Try.func8, Try.ntmps8
        go_wp2_with fail
        refine (total_val HS.out HR).mono ?_
        rintro e w' ⟨rfl, rfl⟩
        go_wp2_with (refine wpList_make_typed i64v 0 _ rfl _ _ 23 rfl 3 (.int .i64 0) 8 Try.underlying23 infoI rfl .i64 .i64 _ _ len rfl rfl rfl rfl (by omega) (by unfold maxLen; omega) ?_)
        intro w1 ho1 hb1
        go_wp2_with fail
        go_loopw [6, 7] (fun la i wr => ∃ (X LST : Nat) (G : List Int), X ≤ N ∧ i = .int .i64 X ∧ la = .int .i64 (LST : Int) ∧ Hid (X = 0 ∧ LST = 0 ∨ ∃ Y, X = Y + 1 ∧ LST = pk l (Y : Int)) ∧ G.length = len ∧ Hid (∀ j, j < len → G.getD j 0 = gotN l X j) ∧ wr.ownsRow w.heap.size 3 1 (.slice (some ⟨w.heap.size, 0, none⟩) len len) len (cs i64v G) ∧ Below w.heap.size w wr) (fun _ i _ => N - (intOf i).toNat)
        case atStart => exact ⟨0, 0, _, by omega, rfl, rfl, .inl ⟨rfl, rfl⟩, by simp, fun j hj => by rw [show ((0 : Nat) : Int) = 0 from rfl, gotN_zero l HP.out j (by rw [HC.out]; omega)]; simp [List.getD, hj], ho1, hb1⟩
        case round =>
          obtain ⟨X, LST, G, hX, rfl, rfl, hlast, hG, hall, ho, hb⟩ := hrel
          by_cases hXN : X < N
          · have hxs : (X : Int) < sumL l := by have := T3.out; omega
            obtain ⟨s1, s2, s3⟩ := pk_spec l X HP.out (by omega) hxs
            have hpkx := HPK.out X hXN
            have hle : LST ≤ pk l X := by
              rcases hlast.out with ⟨_, h⟩ | ⟨Y, h1, h2⟩
              · omega
              · subst h1
                rw [h2]
                exact pk_mono l HP.out Y (by omega) (by omega)
            have hgx := hall.out (pk l X) (by rw [← HC.out]; exact s1)
            have hgb : 0 ≤ G.getD (pk l X) 0 ∧ G.getD (pk l X) 0 ≤ 1125899906842624 := by
              have h2 := T2.out (l.getD (pk l X) 0) (by
                have : l.getD (pk l X) 0 = l[pk l X] := by simp [List.getD, s1]
                rw [this]; exact List.getElem_mem _)
              rw [hgx]
              unfold gotN
              omega
            have hG2 : (G.set (pk l X) (G.getD (pk l X) 0 + 1)).length = len := by rw [List.length_set]; exact hG
            have hall2 : Hid (∀ j, j < len → (G.set (pk l X) (G.getD (pk l X) 0 + 1)).getD j 0 = gotN l ((X + 1 : Nat) : Int) j) := fun j hj => by
              rw [show ((X + 1 : Nat) : Int) = (X : Int) + 1 from by omega, gotN_step l HP.out X (by omega) hxs j (by rw [HC.out]; exact hj)]
              by_cases hjp : j = pk l X
              · subst hjp
                rw [if_pos rfl, ← hgx]
                simp [List.getD, show pk l X < G.length by omega]
              · rw [if_neg hjp, ← hall.out j hj]
                simp only [List.getD]
                rw [List.getElem?_set_ne (fun e => hjp e.symm)]
            have hlast2 : Hid (X + 1 = 0 ∧ pk l X = 0 ∨ ∃ Y, X + 1 = Y + 1 ∧ pk l X = pk l (Y : Int)) := .inr ⟨X, rfl, rfl⟩
            have s1' : pk l X < len := by rw [← HC.out]; exact s1
            have hpv := pick_any l X ao len cap wr (HS.out.ext hb)
            rw [hpkx] at hpv
            obtain ⟨d1, f1, z1, z2⟩ := own_cell ho (pk l X) s1' 0
            have d1' : wr.cell? ⟨w.heap.size, pk l X, none⟩ = some (.int .i64 (G.getD (pk l X) 0)) := d1
            have ho3 := Lib.hid (own_set ho (pk l X) (G.getD (pk l X) 0 + 1))
            clear hall ho hlast s1 s2 s3 hgx d1 hpkx
            generalize G.set (pk l X) (G.getD (pk l X) 0 + 1) = G2 at *
            generalize G.getD (pk l X) 0 = g0 at *
            generalize pk l X = p at *
            have i0 : ¬ (p : Int) < (LST : Int) := by omega
            have i1 : ¬ (len : Int) ≤ (p : Int) := by omega
            have i2 : (p : Int) < (len : Int) := by omega
            have i3 : (0 : Int) ≤ (p : Int) := by omega
            have i4 : (X : Int) < (N : Int) := by omega
            have hwr : IntKind.i64.wrap (g0 + 1) = g0 + 1 := by rw [IntKind.wrap_i64]; omega
            go_wp2_with fail
            refine hpv.mono ?_
            rintro e w2 ⟨rfl, rfl⟩
            go_wp2_with fail
            go_roundw
            case rel => exact ⟨X + 1, p, G2, by omega, by go_num, rfl, hlast2, hG2, hall2, ho3.out, hb.setCell (p := ⟨w.heap.size, p, none⟩) (Nat.le_refl _) _⟩
            case measure => simp [intOf]; omega
          · have hXe : X = N := by omega
            subst hXe
            have hGl : G = l := by
              apply List.ext_getElem (by rw [hG, HC.out])
              intro i h1 h2
              have a := hall.out i (by omega)
              rw [T3.out, gotN_all l HP.out i h2] at a
              simpa [List.getD, h1, h2] using a
            subst hGl
            obtain ⟨a9, c9, e9, s9⟩ := sl_of_own ho
            cases e9
            have S9 := Lib.hid s9
            have HB := Lib.hid hb
            have hpv := pick_any G X ao len cap wr (HS.out.ext hb)
            rw [HEND.out] at hpv
            have i4 : ¬ (X : Int) < (X : Int) := by omega
            have i5 : (0 : Int) < (X : Int) := by omega
            clear hall ho hb s9 hlast
            go_wp2_with fail
            refine hpv.mono ?_
            rintro e w2 ⟨rfl, rfl⟩
            go_wp2_with fail
            refine (same11_any G G _ _ _ _ _ _ _ S9.out (HS.out.ext HB.out) (by omega)).mono ?_
            rw [decide_eq_true rfl]
            rintro e w6 ⟨rfl, hb6⟩
            have B6 := Lib.hid (below_step HB.out hb6)
            clear hb6
            go_wp2_with fail
            refine (awake11_any _).mono ?_
            rintro e w7 ⟨rfl, hb7⟩
            go_wp2
            go_ret
            exact ⟨rfl, below_step B6.out hb7⟩
    · have hn0 : n = 0 := by have := total_err hr; omega
      subst hn0
      have HR := Lib.hid hr
      clear hr
      go_enter Try.func8, Try.ntmps8
      go_wp2_with fail
      refine (total_val HS.out HR).mono ?_
      rintro e w1 ⟨rfl, rfl⟩
      go_wp2_with fail
      refine (awake11_any _).mono ?_
      rintro e w1 ⟨rfl, hb1⟩
      go_wp2
      go_ret
      exact ⟨rfl, hb1⟩
end Go.Proofs.Ytfhmhkpplcbiiaa
