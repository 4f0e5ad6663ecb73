/-
  DRAW, THE WALKS: the reference's Shuffle.
-/
import Derived.Test.YtfhmhkpplcbiiaaProg
import Derived.Test.YtfhmhkpplcbiiaaBase3
import Derived.Test.YtfhmhkpplcbiiaaBase5
import Derived.Test.YtfhmhkpplcbiiaaBase6
import Derived.Test.YtfhmhkpplcbiiaaBase7
import Derived.Test.YtfhmhkpplcbiiaaDrawP
import Derived.Test.YtfhmhkpplcbiiaaDraw5
import Derived.Test.YtfhmhkpplcbiiaaHeld
import Derived.Lib.SmallJoins
import Derived.BigQuiet
import Derived.Laws.StructEq
import Derived.StillTailTactics
import Derived.RegionTactic
import Derived.Deep.DeepCutAuto
import Derived.Deep.QuietTactic
import Derived.WalkSpells
import Derived.WalkLawsBesides
namespace Go.Proofs.Ytfhmhkpplcbiiaa
open Go.RowKit
set_option linter.unusedVariables false

set_option maxRecDepth 100000 in
set_option maxHeartbeats 2000000 in
theorem refShuffle_any (ws : List (BitVec 64)) (n : Int) (ao : Option Addr) (len cap : Nat) (w : World) (hs : Sl w 1 ao len cap (cs u64 ws)) (hlen : len ≤ 1000000000000) :
    Calls Try.prog 38 #[.slice ao len cap, .int .i64 n] w (RetLE (shuffle ws n) w) := by
  obtain ⟨T, hT⟩ : ∃ T, shuffle ws n = T := ⟨_, rfl⟩
  rw [hT]
  unfold shuffle at hT
  by_cases h1 : n < 0
  · rw [if_pos (.inl h1)] at hT
    have HT := Lib.hid hT
    clear hT
    go_enter Try.func38, Try.ntmps38
    go_wp2
    go_ret2
    exact retLE_nil HT.out.symm (Below.refl _ _)
  · by_cases h2 : 256 < n
    · rw [if_pos (.inr h2)] at hT
      have HT := Lib.hid hT
      clear hT
      go_enter Try.func38, Try.ntmps38
      go_wp2
      go_ret2
      exact retLE_nil HT.out.symm (Below.refl _ _)
    · rw [if_neg (fun h => h.elim h1 h2)] at hT
      obtain ⟨m, rfl⟩ := Int.eq_ofNat_of_zero_le (show 0 ≤ n by omega)
      rw [Int.toNat_natCast] at hT
      have HT := Lib.hid hT
      clear hT
      go_enter Try.func38, Try.ntmps38
      have HC := Lib.hid hs.count
      go_wp2_with fail
      go_loopw [6, 7] (fun v i wr => ∃ (k : Nat) (L : List Int), k ≤ m ∧ i = .int .i64 k ∧ L.length = k ∧ Hid (∀ j, j < k → L.getD j 0 = (j : Int)) ∧ wr.ownsRow w.heap.size 3 1 v k (cs i64v L) ∧ Below w.heap.size w wr) (fun _ i _ => m - (intOf i).toNat)
      case atStart => exact ⟨0, [], by omega, rfl, rfl, fun j hj => absurd hj (by omega), World.ownsRow_nil _ _ _ _, Below.refl _ _⟩
      case round =>
        obtain ⟨k, L, hk, rfl, hL, hall, ho, hb⟩ := hrel
        have z := hb.size
        by_cases hkm : k < m
        · have hkm' : (k : Int) < (m : Int) := by omega
          have hall2 : Hid (∀ j, j < k + 1 → (L ++ [(k : Int)]).getD j 0 = (j : Int)) := fun j hj => by
            by_cases hjk : j = k
            · subst hjk; rw [← hL]; simp [List.getD]
            · have hjL : j < L.length := by omega
              rw [← hall.out j (by omega)]
              simp only [List.getD]
              rw [List.getElem?_append_left hjL]
          go_wp2_with (at_builtin; refine wpList_append_one i64v (fun _ => rfl) _ rfl _ _ 23 rfl w.heap.size 3 _ (.int .i64 0) 8 Try.underlying23 infoI rfl (.own ho) rfl (k : Int) rfl (by unfold maxLen; omega) (by omega) (by omega) ?_)
          intro v2 w2 ho2 hg2 hb2
          go_wp2
          go_roundw
          case rel => exact ⟨k + 1, _, by omega, by go_num, by simp [hL], hall2, ho2, hb.trans hb2⟩
          case measure => simp [intOf]; omega
        · have hke : k = m := by omega
          subst hke
          have hLi := iota_of hL hall.out
          subst hLi
          have hwr : IntKind.i64.wrap ((k : Int) - 1) = (k : Int) - 1 := by rw [IntKind.wrap_i64]; omega
          clear hall
          by_cases hk0 : k = 0
          · subst hk0
            obtain ⟨a9, c9, rfl, _⟩ := sl_of_own ho
            have hss := HT.out
            rw [show (0 - 1 : Nat) = 0 from rfl, shuf] at hss
            have HSS := Lib.hid hss
            clear hss
            go_wp2_with fail
            go_loopw [8, 9] (fun s i wr => i = .int .i64 (-1) ∧ wr.ownsRow w.heap.size 3 1 (.slice a9 0 c9) 0 (cs i64v (iota 0)) ∧ Below w.heap.size w wr) (fun _ i _ => (intOf i + 1).toNat)
            case atStart => exact ⟨rfl, ho, hb⟩
            case round =>
              obtain ⟨rfl, ho, hb⟩ := hrel
              go_wp2
              go_ret2
              exact ⟨_, 0, by rw [← HSS.out]; rfl, by rw [← HSS.out]; exact ho, hb⟩
          obtain ⟨g, cp, rfl⟩ : ∃ g cp, _ = Value.slice (some ⟨g, 0, none⟩) k cp := Joins.ownsRow_form ho (by omega)
          go_wp2_with fail
          go_loopw [8, 9] (fun s i wr => ∃ (I : Int) (U : Nat) (L : List Int), i = .int .i64 I ∧ -1 ≤ I ∧ I < k ∧ s = .int .i64 (U : Int) ∧ U ≤ len ∧ L.length = k ∧ Hid (shuf I.toNat (ws.drop U) L = T) ∧ wr.ownsRow w.heap.size 3 1 (.slice (some ⟨g, 0, none⟩) k cp) k (cs i64v L) ∧ Below w.heap.size w wr) (fun _ i _ => (intOf i + 1).toNat)
          case atStart => exact ⟨(k : Int) - 1, 0, iota k, rfl, by omega, by omega, rfl, by omega, iota_len k, by show _ = _; rw [show ((k : Int) - 1).toNat = k - 1 from by omega, List.drop_zero]; exact HT.out, ho, hb⟩
          case round =>
            obtain ⟨I, U, L, rfl, hI0, hI1, rfl, hU, hL, hsh, ho, hb⟩ := hrel
            by_cases hI : 1 ≤ I
            · obtain ⟨i, rfl⟩ : ∃ i : Nat, I = (i : Int) + 1 := ⟨(I - 1).toNat, by omega⟩
              have hss := hsh.out
              rw [show ((i : Int) + 1).toNat = i + 1 from by omega] at hss
              obtain ⟨⟨x, u, e⟩, hbel⟩ : ∃ r, below (ws.drop U) ((i : Int) + 2) = r := ⟨_, rfl⟩
              obtain ⟨q1, q2⟩ := below_props hbel
              have hcu : (ws.drop U).length = len - U := by rw [List.length_drop, HC.out]
              have hw2 : IntKind.i64.wrap ((i : Int) + 1 + 1) = (i : Int) + 2 := by rw [IntKind.wrap_i64]; omega
              obtain ⟨a', hrun, hs'⟩ := slice_from (P := Try.prog) 39 35 Try.underlying39 sizeW hs U hU
              have HS' := Lib.hid hs'
              clear hs'
              by_cases he : e = 0
              · subst he
                rw [shuf_ok hbel] at hss
                obtain ⟨x0, x1, u0, u1, _, _⟩ := q1 rfl
                obtain ⟨x, rfl⟩ := Int.eq_ofNat_of_zero_le x0
                obtain ⟨u, rfl⟩ := Int.eq_ofNat_of_zero_le (show 0 ≤ u by omega)
                rw [Int.toNat_natCast, Int.toNat_natCast, List.drop_drop] at hss
                have hw3 : IntKind.i64.wrap ((U : Int) + (u : Int)) = (U : Int) + (u : Int) := by rw [IntKind.wrap_i64]; omega
                have hUu : U + u ≤ len := by omega
                have HBEL := Lib.hid hbel
                have HSS := Lib.hid hss
                clear hbel hss hsh q1 q2 hcu u1
                go_wp2_with fail
                refine (refBelow_val (HS'.out.ext hb) (by omega) HBEL).mono ?_
                rintro e w2 ⟨rfl, hb2⟩
                have ho2 := ownsRow_ext ho hb2
                have hb02 := below_step hb hb2
                obtain ⟨c1, f1, z1, z2⟩ := own_cell ho2 (i + 1) (by omega) 0
                obtain ⟨c2, f2, _, _⟩ := own_cell ho2 x (by omega) 0
                have ho3 := own_set ho2 (i + 1) (L.getD x 0)
                have ho4 := own_set ho3 x (L.getD (i + 1) 0)
                obtain ⟨c3, f3, _, _⟩ := own_cell ho3 x (by omega) 0
                have HO4' : Hid (((w2.setCell ⟨g, i + 1, none⟩ (.int .i64 (L.getD x 0))).setCell ⟨g, x, none⟩ (.int .i64 (L.getD (i + 1) 0))).ownsRow w.heap.size 3 1 (.slice (some ⟨g, 0, none⟩) k cp) k (cs i64v (swp L (i + 1) x))) := ho4
                have hLs := swp_length L (i + 1) x
                rw [hL] at hLs
                have c1' : w2.cell? ⟨g, i + 1, none⟩ = some (.int .i64 (L.getD (i + 1) 0)) := c1
                have c2' : w2.cell? ⟨g, x, none⟩ = some (.int .i64 (L.getD x 0)) := c2
                have c3' : (w2.setCell ⟨g, i + 1, none⟩ (.int .i64 (L.getD x 0))).cell? ⟨g, x, none⟩ = some (.int .i64 ((L.set (i + 1) (L.getD x 0)).getD x 0)) := c3
                have f3' : (w2.setCell ⟨g, i + 1, none⟩ (.int .i64 (L.getD x 0))).frozen? ⟨g, x, none⟩ = false := f3
                have hb04 := Lib.hid ((hb02.setCell (p := ⟨g, i + 1, none⟩) z1 (.int .i64 (L.getD x 0))).setCell (p := ⟨g, x, none⟩) z1 (.int .i64 (L.getD (i + 1) 0)))
                have i0 : (0 : Int) ≤ (i : Int) + 1 := by omega
                have i1 : (i : Int) + 1 < (k : Int) := by omega
                have i2 : (x : Int) < (k : Int) := by omega
                clear c1 c2 c3 f3 ho ho2 ho3 ho4
                generalize swp L (i + 1) x = L2 at *
                generalize (L.set (i + 1) (L.getD x 0)).getD x 0 = y3 at *
                generalize L.getD x 0 = y2 at *
                generalize L.getD (i + 1) 0 = y1 at *
                have hwd : IntKind.i64.wrap ((i : Int) + 1 - 1) = (i : Int) := by rw [IntKind.wrap_i64]; omega
                go_wp2_with fail
                go_region_with (fail)
                all_goals
                  go_wp2_with fail
                  go_roundw
                  case rel => exact ⟨(i : Int), U + u, L2, by go_num, by omega, by omega, by go_num, hUu, hLs, by show _ = _; rw [Int.toNat_natCast]; exact HSS.out, HO4'.out, by first | exact hb04.out | exact below_drew hb04.out | exact below_drewN hb04.out _ | exact ⟨hb04.out.os, hb04.out.tape, hb04.out.output, hb04.out.size, hb04.out.block⟩⟩
                  case measure => simp [intOf]; omega
              · rw [shuf_err hbel he] at hss
                have HBEL := Lib.hid hbel
                have HSS := Lib.hid hss
                clear hbel hss hsh q1 q2 hcu
                go_wp2_with fail
                refine (refBelow_val (HS'.out.ext hb) (by omega) HBEL).mono ?_
                rintro e w2 ⟨rfl, hb2⟩
                go_wp2
                go_ret2
                exact retLE_nil HSS.out.symm (below_step hb hb2)
            · have hI' : ¬ (1 : Int) ≤ I := hI
              have hss := hsh.out
              rw [show I.toNat = 0 from by omega, shuf] at hss
              have HSS := Lib.hid hss
              clear hss hsh
              go_wp2
              go_ret2
              exact ⟨_, k, by rw [← HSS.out]; rfl, by rw [← HSS.out]; exact ho, hb⟩
end Go.Proofs.Ytfhmhkpplcbiiaa
