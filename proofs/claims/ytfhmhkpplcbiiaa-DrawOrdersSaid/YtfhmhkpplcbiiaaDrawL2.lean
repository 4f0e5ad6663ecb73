/-
  DRAW, THE LAWS' WALKS: DrawOrders, DrawExact.
-/
import Derived.Test.YtfhmhkpplcbiiaaProg
import Derived.Test.YtfhmhkpplcbiiaaBase3
import Derived.Test.YtfhmhkpplcbiiaaBase5
import Derived.Test.YtfhmhkpplcbiiaaBase6
import Derived.Test.YtfhmhkpplcbiiaaBase7
import Derived.Test.YtfhmhkpplcbiiaaDrawP
import Derived.Test.YtfhmhkpplcbiiaaDraw2
import Derived.Test.YtfhmhkpplcbiiaaDraw6
import Derived.Test.YtfhmhkpplcbiiaaDraw8
import Derived.Test.YtfhmhkpplcbiiaaDrawL1
import Derived.Test.YtfhmhkpplcbiiaaDrawP2
import Derived.Test.YtfhmhkpplcbiiaaHeld
import Derived.BigQuiet
import Derived.Laws.StructEq
import Derived.StillTailTactics
import Derived.RegionTactic
import Derived.Deep.DeepCutAuto
import Derived.Deep.QuietTactic
import Derived.WalkSpells
import Derived.WalkLawsBesides
namespace Go.Proofs.Ytfhmhkpplcbiiaa
open Go.RowKit
set_option linter.unusedVariables false

theorem infoB : (Try.prog.info? 4).map (fun i => (i.zero, i.size, i.bytes)) = some (some (.bool false), 1, 1) := by kernel_rfl

set_option maxRecDepth 100000 in
set_option maxHeartbeats 3000000 in
theorem drawOrders_walk (ws : List (BitVec 64)) (n : Int) (mo : BitVec 64) (ao : Option Addr) (len cap : Nat) (w : World) (hs : Sl w 1 ao len cap (cs u64 ws)) :
    Calls Try.prog 10 #[.slice ao len cap, .int .i64 n, u64 mo] w (RetB (.bool true) w) := by
  by_cases hbig : (400 : Int) < (len : Int)
  · go_enter Try.func10, Try.ntmps10
    go_wp2_with fail
    refine (awake11_any _).mono ?_
    rintro e w1 ⟨rfl, hb1⟩
    go_wp2
    go_ret
    exact ⟨rfl, hb1⟩
  · obtain ⟨⟨L, er⟩, hr⟩ : ∃ r, shuffle ws n = r := ⟨_, rfl⟩
    have HS := Lib.hid hs
    clear hs
    by_cases he : er = 0
    · subst he
      obtain ⟨m, rfl, hm, hgood⟩ := shuffle_good hr
      have hmore := Lib.hid (shuffle_more [mo] hr)
      have HR := Lib.hid hr
      have HG := Lib.hid hgood
      clear hr hgood
      have hn0 : ¬ (m : Int) < 0 := by omega
      have hn1 : ¬ (256 : Int) < (m : Int) := by omega
      go_enter Try.func10, Try.ntmps10
      go_wp2_with fail
      refine (shuffle_val HS.out (by omega) HR).mono ?_
      rintro e w1 ⟨a1, m1, c1, rfl, s1, hm1, hb1⟩
      obtain rfl : m1 = m := by rw [hm1, HG.out.len]
      have S1 := Lib.hid s1
      have B1 := Lib.hid hb1
      clear s1 hm1 hb1
      go_wp2_with (refine wpList_make_typed Value.bool false _ rfl _ _ 51 rfl 4 (.bool false) 1 Try.underlying51 infoB rfl .i64 .i64 _ _ m1 rfl rfl rfl rfl (by omega) (by unfold maxLen; omega) ?_)
      intro w2 ho2 hb2
      go_wp2_with fail
      go_loopw [10] (fun i wr => ∃ (k : Nat) (S : List Bool), k ≤ m1 ∧ i = .int .i64 k ∧ S.length = m1 ∧ Hid (∀ j, j < m1 → S.getD j false = true → ∃ p, p < k ∧ L.getD p 0 = (j : Int)) ∧ wr.ownsRow w1.heap.size 4 1 (.slice (some ⟨w1.heap.size, 0, none⟩) m1 m1) m1 (cs Value.bool S) ∧ Below w1.heap.size w1 wr) (fun i _ => m1 - (intOf i).toNat)
      case atStart => exact ⟨0, _, by omega, rfl, by simp, fun j hj h => by simp [List.getD, hj] at h, ho2, hb2⟩
      case round =>
        obtain ⟨k, S, hk, rfl, hS, hall, ho, hb⟩ := hrel
        by_cases hkm : k < m1
        · obtain ⟨b, off, e0, hcell⟩ := (S1.out.ext hb).at_ k hkm 0
          subst e0
          have hcell' : wr.cell? ⟨b, off + k, none⟩ = some (.int .i64 (L.getD k 0)) := hcell
          obtain ⟨r0, r1⟩ := HG.out.rng k hkm
          obtain ⟨x, hx⟩ := Int.eq_ofNat_of_zero_le r0
          have hxm : x < m1 := by omega
          have hfresh : S.getD x false = false := by
            cases hb9 : S.getD x false with
            | false => rfl
            | true =>
              obtain ⟨p, hp, hpe⟩ := hall.out x hxm hb9
              have := HG.out.inj p k (by omega) hkm (by rw [hpe, hx])
              omega
          obtain ⟨d1, f1, z1, z2⟩ := own_cell ho x hxm false
          rw [hfresh] at d1
          have ho3 := Lib.hid (own_set ho x true)
          have hall2 : Hid (∀ j, j < m1 → (S.set x true).getD j false = true → ∃ p, p < k + 1 ∧ L.getD p 0 = (j : Int)) := fun j hj h => by
            by_cases hjx : j = x
            · subst hjx; exact ⟨k, by omega, hx⟩
            · have h2 : S.getD j false = true := by
                simp only [List.getD] at h ⊢
                rw [List.getElem?_set_ne (fun e => hjx e.symm)] at h
                exact h
              obtain ⟨p, hp, hpe⟩ := hall.out j hj h2
              exact ⟨p, by omega, hpe⟩
          have hSs : (S.set x true).length = m1 := by rw [List.length_set]; exact hS
          rw [hx] at hcell'
          have i0 : ¬ (x : Int) < 0 := by omega
          have i1 : ¬ (m1 : Int) ≤ (x : Int) := by omega
          have i2 : (k : Int) < (m1 : Int) := by omega
          have i3 : (0 : Int) ≤ (k : Int) := by omega
          clear hall ho hcell hfresh r0 r1 hx
          generalize S.set x true = S2 at *
          go_wp2_with fail
          go_roundw
          case rel => exact ⟨k + 1, S2, by omega, by go_num, hSs, hall2, ho3.out, hb.setCell (p := ⟨w1.heap.size, x, none⟩) (Nat.le_refl _) _⟩
          case measure => simp [intOf]; omega
        · have hke : k = m1 := by omega
          subst hke
          have HB := Lib.hid hb
          have S2 := Lib.hid (S1.out.ext hb)
          have HSW := Lib.hid (HS.out.ext (below_step B1.out hb))
          clear hall ho hb
          go_wp2_with (at_builtin; refine wpList_append_many Ytfhmhkpplcbiiaa.u64 (fun _ => rfl) _ rfl _ _ 39 rfl wr.heap.size 35 (.int .u64 0) 8 Try.underlying39 infoW rfl (v := .slice (some ⟨wr.heap.size, 0, none⟩) 0 0) (n := 0) (xs := []) (World.ownsRow_lit wr #[] 0 (Nat.le_refl _) (by decide) rfl) rfl (HSW.out.ext (below_alloc _ _)) rfl (by unfold maxLen; omega) (by omega) (by simp) ?_)
          intro v3 w3 ho3 hb3
          (try simp only [List.nil_append, Nat.zero_add] at ho3)
          have hb13 : Below wr.heap.size wr w3 := (below_alloc _ _).trans hb3
          have z3 := hb13.size
          clear hb3
          go_wp2_with (at_builtin; refine wpList_append_one Ytfhmhkpplcbiiaa.u64 (fun _ => rfl) _ rfl _ _ 39 rfl wr.heap.size 35 _ (.int .u64 0) 8 Try.underlying39 infoW rfl (.own ho3) rfl mo rfl (by unfold maxLen; omega) (by omega) (by omega) ?_)
          intro v4 w4 ho4 hg4 hb4
          obtain ⟨a4, c4, rfl, s4⟩ := sl_of_own ho4
          have hb14 := hb13.trans hb4
          have S4 := Lib.hid s4
          have B4 := Lib.hid (below_step (below_step B1.out HB.out) hb14)
          have S24 := Lib.hid (S2.out.ext hb14)
          clear ho3 ho4 hg4 hb4 hb13 hb14 s4
          go_wp2_with fail
          refine (shuffle_val S4.out (by omega) hmore).mono ?_
          rintro e w5 ⟨a5, m5, c5, rfl, s5, hm5, hb5⟩
          have S5 := Lib.hid s5
          have S25 := Lib.hid (S24.out.ext hb5)
          have B5 := Lib.hid (below_step B4.out hb5)
          clear s5 hb5 hm5
          go_wp2_with fail
          refine (same11_any L L _ _ _ _ _ _ _ S25.out S5.out (by omega)).mono ?_
          rw [decide_eq_true rfl]
          rintro e w6 ⟨rfl, hb6⟩
          have B6 := Lib.hid (below_step B5.out hb6)
          clear hb6
          go_wp2_with fail
          refine (awake11_any _).mono ?_
          rintro e w7 ⟨rfl, hb7⟩
          go_wp2
          go_ret
          exact ⟨rfl, below_step B6.out hb7⟩
    · obtain ⟨rfl, hiff⟩ := shuffle_err hr he
      have HR := Lib.hid hr
      clear hr
      by_cases h1 : er = 1
      · subst h1
        by_cases hn0 : n < 0
        · clear hiff
          go_enter Try.func10, Try.ntmps10
          go_wp2_with fail
          refine (shuffle_val HS.out (by omega) HR).mono ?_
          rintro e w1 ⟨a1, m1, c1, rfl, s1, hm1, hb1⟩
          obtain rfl : m1 = 0 := hm1
          go_wp2_with fail
          refine (awake11_any _).mono ?_
          rintro e w7 ⟨rfl, hb7⟩
          go_wp2
          go_ret
          exact ⟨rfl, below_step hb1 hb7⟩
        · have hn1 : 256 < n := by have := hiff.1 rfl; omega
          clear hiff
          go_enter Try.func10, Try.ntmps10
          go_wp2_with fail
          refine (shuffle_val HS.out (by omega) HR).mono ?_
          rintro e w1 ⟨a1, m1, c1, rfl, s1, hm1, hb1⟩
          obtain rfl : m1 = 0 := hm1
          go_wp2_with fail
          refine (awake11_any _).mono ?_
          rintro e w7 ⟨rfl, hb7⟩
          go_wp2
          go_ret
          exact ⟨rfl, below_step hb1 hb7⟩
      · have hn0 : ¬ n < 0 := fun h => h1 (hiff.2 (.inl h))
        have hn1 : ¬ 256 < n := fun h => h1 (hiff.2 (.inr h))
        have hne1 : (er == 1) = false := by simp [h1]
        have hd1 : decide (n < 0) = false := decide_eq_false hn0
        have hd2 : decide (256 < n) = false := decide_eq_false hn1
        clear hiff
        go_enter Try.func10, Try.ntmps10
        go_wp2_with fail
        refine (shuffle_val HS.out (by omega) HR).mono ?_
        rintro e w1 ⟨a1, m1, c1, rfl, s1, hm1, hb1⟩
        obtain rfl : m1 = 0 := hm1
        go_wp2_with fail
        refine (awake11_any _).mono ?_
        rintro e w7 ⟨rfl, hb7⟩
        go_wp2
        go_ret
        exact ⟨rfl, below_step hb1 hb7⟩
end Go.Proofs.Ytfhmhkpplcbiiaa
