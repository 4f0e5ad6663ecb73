/-
  DRAW, THE LAWS' WALKS: DrawFair.
-/
import Derived.Test.YtfhmhkpplcbiiaaProg
import Derived.Test.YtfhmhkpplcbiiaaBase3
import Derived.Test.YtfhmhkpplcbiiaaBase5
import Derived.Test.YtfhmhkpplcbiiaaBase6
import Derived.Test.YtfhmhkpplcbiiaaBase7
import Derived.Test.YtfhmhkpplcbiiaaBase13
import Derived.Test.YtfhmhkpplcbiiaaDrawL4
import Derived.Test.YtfhmhkpplcbiiaaDrawP
import Derived.Test.YtfhmhkpplcbiiaaDraw3
import Derived.Test.YtfhmhkpplcbiiaaDraw4
import Derived.Test.YtfhmhkpplcbiiaaDraw5
import Derived.Test.YtfhmhkpplcbiiaaDraw8
import Derived.Test.YtfhmhkpplcbiiaaDrawL1
import Derived.Test.YtfhmhkpplcbiiaaDrawP3
import Derived.Test.YtfhmhkpplcbiiaaHeld
import Derived.BigQuiet
import Derived.Laws.StructEq
import Derived.StillTailTactics
import Derived.RegionTactic
import Derived.BigRegion
import Derived.Deep.RegionHeld3
import Derived.Deep.DeepCutAuto
import Derived.Deep.QuietTactic
import Derived.WalkSpells
import Derived.WalkLawsBesides
namespace Go.Proofs.Ytfhmhkpplcbiiaa
open Go.RowKit
set_option linter.unusedVariables false

theorem u64_quo_w (t : TypeId) (a b : BitVec 64) (h : 0 < b.toNat) : binOp .quo t (u64 a) (u64 b) = pure (u64 (a / b)) := by
  have := u64_quo_c t a (b.toNat : Int) ⟨by omega, by have := b.isLt; omega⟩
  rw [ofInt_toNat] at this
  exact this

section
variable {B : Nat} {W x y : World} {a : Addr} {v : Value}
theorem kp1D (h : x.cell? a = some v ∧ Below B W x) : x.drew.cell? a = some v ∧ Below B W x.drew := ⟨h.1, below_drew h.2⟩
theorem kp1A (o : Obj) (hB : B ≤ W.heap.size) (h : x.cell? a = some v ∧ Below B W x) : (x.alloc o).cell? a = some v ∧ Below B W (x.alloc o) := ⟨cell_keep (below_alloc _ _) h.1, Below.alloc h.2 (Nat.le_trans hB h.2.size) o⟩
theorem kp1B (hb : Below B x y) (ha : a.block < B) (h : x.cell? a = some v ∧ Below B W x) : y.cell? a = some v ∧ Below B W y := ⟨(hb.cell (p := a) ha).trans h.1, h.2.trans hb⟩
theorem kp1S (hB : B ≤ W.heap.size) (h : x.cell? a = some v ∧ Below B W x) : B ≤ x.heap.size := Nat.le_trans hB h.2.size
end

set_option maxRecDepth 100000 in
set_option maxHeartbeats 4000000 in
theorem drawFair_walk (ws : List (BitVec 64)) (n : Int) (mo : BitVec 64) (ao : Option Addr) (len cap : Nat) (w : World) (hs : Sl w 1 ao len cap (cs u64 ws)) :
    Calls Try.prog 9 #[.slice ao len cap, .int .i64 n, u64 mo] w (RetB (.bool true) w) := by
  by_cases hbig : (100 : Int) < (len : Int)
  · go_enter Try.func9, Try.ntmps9
    go_wp2_with fail
    refine (awake11_any _).mono ?_
    rintro e w1 ⟨rfl, hb1⟩
    go_wp2
    go_ret
    exact ⟨rfl, hb1⟩
  · obtain ⟨⟨x, u, er⟩, hr⟩ : ∃ r, below ws n = r := ⟨_, rfl⟩
    have HS := Lib.hid hs
    have HC := Lib.hid hs.count
    clear hs
    by_cases he : er = 0
    · subst he
      obtain ⟨j, hf⟩ := fair_of hr
      have HR := Lib.hid hr
      have HO := Lib.hid (fair_own hf mo)
      have n0 := hf.n0
      have n1 := hf.n1
      have hj : j < len := by rw [← HC.out]; exact hf.hj
      have hu := hf.hu
      have hx := hf.hx
      have hk50 := (kb_props n n0 n1).2.2
      have hpow := fun w => power_any n w n0 n1
      have hP0 : 0 < 2 ^ kb n := Nat.pow_pos (by decide)
      have hP1 : 2 ^ kb n ≤ 1125899906842624 := Nat.pow_le_pow_right (n := 2) (by decide) hk50
      have HIT := Lib.hid hf.hit
      have MISS := Lib.hid hf.miss
      generalize 2 ^ kb n = P at *
      have HPOW := Lib.hid hpow
      obtain ⟨N, rfl⟩ := Int.eq_ofNat_of_zero_le (show 0 ≤ n by omega)
      rw [Int.toNat_natCast] at HIT MISS
      obtain ⟨K, hK⟩ : ∃ K, j + 1 = K := ⟨_, rfl⟩
      rw [hK] at hu HO
      subst hu
      obtain ⟨r, hr2⟩ : ∃ r, (ws.getD j 0).toNat % P = r := ⟨_, rfl⟩
      rw [hr2] at hx
      subst hx
      have hrN : r < N := by rw [← hr2]; exact HIT.out
      have hK0 : 1 ≤ K := by omega
      have hKl : K ≤ len := by omega
      have hKj : (K : Int) - 1 = (j : Int) := by omega
      obtain ⟨PW, hpw⟩ : ∃ V, BitVec.ofNat 64 P = V := ⟨_, rfl⟩
      obtain ⟨NW, hnw⟩ : ∃ V, BitVec.ofNat 64 N = V := ⟨_, rfl⟩
      have hpw' : BitVec.ofInt 64 (P : Int) = PW := by rw [← hpw]; simp
      have hnw' : BitVec.ofInt 64 (N : Int) = NW := by rw [← hnw]; simp
      have hPW : PW.toNat = P := by rw [← hpw, BitVec.toNat_ofNat]; omega
      have hNW : NW.toNat = N := by rw [← hnw, BitVec.toNat_ofNat]; omega
      have hrem := fun t a => u64_rem_w t a PW (by omega)
      have hquo := fun t => u64_quo_w t mo PW (by omega)
      have HREM := Lib.hid (fun a : BitVec 64 => (show (a % PW).toNat = a.toNat % P by rw [BitVec.toNat_umod, hPW]))
      have HMIX := Lib.hid (fun a : BitVec 64 => (show mix P mo a = a % PW + mo / PW * PW by unfold mix; rw [hpw]))
      have HKJ := Lib.hid hK
      have HR2 := Lib.hid hr2
      have HNW := Lib.hid hNW
      clear hr hf hpow hK hr2 hPW hNW hk50
      have z1 : ¬ (N : Int) < 1 := by omega
      have z2 : ¬ 1125899906842624 < (N : Int) := by omega
      have z3 : ¬ (N : Int) ≤ (r : Int) := by omega
      have z4 : ¬ (K : Int) < 1 := by omega
      have z5 : ¬ (len : Int) < (K : Int) := by omega
      go_enter Try.func9, Try.ntmps9
      go_wp2_with fail
      refine (below_val HS.out (by omega) HR).mono ?_
      rintro e w1 ⟨rfl, hb1⟩
      have B1 := Lib.hid hb1
      clear hb1
      go_wp2_with fail
      refine (HPOW.out _).mono ?_
      rintro e w2 ⟨rfl, rfl⟩
      go_wp2_with fail
      go_loopw [11, 12] (fun v i wr => ∃ k : Nat, k ≤ K ∧ i = .int .i64 k ∧ wr.ownsRow w1.heap.size 35 1 v k (cs Ytfhmhkpplcbiiaa.u64 (mixL P mo (ws.take k))) ∧ Hid (Below w1.heap.size w1 wr)) (fun _ i _ => K - (intOf i).toNat)
      case atStart => exact ⟨0, by omega, rfl, World.ownsRow_nil _ _ _ _, Lib.hid (Below.refl _ _)⟩
      case round =>
        obtain ⟨k, hk, rfl, ho, hb⟩ := hrel
        have hz := hb.out.size
        by_cases hkK : k < K
        · have hkK' : (k : Int) < (K : Int) := by omega
          have hk0 : (0 : Int) ≤ (k : Int) := by omega
          have hkl : (k : Int) < (len : Int) := by omega
          obtain ⟨b, off, e0, hcell⟩ := ((HS.out.ext B1.out).ext hb.out).at_ k (by omega) 0
          subst e0
          have hbl : b < w1.heap.size := World.block_lt_of_cell? _ _ (by have h9 := hcell; rwa [hb.out.cell (p := ⟨b, off + k, none⟩) (by obtain ⟨b9, o9, e9, hc9⟩ := (HS.out.ext B1.out).at_ k (by omega) 0; cases e9; exact World.block_lt_of_cell? _ _ hc9)] at h9)
          have hcell' : wr.cell? ⟨b, off + k, none⟩ = some (Ytfhmhkpplcbiiaa.u64 (ws.getD k 0)) := hcell
          have hnext := mixL_take P mo ws k (by rw [HC.out]; omega)
          have hrm := HREM.out (ws.getD k 0)
          have hmx := HMIX.out (ws.getD k 0)
          have hmiss : k < j → ¬ (ws.getD k 0).toNat % P < N := MISS.out k
          have hhit : k = j → (ws.getD k 0).toNat % P < N := fun h => by rw [h]; exact HIT.out
          rw [← hrm, ← HNW.out] at hmiss hhit
          have HNX := Lib.hid hnext
          clear hcell hnext hrm
          generalize ws.getD k 0 = a at *
          generalize hR : a % PW = R at *
          obtain ⟨M, hM⟩ : ∃ M, R + mo / PW * PW = M := ⟨_, rfl⟩
          rw [hM] at hmx
          have HMX := Lib.hid hmx
          clear hmx
          have hw1 : w1.heap.size ≤ wr.heap.size := hz
          by_cases hkj : k = j
          · have hh := hhit hkj
            have hkj' : (k : Int) = (j : Int) := by omega
            clear hhit hmiss
            subst hkj
            go_wp2_with fail
            have hO := Lib.hid ho
            clear ho
            have hk1 : wr.cell? ⟨b, off + k, none⟩ = some (Ytfhmhkpplcbiiaa.u64 a) ∧ Below w1.heap.size wr wr := ⟨hcell', Below.refl _ _⟩
            clear hcell'
            go_region_held3 (fun w9 => w9.cell? ⟨b, off + k, none⟩ = some (Ytfhmhkpplcbiiaa.u64 a) ∧ Below w1.heap.size wr w9)
              (repeat (with_reducible first | assumption | refine kp1D ?_ | refine kp1A _ hw1 ?_ | (apply kp1B; (focus assumption); (focus assumption))))
              (first
                | ((refine step_append_manyG Ytfhmhkpplcbiiaa.u64 (fun _ => rfl) _ rfl (.tmp 97) (.tmp 110) 39 rfl w1.heap.size 35 (.int .u64 0) 8 Try.underlying39 infoW rfl (v := u11) (n := k) (xs := mixL P mo (ws.take k)) (by rfl) (Hid.out (by (repeat (first | (with_reducible assumption) | (with_reducible refine owDrew ?_) | (with_reducible refine owAlloc ?_))))) (ys := [M]) (ao := some ⟨_, 0, none⟩) (m := 1) (c := 1) (by rfl) (sl_blk (C := #[Ytfhmhkpplcbiiaa.u64 M]) (by (repeat (first | ((with_reducible refine blkNew ?_); focus (simp; done)) | (with_reducible refine blkDrew ?_) | (with_reducible refine blkOld ?_)))) rfl 1 rfl (by decide)) (by unfold maxLen; omega) (by omega) (kp1S hw1 (by assumption)) ?_); intro v9 w9 ho9 hb9 hf9; clear hf9; have O9 := Lib.hid ho9; clear ho9))
            all_goals
              go_split_ands
              have hbz := Lib.hid (hb.out.trans (by assumption))
              go_wp2_with fail
              go_roundw
              case rel => exact ⟨k + 1, by omega, by go_num, by rw [HNX.out, HMX.out]; first | exact O9.out | exact (owDrew O9).out, by first | exact hbz | exact Lib.hid (below_drew hbz.out)⟩
              case measure => simp [intOf]; omega
          · have hh := hmiss (by have := HKJ.out; omega)
            have hkj' : ¬ (k : Int) = (j : Int) := by omega
            clear hhit hmiss
            go_wp2_with fail
            have hO := Lib.hid ho
            clear ho
            have hk1 : wr.cell? ⟨b, off + k, none⟩ = some (Ytfhmhkpplcbiiaa.u64 a) ∧ Below w1.heap.size wr wr := ⟨hcell', Below.refl _ _⟩
            clear hcell'
            go_region_held3 (fun w9 => w9.cell? ⟨b, off + k, none⟩ = some (Ytfhmhkpplcbiiaa.u64 a) ∧ Below w1.heap.size wr w9)
              (repeat (with_reducible first | assumption | refine kp1D ?_ | refine kp1A _ hw1 ?_ | (apply kp1B; (focus assumption); (focus assumption))))
              (first
                | ((refine step_append_manyG Ytfhmhkpplcbiiaa.u64 (fun _ => rfl) _ rfl (.tmp 97) (.tmp 110) 39 rfl w1.heap.size 35 (.int .u64 0) 8 Try.underlying39 infoW rfl (v := u11) (n := k) (xs := mixL P mo (ws.take k)) (by rfl) (Hid.out (by (repeat (first | (with_reducible assumption) | (with_reducible refine owDrew ?_) | (with_reducible refine owAlloc ?_))))) (ys := [M]) (ao := some ⟨_, 0, none⟩) (m := 1) (c := 1) (by rfl) (sl_blk (C := #[Ytfhmhkpplcbiiaa.u64 M]) (by (repeat (first | ((with_reducible refine blkNew ?_); focus (simp; done)) | (with_reducible refine blkDrew ?_) | (with_reducible refine blkOld ?_)))) rfl 1 rfl (by decide)) (by unfold maxLen; omega) (by omega) (kp1S hw1 (by assumption)) ?_); intro v9 w9 ho9 hb9 hf9; clear hf9; have O9 := Lib.hid ho9; clear ho9))
            all_goals
              go_split_ands
              have hbz := Lib.hid (hb.out.trans (by assumption))
              go_wp2_with fail
              go_roundw
              case rel => exact ⟨k + 1, by omega, by go_num, by rw [HNX.out, HMX.out]; first | exact O9.out | exact (owDrew O9).out, by first | exact hbz | exact Lib.hid (below_drew hbz.out)⟩
              case measure => simp [intOf]; omega
        · have hke : k = K := by omega
          subst hke
          have hkK' : ¬ (k : Int) < (k : Int) := by omega
          obtain ⟨ar, cr, rfl, sr⟩ := sl_of_own ho
          have SR := Lib.hid sr
          have B2 := Lib.hid (below_step B1.out hb.out)
          have S2 := Lib.hid (HS.out.ext B2.out)
          have hj0 : (0 : Int) ≤ (j : Int) := by omega
          have hjl : (j : Int) < (len : Int) := by omega
          clear ho hb sr
          go_wp2_with (at_builtin; refine wpList_append_many Ytfhmhkpplcbiiaa.u64 (fun _ => rfl) _ rfl _ _ 39 rfl wr.heap.size 35 (.int .u64 0) 8 Try.underlying39 infoW rfl (v := .slice (some ⟨wr.heap.size, 0, none⟩) 0 0) (n := 0) (xs := []) (World.ownsRow_lit wr #[] 0 (Nat.le_refl _) (by decide) rfl) rfl (SR.out.ext (below_alloc _ _)) rfl (by unfold maxLen; omega) (by omega) (by simp) ?_)
          intro v3 w3 ho3 hb3
          (try simp only [List.nil_append, Nat.zero_add] at ho3)
          have hb13 : Below wr.heap.size wr w3 := (below_alloc _ _).trans hb3
          have z3' := hb13.size
          clear hb3
          go_wp2_with (at_builtin; refine wpList_append_one Ytfhmhkpplcbiiaa.u64 (fun _ => rfl) _ rfl _ _ 39 rfl wr.heap.size 35 _ (.int .u64 0) 8 Try.underlying39 infoW rfl (.own ho3) rfl mo rfl (by unfold maxLen; omega) (by omega) (by omega) ?_)
          intro v4 w4 ho4 hg4 hb4
          obtain ⟨a4, c4, rfl, s4⟩ := sl_of_own ho4
          have hb14 := hb13.trans hb4
          have S4 := Lib.hid s4
          have S24 := Lib.hid (S2.out.ext hb14)
          have B4 := Lib.hid (below_step B2.out hb14)
          clear ho3 ho4 hg4 hb4 hb13 hb14 s4
          go_wp2_with fail
          refine (below_val S4.out (by omega) HO).mono ?_
          rintro e w5 ⟨rfl, hb5⟩
          have B5 := Lib.hid (below_step B4.out hb5)
          obtain ⟨b, off, e0, hcell⟩ := (S24.out.ext hb5).at_ j hj 0
          subst e0
          have hcell' : w5.cell? ⟨b, off + j, none⟩ = some (Ytfhmhkpplcbiiaa.u64 (ws.getD j 0)) := hcell
          obtain ⟨R, hR⟩ : ∃ R, ws.getD j 0 % PW = R := ⟨_, rfl⟩
          have hRr : BitVec.ofNat 64 r = R := by
            apply BitVec.eq_of_toNat_eq
            rw [← hR, HREM.out, HR2.out, BitVec.toNat_ofNat]
            omega
          have hRr' : BitVec.ofInt 64 (r : Int) = R := by rw [← hRr]; simp
          clear hcell hb5
          generalize ws.getD j 0 = a at *
          go_wp2_with fail
          refine (awake11_any _).mono ?_
          rintro e w7 ⟨rfl, hb7⟩
          have B7 := Lib.hid (below_step B5.out hb7)
          clear hb7
          go_wp2
          go_ret
          exact ⟨rfl, B7.out⟩
    · obtain ⟨rfl, rfl, hp⟩ := (below_props hr).2 he
      have HR := Lib.hid hr
      clear hr
      have hcs : (er = 1 ∧ n < 1) ∨ (er = 1 ∧ ¬ n < 1 ∧ 1125899906842624 < n) ∨ (er = 4 ∧ ¬ n < 1 ∧ ¬ 1125899906842624 < n) := by omega
      clear hp he
      rcases hcs with ⟨rfl, g1⟩ | ⟨rfl, g1, g2⟩ | ⟨rfl, g1, g2⟩
      all_goals
        go_enter Try.func9, Try.ntmps9
        go_wp2_with fail
        refine (below_val HS.out (by omega) HR).mono ?_
        rintro e w1 ⟨rfl, hb1⟩
        have B1 := Lib.hid hb1
        clear hb1
        go_wp2_with fail
        refine (awake11_any _).mono ?_
        rintro e w7 ⟨rfl, hb7⟩
        have B7 := Lib.hid (below_step B1.out hb7)
        clear hb7
        go_wp2
        go_ret
        exact ⟨by
          first
            | rfl
            | (have a1 : decide (n < 1) = false := decide_eq_false (by omega)
               have a2 : decide (1125899906842624 < n) = false := decide_eq_false (by omega)
               show Ending.returned (.bool (!decide (n < 1) && !decide (1125899906842624 < n))) = _
               rw [a1, a2]; rfl), B7.out⟩
end Go.Proofs.Ytfhmhkpplcbiiaa
