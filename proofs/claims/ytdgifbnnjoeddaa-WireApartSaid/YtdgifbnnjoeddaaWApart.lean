/-
  WIRE, THE WALKS: the law WireApart.
-/
import Derived.Test.YtdgifbnnjoeddaaProg
import Derived.Test.YtdgifbnnjoeddaaBase2
import Derived.Test.YtdgifbnnjoeddaaWire9
import Derived.Test.YtdgifbnnjoeddaaWireP5
import Derived.Test.YtdgifbnnjoeddaaBase5
import Derived.Test.YtdgifbnnjoeddaaBase6
import Derived.BigQuiet
import Derived.Deep.DeepCutAuto
import Derived.Deep.QuietTactic
import Derived.WalkSpells
import Derived.WalkLawsBesides
namespace Go.Proofs.Ytdgifbnnjoeddaa
open Go.RowKit
set_option linter.unusedVariables false


theorem getD_room_lo (bs : List UInt8) (i m : Nat) (h : i < bs.length) : (bs ++ List.replicate m 0).getD i 0 = bs.getD i 0 := by
  simp [List.getD, List.getElem?_append_left h]
theorem getD_room_hi (bs : List UInt8) (i m : Nat) (h : bs.length ≤ i) : (bs ++ List.replicate m (0 : UInt8)).getD i 0 = 0 := by
  rw [List.getD, List.getElem?_append_right h, List.getElem?_replicate]
  split <;> rfl

set_option maxRecDepth 100000 in
set_option maxHeartbeats 8000000 in
theorem wireApart_walk (bs : List UInt8) (n : Int) (s : ByteArray) (l : List Int) (a0 a3 : Option Addr) (len0 cap0 len3 cap3 : Nat) (w : World) (hs : Sl w 1 a0 len0 cap0 (cs b8 bs)) (hl : Sl w 1 a3 len3 cap3 (cs i64v l)) (hr : I64s l)
    (h1 : -9223372036854775808 ≤ n) (h2 : n ≤ 9223372036854775807) :
    Calls Try.prog 16 #[.slice a0 len0 cap0, .int .i64 n, .string s, .slice a3 len3 cap3] w fun e w' => e = .returned (.bool true) ∧ Below w.heap.size w w' := by
  by_cases hbig : 2000 < len0 ∨ 2000 < s.size ∨ 300 < len3
  · go_enter Try.func16, Try.ntmps16
    go_wp2_with (go_at_call 27; refine (awake_any _).mono ?_; rintro e w' ⟨rfl, hb⟩)
    all_goals (go_ret; exact ⟨rfl, by assumption⟩)
  · have g1 : len0 ≤ 2000 := by omega
    have g2 : s.size ≤ 2000 := by omega
    have g3 : len3 ≤ 300 := by omega
    clear hbig
    have hcb := hs.count
    have HCB := Lib.hid hcb
    clear hcb
    go_enter Try.func16, Try.ntmps16
    go_wp2_with (at_make; refine wpList_make_typed b8 0 _ rfl _ _ 25 rfl 5 (.int .u8 0) 1 Try.underlying25 Try.infoU8 rfl .i64 .i64 _ _ (len0 + 5000) rfl rfl (by omega) (by omega) (by omega) (by unfold maxLen; omega) ?_)
    intro w1 ho1 hb1
    go_wp2
    go_loopw [10] (fun i wr => ∃ k : Nat, k ≤ len0 ∧ i = .int .i64 k ∧ wr.ownsRow w.heap.size 5 1 (.slice (some ⟨w.heap.size, 0, none⟩) (len0 + 5000) (len0 + 5000)) (len0 + 5000) (cs b8 (bs.take k ++ List.replicate (len0 + 5000 - k) 0)) ∧ Below w.heap.size w wr)
      (fun i _ => len0 - (intOf i).toNat)
    case atStart => exact ⟨0, by omega, rfl, by simpa using ho1, hb1⟩
    case round =>
      obtain ⟨k, hk, rfl, ho, hb⟩ := hrel
      by_cases hkl : k < len0
      · obtain ⟨hc1, hc2, hc3, hc4⟩ := own_cell ho k (by omega) 0
        obtain ⟨b, off, e0, hcell⟩ := (hs.ext hb).at_ k hkl 0
        subst e0
        have hk' : (k : Int) < (len0 : Int) := by omega
        have hset := own_set ho k (bs.getD k 0)
        have hb' := hb.setCell (p := ⟨w.heap.size, k, none⟩) (Nat.le_refl _) (b8 (bs.getD k 0))
        have hls : (bs.take k ++ List.replicate (len0 + 5000 - k) 0).set k (bs.getD k 0) = bs.take (k + 1) ++ List.replicate (len0 + 5000 - (k + 1)) 0 := by
          have hbl : k < bs.length := by rw [HCB.out]; exact hkl
          have htl : (bs.take k).length = k := by rw [List.length_take]; omega
          rw [List.set_append_right k _ (by omega), htl, Nat.sub_self, show len0 + 5000 - k = (len0 + 5000 - (k + 1)) + 1 from by omega, List.replicate_succ, List.set_cons_zero, List.take_succ_eq_append_getElem hbl, List.append_assoc, List.singleton_append]
          congr 2
          simp [List.getD, hbl]
        rw [hls] at hset
        have HS := Lib.hid hset
        have HB := Lib.hid hb'
        clear hset hb' hls
        generalize bs.getD k 0 = y at *
        generalize (bs.take k ++ List.replicate (len0 + 5000 - k) 0).getD k 0 = y0 at *
        go_wp2
        go_roundw
        case rel => exact ⟨k + 1, by omega, by go_num, HS.out, HB.out⟩
        case measure => simp [intOf]; omega
      · obtain rfl : k = len0 := by omega
        obtain ⟨x0, c0, e0, rs⟩ := sl_of_own ho
        cases e0
        have hroom : bs.take k ++ List.replicate (k + 5000 - k) 0 = bs ++ List.replicate 5000 0 := by
          rw [List.take_of_length_le (by rw [HCB.out]; exact Nat.le_refl _), show k + 5000 - k = 5000 from by omega]
        rw [hroom] at rs
        clear ho hroom ho1 hb1
        obtain ⟨xc, hrun, sc⟩ := slice_to (P := Try.prog) 25 5 Try.underlying25 Try.sizeU8 rs k (by omega)
        have htk : (bs ++ List.replicate 5000 0).take k = bs := by have := HCB.out; rw [← this, List.take_left]
        rw [htk] at sc
        clear htk
        go_wp2_with fail
        refine (putInt_any bs n xc k _ _ sc (by omega) h1 h2).mono ?_
        rintro e w2 ⟨v2, rfl, ho2, hb2⟩
        obtain ⟨N2, x2, c2, rfl, s2⟩ := sl_own ho2
        clear ho2
        go_wp2_with fail
        refine (putText_any bs s xc k _ _ (sc.ext hb2) (by omega) (by omega)).mono ?_
        rintro e w3 ⟨v3, rfl, ho3, hb3⟩
        obtain ⟨N3, x3, c3, rfl, s3⟩ := sl_own ho3
        have k3 := below_step hb2 hb3
        have s2' := s2.ext hb3
        clear ho3 hb2 s2
        go_wp2_with fail
        refine (putInts_any bs l xc a3 k _ len3 cap3 _ (sc.ext k3) (hl.ext (below_step hb k3)) hr (by omega) (by omega)).mono ?_
        rintro e w4 ⟨v4, rfl, ho4, hb4⟩
        obtain ⟨N4, x4, c4, rfl, s4⟩ := sl_own ho4
        have k4 := below_step k3 hb4
        have s2'' := s2'.ext hb4
        have s3' := s3.ext hb4
        clear ho4 hb3 s2' s3 k3
        have hk4 := below_step hb k4
        go_wp2_with fail
        refine (putInt_any bs n a0 k cap0 _ (hs.ext hk4) (by omega) h1 h2).mono ?_
        rintro e w5 ⟨v5, rfl, ho5, hb5⟩
        obtain ⟨N5, x5, c5, rfl, s5⟩ := sl_own ho5
        clear ho5
        go_wp2_with fail
        refine (putText_any bs s a0 k cap0 _ (hs.ext (below_step hk4 hb5)) (by omega) (by omega)).mono ?_
        rintro e w6 ⟨v6, rfl, ho6, hb6⟩
        obtain ⟨N6, x6, c6, rfl, s6⟩ := sl_own ho6
        have s5' := s5.ext hb6
        clear ho6 s5
        have hk6 := below_step hk4 (below_step hb5 hb6)
        go_wp2_with fail
        refine (putInts_any bs l a0 a3 k cap0 len3 cap3 _ (hs.ext hk6) (hl.ext hk6) hr (by omega) (by omega)).mono ?_
        rintro e w7 ⟨v7, rfl, ho7, hb7⟩
        obtain ⟨N7, x7, c7, rfl, s7⟩ := sl_own ho7
        have s5'' := s5'.ext hb7
        have s6' := s6.ext hb7
        have hk7 := below_step hk6 hb7
        have kk := below_step hb5 (below_step hb6 hb7)
        have t2 := s2''.ext kk
        have t3 := s3'.ext kk
        have t4 := s4.ext kk
        have rs7 := rs.ext (below_step k4 kk)
        have hs7 := hs.ext hk7
        clear ho7 s5' s6 s2'' s3' s4 kk hb5 hb6 hb7 hk6 hk4 k4 hb4 rs sc hrun hs
        go_wp2_with fail
        go_loopw [18] (fun i wr => ∃ j : Nat, j ≤ k + 5000 ∧ i = .int .i64 j ∧ Below w7.heap.size w7 wr) (fun i _ => k + 5000 - (intOf i).toNat)
        case atStart => exact ⟨0, by omega, rfl, Below.refl _ _⟩
        case round =>
          obtain ⟨j, hj, rfl, hbj⟩ := hrel
          by_cases hjl : j < k + 5000
          · have hj' : (j : Int) < (k : Int) + 5000 := by omega
            have hj0 : (0 : Int) ≤ (j : Int) := by omega
            obtain ⟨b1, o1, e1, hc1⟩ := (rs7.ext hbj).at_ j hjl 0
            cases e1
            rw [Nat.zero_add] at hc1
            by_cases hlo : j < k
            · obtain ⟨b2, o2, e2, hc2⟩ := (hs7.ext hbj).at_ j hlo 0
              cases e2
              rw [getD_room_lo bs j 5000 (by rw [HCB.out]; exact hlo)] at hc1
              generalize bs.getD j 0 = y at *
              have hlo' : (j : Int) < (k : Int) := by omega
              have hd1 : decide ((k : Int) ≤ (j : Int)) = false := by simp; omega
              have hd2 : decide (k ≤ j) = false := by simp; omega
              go_wp2
              go_quiet (fail)
              go_wp2
              go_roundw
              case rel => exact ⟨j + 1, by omega, by go_num, below_drewN hbj _⟩
              case measure => simp [intOf]; omega
            · rw [getD_room_hi bs j 5000 (by rw [HCB.out]; omega)] at hc1
              have hlo' : (k : Int) ≤ (j : Int) := by omega
              have hd1 : decide ((j : Int) < (k : Int)) = false := by simp; omega
              have hd2 : decide (j < k) = false := by simp; omega
              go_wp2
              go_quiet (fail)
              go_wp2
              go_roundw
              case rel => exact ⟨j + 1, by omega, by go_num, below_drewN hbj _⟩
              case measure => simp [intOf]; omega
          · have hj' : ¬ (j : Int) < (k : Int) + 5000 := by omega
            have u2 := t2.ext hbj
            have u3 := t3.ext hbj
            have u4 := t4.ext hbj
            have u5 := s5''.ext hbj
            have u6 := s6'.ext hbj
            have u7 := s7.ext hbj
            clear t2 t3 t4 s5'' s6' s7
            go_wp2_with fail
            refine (refSame_any _ _ x2 x5 _ c2 _ c5 _ u2 u5).mono ?_
            rintro e w8 ⟨rfl, hb8⟩
            rw [decide_eq_true rfl]
            go_wp2_with fail
            refine (refSame_any _ _ x3 x6 _ c3 _ c6 _ (u3.ext hb8) (u6.ext hb8)).mono ?_
            rintro e w9 ⟨rfl, hb9⟩
            rw [decide_eq_true rfl]
            have k9 := below_step hb8 hb9
            go_wp2_with fail
            refine (refSame_any _ _ x4 x7 _ c4 _ c7 _ (u4.ext k9) (u7.ext k9)).mono ?_
            rintro e w10 ⟨rfl, hb10⟩
            rw [decide_eq_true rfl]
            go_wp2_with fail
            refine (awake_any _).mono ?_
            rintro e w11 ⟨rfl, hb11⟩
            go_wp2
            go_ret
            exact ⟨rfl, below_step hk7 (below_step hbj (below_step k9 (below_step hb10 hb11)))⟩
end Go.Proofs.Ytdgifbnnjoeddaa
