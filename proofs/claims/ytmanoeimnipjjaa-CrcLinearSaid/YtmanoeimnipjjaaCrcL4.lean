/-
  CRC, THE LAWS' WALKS: CrcLinear.
-/
import Derived.Test.YtmanoeimnipjjaaProg
import Derived.Test.YtmanoeimnipjjaaBase3
import Derived.Test.YtmanoeimnipjjaaBase5
import Derived.Test.YtmanoeimnipjjaaBase6
import Derived.Test.YtmanoeimnipjjaaBase7
import Derived.Test.YtmanoeimnipjjaaBase8
import Derived.Test.YtmanoeimnipjjaaBase9
import Derived.Test.YtmanoeimnipjjaaCrcL1
import Derived.Test.YtmanoeimnipjjaaCrcP3
import Derived.Test.YtmanoeimnipjjaaWire6
import Derived.Test.YtmanoeimnipjjaaWireP3
import Derived.Test.YtmanoeimnipjjaaHeld
import Derived.BigQuiet
import Derived.Laws.StructEq
import Derived.StillTailTactics
import Derived.RegionTactic
import Derived.Deep.DeepCutAuto
import Derived.Deep.QuietTactic
import Derived.WalkSpells
import Derived.WalkLawsBesides
namespace Go.Proofs.Ytmanoeimnipjjaa
open Go.RowKit
set_option linter.unusedVariables false

theorem sum_b {w w1 : World} {bs : List UInt8} {a : Option Addr} {n c : Nat} (H : Hid (Sl w 1 a n c (cs b8 bs) ∧ n ≤ 3000)) (hb : Below w.heap.size w w1) :
    Calls Try.prog 53 #[.slice a n c] w1 (RetB (.int .i64 ((crc bs).toNat : Int)) w1) := crcSum_any bs a n c w1 (H.out.1.ext hb) (by have := H.out.2; omega)

set_option maxRecDepth 100000 in
set_option maxHeartbeats 4000000 in
theorem crcLinear_walk (b0 b1 b2 : List UInt8) (a0 a1 a2 : Option Addr) (l0 c0 l1 c1 l2 c2 : Nat) (w : World) (h0 : Sl w 1 a0 l0 c0 (cs b8 b0)) (h1 : Sl w 1 a1 l1 c1 (cs b8 b1)) (h2 : Sl w 1 a2 l2 c2 (cs b8 b2)) :
    Calls Try.prog 19 #[.slice a0 l0 c0, .slice a1 l1 c1, .slice a2 l2 c2] w (RetB (.bool true) w) := by
  have hcase : ∃ n, (l1 < l0 ∧ l2 < l1 ∧ n = l2) ∨ (l1 < l0 ∧ l1 ≤ l2 ∧ n = l1) ∨ (l0 ≤ l1 ∧ l2 < l0 ∧ n = l2) ∨ (l0 ≤ l1 ∧ l0 ≤ l2 ∧ n = l0) := by
    by_cases h : l1 < l0
    · by_cases h' : l2 < l1
      · exact ⟨l2, by omega⟩
      · exact ⟨l1, by omega⟩
    · by_cases h' : l2 < l0
      · exact ⟨l2, by omega⟩
      · exact ⟨l0, by omega⟩
  obtain ⟨n, hcase⟩ := hcase
  have n0 : n ≤ l0 := by omega
  have n1 : n ≤ l1 := by omega
  have n2 : n ≤ l2 := by omega
  by_cases hbig : 3000 < n
  · have hbig' : (3000 : Int) < (n : Int) := by omega
    rcases hcase with ⟨x1, x2, x3⟩ | ⟨x1, x2, x3⟩ | ⟨x1, x2, x3⟩ | ⟨x1, x2, x3⟩
    all_goals
      subst x3
      go_enter Try.func19, Try.ntmps19
      go_wp2_with fail
      refine (awake05_any _).mono ?_
      rintro e w8 ⟨rfl, hb8⟩
      go_wp2
      go_ret
      exact ⟨rfl, hb8⟩
  · have hbig' : ¬ (3000 : Int) < (n : Int) := by omega
    have hn : n ≤ 3000 := by omega
    have q0 := h0.count
    have q1 := h1.count
    have q2 := h2.count
    obtain ⟨s0, hr0, hs0⟩ := slice_to (P := Try.prog) 22 5 Try.underlying22 Try.sizeU8 h0 n n0
    obtain ⟨s1, hr1, hs1⟩ := slice_to (P := Try.prog) 22 5 Try.underlying22 Try.sizeU8 h1 n n1
    obtain ⟨s2, hr2, hs2⟩ := slice_to (P := Try.prog) 22 5 Try.underlying22 Try.sizeU8 h2 n n2
    have T0 := Lib.hid (And.intro hs0 hn)
    have T1 := Lib.hid (And.intro hs1 hn)
    have T2 := Lib.hid (And.intro hs2 hn)
    clear hs0 hs1 hs2
    have t0 : (b0.take n).length = n := by simp; omega
    have t1 : (b1.take n).length = n := by simp; omega
    have t2 : (b2.take n).length = n := by simp; omega
    have g0 : ∀ k, k < n → (b0.take n).getD k 0 = b0.getD k 0 := fun k hk => by simp [List.getD, hk]
    have g1 : ∀ k, k < n → (b1.take n).getD k 0 = b1.getD k 0 := fun k hk => by simp [List.getD, hk]
    have g2 : ∀ k, k < n → (b2.take n).getD k 0 = b2.getD k 0 := fun k hk => by simp [List.getD, hk]
    have GG := Lib.hid (And.intro (And.intro t0 (And.intro t1 t2)) (And.intro g0 (And.intro g1 g2)))
    clear t0 t1 t2 g0 g1 g2 q0 q1 q2
    generalize b0.take n = d0 at *
    generalize b1.take n = d1 at *
    generalize b2.take n = d2 at *
    have HLT : Hid (∀ k, k < n → (k : Int) < (l0 : Int) ∧ (k : Int) < (l1 : Int) ∧ (k : Int) < (l2 : Int)) := fun k hk => by omega
    rcases hcase with ⟨x1, x2, x3⟩ | ⟨x1, x2, x3⟩ | ⟨x1, x2, x3⟩ | ⟨x1, x2, x3⟩
    all_goals
      subst x3
      go_enter Try.func19, Try.ntmps19
      go_wp2_with (refine wpList_make_typed b8 0 _ rfl _ _ 22 rfl 5 (.int .u8 0) 1 Try.underlying22 Try.infoU8 rfl .i64 .i64 _ _ n rfl rfl rfl rfl (by omega) (by unfold maxLen; omega) ?_)
      intro w1 ho1 hb1
      go_wp2_with fail
      go_loopw [9] (fun i wr => ∃ (k : Nat) (X : List UInt8), k ≤ n ∧ i = .int .i64 k ∧ X.length = n ∧ Hid (∀ j, j < k → X.getD j 0 = d0.getD j 0 ^^^ d1.getD j 0 ^^^ d2.getD j 0) ∧ wr.ownsRow w.heap.size 5 1 (.slice (some ⟨w.heap.size, 0, none⟩) n n) n (cs b8 X) ∧ Below w.heap.size w wr) (fun i _ => n - (intOf i).toNat)
      case atStart => exact ⟨0, _, by omega, rfl, by simp, fun j hj => absurd hj (by omega), ho1, hb1⟩
      case round =>
        obtain ⟨k, X, hk, rfl, hX, hall, ho, hb⟩ := hrel
        by_cases hkn : k < n
        · obtain ⟨p0, o0, e0, y0⟩ := (h0.ext hb).at_ k (by omega) 0
          obtain ⟨p1, o1, e1, y1⟩ := (h1.ext hb).at_ k (by omega) 0
          obtain ⟨p2, o2, e2, y2⟩ := (h2.ext hb).at_ k (by omega) 0
          subst e0; subst e1; subst e2
          have hx : (X.set k (d0.getD k 0 ^^^ d1.getD k 0 ^^^ d2.getD k 0)).length = n := by rw [List.length_set]; exact hX
          have hall2 : Hid (∀ j, j < k + 1 → (X.set k (d0.getD k 0 ^^^ d1.getD k 0 ^^^ d2.getD k 0)).getD j 0 = d0.getD j 0 ^^^ d1.getD j 0 ^^^ d2.getD j 0) := fun j hj => by
            by_cases hjk : j = k
            · subst hjk; simp [List.getD, show j < X.length by omega]
            · rw [← hall.out j (by omega)]
              simp only [List.getD]
              rw [List.getElem?_set_ne (fun e => hjk e.symm)]
          obtain ⟨hc, hf, z1, z2⟩ := own_cell ho k hkn 0
          rw [← GG.out.2.1 k hkn] at y0
          rw [← GG.out.2.2.1 k hkn] at y1
          rw [← GG.out.2.2.2 k hkn] at y2
          have i0 : (0 : Int) ≤ (k : Int) := by omega
          have i1 : (k : Int) < (n : Int) := by omega
          obtain ⟨i2, i3, i4⟩ := HLT.out k hkn
          have ho3 := own_set ho k (d0.getD k 0 ^^^ d1.getD k 0 ^^^ d2.getD k 0)
          have HO3 := Lib.hid ho3
          clear hall ho ho3
          generalize X.set k (d0.getD k 0 ^^^ d1.getD k 0 ^^^ d2.getD k 0) = X2 at *
          generalize d0.getD k 0 = u0 at *
          generalize d1.getD k 0 = u1 at *
          generalize d2.getD k 0 = u2 at *
          go_wp2_with fail
          refine wp_region_still_tail 17 (by kernel_rfl) (by kernel_rfl) ?_
          simp only [List.take_succ_cons, List.take_zero, List.drop_succ_cons, List.drop_zero]
          repeat still_step
          refine wpStill_nil ?_
          go_wp2_with fail
          go_roundw
          case rel => exact ⟨k + 1, X2, by omega, by go_num, hx, hall2, HO3.out, below_drew (hb.setCell (p := ⟨w.heap.size, k, none⟩) (Nat.le_refl _) _)⟩
          case measure => simp [intOf]; omega
        · obtain ⟨aX, cX, eX, sX⟩ := sl_of_own ho
          cases eX
          have hkk : k = n := by omega
          subst hkk
          have hxor := crc_xor3 d0 d1 d2 X (by rw [GG.out.1.1, hX]) (by rw [GG.out.1.2.1, hX]) (by rw [GG.out.1.2.2, hX]) (fun i hi => hall.out i (by omega))
          have HX := Lib.hid hxor
          have SX : Hid (Sl wr 1 (some ⟨w.heap.size, 0, none⟩) k k (cs b8 X) ∧ k ≤ 3000) := ⟨sX, hn⟩
          have Q0 : Hid (Sl wr 1 s0 k c0 (cs b8 d0) ∧ k ≤ 3000) := ⟨T0.out.1.ext hb, hn⟩
          have Q1 : Hid (Sl wr 1 s1 k c1 (cs b8 d1) ∧ k ≤ 3000) := ⟨T1.out.1.ext hb, hn⟩
          have Q2 : Hid (Sl wr 1 s2 k c2 (cs b8 d2) ∧ k ≤ 3000) := ⟨T2.out.1.ext hb, hn⟩
          have hB := Lib.hid hb
          clear hxor sX hall ho hb
          go_wp2_with fail
          refine (sum_b SX (Below.refl _ _)).mono ?_
          rintro e w3 ⟨rfl, hb3⟩
          have hxl := (crc X).isLt
          have hsum : Hid ((crc X).toNat = (crc d0 ^^^ crc d1 ^^^ crc d2).toNat) := by show _ = _; rw [HX.out]
          generalize (crc X).toNat = sx at *
          have E1 := bits_xor_32 (crc d0) (crc d1)
          have E2 := bits_xor_32 (crc d0 ^^^ crc d1) (crc d2)
          rw [← hsum.out] at E2
          generalize crc d0 ^^^ crc d1 = x01 at *
          have hs1 : (0 : Int) ≤ (sx : Int) := by omega
          have hs2 : (sx : Int) ≤ 4294967295 := by omega
          have R0 : Hid (Sl w3 1 s0 k c0 (cs b8 d0) ∧ k ≤ 3000) := ⟨Q0.out.1.ext hb3, hn⟩
          have R1 : Hid (Sl w3 1 s1 k c1 (cs b8 d1) ∧ k ≤ 3000) := ⟨Q1.out.1.ext hb3, hn⟩
          have R2 : Hid (Sl w3 1 s2 k c2 (cs b8 d2) ∧ k ≤ 3000) := ⟨Q2.out.1.ext hb3, hn⟩
          have HB3 : Hid (Below w.heap.size w w3) := below_step hB.out hb3
          clear Q0 Q1 Q2 SX hb3
          have hb0 := Below.refl w3.heap.size w3
          go_wp2_with fail
          go_region_held3 (fun w' => Below w3.heap.size w3 w')
            (repeat (with_reducible first | assumption | refine below_drew ?_ | (apply keepB; focus assumption)))
            (first
              | (go_at_call 53; (with_reducible refine (sum_b R0 ?_).mono ?_); (focus assumption); rintro e w4 ⟨rfl, hb4⟩)
              | (go_at_call 53; (with_reducible refine (sum_b R1 ?_).mono ?_); (focus assumption); rintro e w4 ⟨rfl, hb4⟩)
              | (go_at_call 53; (with_reducible refine (sum_b R2 ?_).mono ?_); (focus assumption); rintro e w4 ⟨rfl, hb4⟩)
              | (go_at_call 52; (with_reducible refine (awake05_any _).mono ?_); rintro e w4 ⟨rfl, hb4⟩))
          all_goals
            go_wp2
            go_ret
            exact ⟨rfl, below_step HB3.out (by assumption)⟩
end Go.Proofs.Ytmanoeimnipjjaa
