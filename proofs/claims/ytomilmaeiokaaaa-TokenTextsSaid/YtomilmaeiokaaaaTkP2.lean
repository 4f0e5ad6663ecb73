/-
  TOKENS, THE REFERENCE: packed.
-/
import Derived.Test.YtomilmaeiokaaaaProg
import Derived.Test.YtomilmaeiokaaaaBase15
import Derived.Test.YtomilmaeiokaaaaMacP
import Derived.Test.YtomilmaeiokaaaaTokP
import Derived.Test.YtomilmaeiokaaaaTkP
import Derived.Test.YtomilmaeiokaaaaTkV
import Derived.Test.YtomilmaeiokaaaaTkT
import Derived.Test.YtomilmaeiokaaaaTkX
import Derived.Test.YtomilmaeiokaaaaTkY
import Derived.Test.YtomilmaeiokaaaaTkD
import Derived.Test.YtomilmaeiokaaaaTok1
import Derived.Test.YtomilmaeiokaaaaTok2
import Derived.Test.YtomilmaeiokaaaaTok2R
import Derived.Test.YtomilmaeiokaaaaHeld
import Derived.BigQuiet
import Derived.Laws.StructEq
import Derived.StillTailTactics
import Derived.RegionTactic
import Derived.BigRegion
import Derived.Deep.DeepCutAuto
import Derived.Deep.QuietTactic
import Derived.WalkSpells
import Derived.WalkLawsBesides
namespace Go.Proofs.Ytomilmaeiokaaaa
open Go.RowKit
set_option linter.unusedVariables false

theorem pkL_at (cl : List UInt8) (n t j : Nat) (hj : j < n) : (pkL cl n t).getD j 0 = UInt8.ofNat (pkB cl t j) := by
  simp [pkL, List.getD, hj]
theorem pkL_keep (cl : List UInt8) (n t : Nat) (h : n ≤ t / 8 ∨ tbit cl t = 0) : pkL cl n (t + 1) = pkL cl n t := by
  unfold pkL
  apply List.map_congr_left
  intro j hj
  rw [List.mem_range] at hj
  have e : pkB cl (t + 1) j = pkB cl t j + (if t / 8 = j then tbit cl t * 2 ^ (7 - t % 8) else 0) := rfl
  rw [e]
  rcases h with h | h
  · rw [if_neg (by omega)]; rfl
  · rw [h, Nat.zero_mul, ite_self]; rfl
theorem pkL_bit (cl : List UInt8) (n t : Nat) (h : t / 8 < n) (h1 : tbit cl t = 1) : pkL cl n (t + 1) = (pkL cl n t).set (t / 8) ((pkL cl n t).getD (t / 8) 0 + UInt8.ofNat (2 ^ (7 - t % 8))) := by
  rw [pkL_at cl n t _ h]
  apply List.ext_getElem
  · simp [pkL]
  · intro j g1 g2
    have hj : j < n := by rw [pkL_len] at g1; exact g1
    rw [List.getElem_set]
    by_cases e : t / 8 = j
    · rw [if_pos e]
      subst e
      simp only [pkL, List.getElem_map, List.getElem_range]
      rw [← UInt8.ofNat_add]
      congr 1
      show pkB cl t (t / 8) + _ = _
      rw [if_pos rfl, h1, Nat.one_mul]
    · rw [if_neg e]
      simp only [pkL, List.getElem_map, List.getElem_range]
      congr 1
      show pkB cl t j + _ = _
      rw [if_neg e]; rfl
theorem pkL_zero (cl : List UInt8) (n : Nat) : pkL cl n 0 = List.replicate n 0 := by
  apply List.ext_getElem
  · simp [pkL]
  · intro j g1 g2
    simp [pkL, pkB]
theorem b128_shr (r : Nat) (h : r < 8) (t : TypeId) : binOp .shr t (.int .u8 128) (.int .i64 (r : Int)) = pure (b8 (UInt8.ofNat (2 ^ (7 - r)))) := by
  have h0 : (0 : Int) ≤ (r : Int) := by omega
  have := b8_shr (t := t) (a := (128 : UInt8)) (yk := IntKind.i64) (h := h0)
  refine Eq.trans this ?_
  obtain rfl | rfl | rfl | rfl | rfl | rfl | rfl | rfl : r = 0 ∨ r = 1 ∨ r = 2 ∨ r = 3 ∨ r = 4 ∨ r = 5 ∨ r = 6 ∨ r = 7 := by omega
  all_goals rfl
theorem tbit_at (cl : List UInt8) (i k : Nat) (hk : k < 5) : tbit cl (5 * i + k) = idxA (cl.getD i 0) / 2 ^ (4 - k) % 2 := by
  unfold tbit
  rw [show (5 * i + k) / 5 = i from by omega, show (5 * i + k) % 5 = k from by omega]
/-- The bytes as they lie. -/
def PkO (w : World) (n t : Nat) (cl : List UInt8) (W : World) : Prop := W.ownsRow w.heap.size 5 1 (.slice (some ⟨w.heap.size, 0, none⟩) n n) n (cs b8 (pkL cl n t)) ∧ Below w.heap.size w W
set_option maxRecDepth 100000 in
set_option maxHeartbeats 2000000 in
theorem packed_ok (s : ByteArray) (w : World) (hlen : s.data.toList.length ≤ 200) (hall : ∀ j, j < s.data.toList.length → idxA (s.data.toList.getD j 0) < 32) : Calls Try.prog 52 #[.string s] w (fun e w' => ∃ a c, e = .returned (.tuple #[.slice a (decB s.data.toList).length c, .bool true]) ∧ Hid (Sl w' 1 a (decB s.data.toList).length c (cs b8 (decB s.data.toList))) ∧ Below w.heap.size w w') := by
  have hss : s.size = s.data.toList.length := (Array.length_toList (xs := s.data)).symm
  obtain ⟨L, hL⟩ : ∃ L, s.data.toList.length = L := ⟨_, rfl⟩
  rw [hL] at hlen hss hall
  have hL200 : (L : Int) ≤ 200 := by omega
  have hL0 : (0 : Int) ≤ (L : Int) := by omega
  have hidx := fun k hk => str_idx s k hk
  obtain ⟨cl, hcl⟩ : ∃ cl, s.data.toList = cl := ⟨_, rfl⟩
  rw [hcl] at hL hidx hall ⊢
  have HL := Lib.hid hL
  have HIDX := Lib.hid hidx
  have HALL := Lib.hid hall
  clear hall
  clear hL hidx hcl
  obtain ⟨n, hn⟩ : ∃ n, 5 * L / 8 = n := ⟨_, rfl⟩
  have hmk : ((5 : Int) * (L : Int)).tdiv 8 = (n : Int) := by rw [Int.tdiv_eq_ediv_of_nonneg (by omega)]; omega
  have hn125 : n ≤ 125 := by omega
  have HN := Lib.hid hn
  clear hn
  go_enter Try.func52, Try.ntmps52
  go_wp2_with (refine wpList_make_typed b8 0 _ rfl _ _ 22 rfl 5 (.int .u8 0) 1 Try.underlying22 Try.infoU8 rfl .i64 .i64 _ _ n rfl rfl rfl rfl (by omega) (by unfold maxLen; omega) ?_)
  intro w1 ho1 hb1
  rw [← pkL_zero cl n] at ho1
  have HO1 : Hid (PkO w n 0 cl w1) := Lib.hid ⟨ho1, hb1⟩
  clear ho1 hb1
  go_upto_region 3 with (fail)
  go_loopw [5] (fun i wr => ∃ (k : Nat), k ≤ L ∧ i = .int .i64 (k : Int) ∧ Hid (PkO w n (5 * k) cl wr)) (fun i _ => L - (intOf i).toNat)
  case atStart => exact ⟨0, by omega, rfl, HO1⟩
  case round =>
    obtain ⟨i, hi, rfl, HO⟩ := hrel
    obtain ⟨wo, hwo⟩ : ∃ wo : World, wo = wr := ⟨_, rfl⟩
    subst hwo
    have hi0 : (0 : Int) ≤ (i : Int) := by omega
    by_cases hiL : i < L
    · have hiL' : (i : Int) < (L : Int) := by omega
      have hix := HIDX.out i (by rw [HL.out]; omega)
      have hvk := HALL.out i (by omega)
      have htb := tbit_at cl i
      generalize cl.getD i 0 = c at *
      have hcall := fun w => refIndex_any c w
      rw [if_pos hvk] at hcall
      have HCALL := Lib.hid hcall
      have HTB := Lib.hid htb
      clear hcall htb
      generalize idxA c = v at *
      have hv : (v : Int) < 32 := by omega
      have hv0 : ¬ (v : Int) < 0 := by omega
      go_wp2_with fail
      refine (HCALL.out _).mono ?_
      rintro e w2 ⟨rfl, hw2⟩
      subst w2
      go_upto_region 9 with (fail)
      go_loopw [7] (fun q w3 => ∃ (k : Nat), k ≤ 5 ∧ q = .int .i64 (k : Int) ∧ Hid (PkO w n (5 * i + k) cl w3)) (fun q _ => 5 - (intOf q).toNat)
      case atStart => exact ⟨0, by omega, rfl, HO⟩
      case round =>
        obtain ⟨k, hk, rfl, HP⟩ := hrel
        obtain ⟨wi, hwi⟩ : ∃ wi : World, wi = wr := ⟨_, rfl⟩
        subst hwi
        by_cases hk5 : k < 5
        · have hk5' : (k : Int) < 5 := by omega
          have hk0 : (0 : Int) ≤ (k : Int) := by omega
          obtain ⟨T, hT⟩ : ∃ T, 5 * i + k = T := ⟨_, rfl⟩
          have hTi : (5 : Int) * (i : Int) + (k : Int) = (T : Int) := by omega
          have htk := HTB.out k hk5
          rw [hT] at htk HP
          obtain ⟨q, hq⟩ : ∃ q, T / 8 = q := ⟨_, rfl⟩
          obtain ⟨r, hr⟩ : ∃ r, T % 8 = r := ⟨_, rfl⟩
          have hr8 : r < 8 := by omega
          have hTq : (T : Int).tdiv 8 = (q : Int) := by rw [Int.tdiv_eq_ediv_of_nonneg (by omega)]; omega
          have hTr : (T : Int).tmod 8 = (r : Int) := by rw [Int.tmod_eq_emod_of_nonneg (by omega)]; omega
          obtain ⟨D, hD⟩ : ∃ D, dv v (4 - k) = D := ⟨_, rfl⟩
          obtain ⟨m, hm⟩ : ∃ m, tbit cl T = m := ⟨_, rfl⟩
          have hsh : ∀ t, binOp .shr t (.int .i64 (v : Int)) (.int .i64 (4 - (k : Int))) = pure (.int .i64 (D : Int)) := fun t => by
            have := i64_shr_n t v (4 - k) (by omega)
            rw [hD, show ((4 - k : Nat) : Int) = 4 - (k : Int) from by omega] at this
            exact this
          have hDm : (D : Int).tmod 2 = (m : Int) := by
            rw [Int.tmod_eq_emod_of_nonneg (by omega), ← hm, htk, ← hD]
            unfold dv
            omega
          have hm2 : m < 2 := by rw [← hm]; exact tbit_lt cl T
          have hsum : 5 * i + (k + 1) = T + 1 := by omega
          have HSUM := Lib.hid hsum
          have hT0 : (0 : Int) ≤ (T : Int) := by omega
          have hTl : (T : Int) < 2000 := by omega
          have hq0 : (0 : Int) ≤ (q : Int) := by omega
          have hql : (q : Int) < 2000 := by omega
          have hr0 : (0 : Int) ≤ (r : Int) := by omega
          have hrl : (r : Int) < 8 := by omega
          have hwq := wrap_i64_nat q (by omega)
          have hwr := wrap_i64_nat r (by omega)
          clear hT hsum htk hD
          by_cases hqn : q < n
          · have hqn' : (q : Int) < (n : Int) := by omega
            by_cases hm1 : m = 1
            · subst hm1
              have hst := pkL_bit cl n T (by rw [hq]; exact hqn) hm
              rw [hq, hr] at hst
              have hsr := fun t => b128_shr r hr8 t
              generalize UInt8.ofNat (2 ^ (7 - r)) = d at *
              obtain ⟨hc, hf, z1, z2⟩ := own_cell HP.out.1 q hqn 0
              have ho3 := own_set HP.out.1 q ((pkL cl n T).getD q 0 + d)
              rw [← hst] at ho3
              have HO3 : Hid (PkO w n (T + 1) cl (wi.setCell ⟨w.heap.size, q, none⟩ (b8 ((pkL cl n T).getD q 0 + d)))) := ⟨ho3, HP.out.2.setCell (p := ⟨w.heap.size, q, none⟩) (Nat.le_refl _) _⟩
              clear ho3 hst hm hq hr
              generalize (pkL cl n T).getD q 0 = x at *
              go_upto_region 13 with (fail)
              refine wp_region_still_tail 13 (by kernel_rfl) (by kernel_rfl) ?_
              simp only [List.take_succ_cons, List.take_zero, List.drop_succ_cons, List.drop_zero]
              repeat still_step
              refine wpStill_nil ?_
              go_wp2_with fail
              go_roundw
              case rel => exact ⟨k + 1, by omega, by go_num, by rw [HSUM.out]; exact ⟨HO3.out.1, below_drew HO3.out.2⟩⟩
              case measure => simp [intOf]; omega
            · obtain rfl : m = 0 := by omega
              have hke := pkL_keep cl n T (.inr hm)
              have HO3 : Hid (PkO w n (T + 1) cl wi) := by unfold PkO; rw [hke]; exact HP
              clear hke hm hq hr
              go_wp2_with fail
              go_roundw
              case rel => exact ⟨k + 1, by omega, by go_num, by rw [HSUM.out]; exact HO3⟩
              case measure => simp [intOf]; omega
          · have hqn' : ¬ (q : Int) < (n : Int) := by omega
            have hke := pkL_keep cl n T (.inl (by omega))
            have HO3 : Hid (PkO w n (T + 1) cl wi) := by unfold PkO; rw [hke]; exact HP
            clear hke hm hq hr
            go_wp2_with fail
            go_roundw
            case rel => exact ⟨k + 1, by omega, by go_num, by rw [HSUM.out]; exact HO3⟩
            case measure => simp [intOf]; omega
        · have hk5' : ¬ (k : Int) < 5 := by omega
          obtain rfl : k = 5 := by omega
          go_wp2_with fail
          go_roundw
          case rel => exact ⟨i + 1, by omega, by go_num, HP⟩
          case measure => simp [intOf]; omega
    · have hiL' : ¬ (i : Int) < (L : Int) := by omega
      obtain rfl : i = L := by omega
      have hdec := pkL_dec cl (fun c hc => by
        obtain ⟨j, hj, rfl⟩ := List.getElem_of_mem hc
        have := HALL.out j (by rw [← HL.out]; exact hj)
        simpa [List.getD, hj] using this)
      rw [HL.out, HN.out] at hdec
      have ho := HO.out.1
      have hln := pkL_len cl n (5 * i)
      rw [hdec] at ho hln
      obtain ⟨aX, cX, eX, sX⟩ := sl_of_own ho
      cases eX
      have HLN := Lib.hid hln
      have SX := Lib.hid sX
      have HB := Lib.hid HO.out.2
      clear ho hdec hln sX
      go_wp2_with fail
      go_ret2
      rw [HLN.out]
      exact ⟨_, _, rfl, SX, HB.out⟩
set_option maxRecDepth 100000 in
set_option maxHeartbeats 2000000 in
theorem packed_bad (s : ByteArray) (w : World) (hlen : s.data.toList.length ≤ 200) (M : Nat) (hM : M < s.data.toList.length) (hall : ∀ j, j < M → idxA (s.data.toList.getD j 0) < 32) (hbad : ¬ idxA (s.data.toList.getD M 0) < 32) : Calls Try.prog 52 #[.string s] w (fun e w' => e = .returned (.tuple #[.slice none 0 0, .bool false]) ∧ Below w.heap.size w w') := by
  have hss : s.size = s.data.toList.length := (Array.length_toList (xs := s.data)).symm
  obtain ⟨L, hL⟩ : ∃ L, s.data.toList.length = L := ⟨_, rfl⟩
  rw [hL] at hlen hss hM
  have hL200 : (L : Int) ≤ 200 := by omega
  have hL0 : (0 : Int) ≤ (L : Int) := by omega
  have hidx := fun k hk => str_idx s k hk
  obtain ⟨cl, hcl⟩ : ∃ cl, s.data.toList = cl := ⟨_, rfl⟩
  rw [hcl] at hL hidx hall hbad
  have HL := Lib.hid hL
  have HIDX := Lib.hid hidx
  have HALL := Lib.hid hall
  have HBAD := Lib.hid hbad
  clear hall hbad
  clear hL hidx hcl
  obtain ⟨n, hn⟩ : ∃ n, 5 * L / 8 = n := ⟨_, rfl⟩
  have hmk : ((5 : Int) * (L : Int)).tdiv 8 = (n : Int) := by rw [Int.tdiv_eq_ediv_of_nonneg (by omega)]; omega
  have hn125 : n ≤ 125 := by omega
  have HN := Lib.hid hn
  clear hn
  go_enter Try.func52, Try.ntmps52
  go_wp2_with (refine wpList_make_typed b8 0 _ rfl _ _ 22 rfl 5 (.int .u8 0) 1 Try.underlying22 Try.infoU8 rfl .i64 .i64 _ _ n rfl rfl rfl rfl (by omega) (by unfold maxLen; omega) ?_)
  intro w1 ho1 hb1
  rw [← pkL_zero cl n] at ho1
  have HO1 : Hid (PkO w n 0 cl w1) := Lib.hid ⟨ho1, hb1⟩
  clear ho1 hb1
  go_upto_region 3 with (fail)
  go_loopw [5] (fun i wr => ∃ (k : Nat), k ≤ M ∧ i = .int .i64 (k : Int) ∧ Hid (PkO w n (5 * k) cl wr)) (fun i _ => L - (intOf i).toNat)
  case atStart => exact ⟨0, by omega, rfl, HO1⟩
  case round =>
    obtain ⟨i, hi, rfl, HO⟩ := hrel
    obtain ⟨wo, hwo⟩ : ∃ wo : World, wo = wr := ⟨_, rfl⟩
    subst hwo
    have hi0 : (0 : Int) ≤ (i : Int) := by omega
    by_cases hiL : i < M
    · have hiL' : (i : Int) < (L : Int) := by omega
      have hix := HIDX.out i (by rw [HL.out]; omega)
      have hvk := HALL.out i (by omega)
      have htb := tbit_at cl i
      generalize cl.getD i 0 = c at *
      have hcall := fun w => refIndex_any c w
      rw [if_pos hvk] at hcall
      have HCALL := Lib.hid hcall
      have HTB := Lib.hid htb
      clear hcall htb
      generalize idxA c = v at *
      have hv : (v : Int) < 32 := by omega
      have hv0 : ¬ (v : Int) < 0 := by omega
      go_wp2_with fail
      refine (HCALL.out _).mono ?_
      rintro e w2 ⟨rfl, hw2⟩
      subst w2
      go_upto_region 9 with (fail)
      go_loopw [7] (fun q w3 => ∃ (k : Nat), k ≤ 5 ∧ q = .int .i64 (k : Int) ∧ Hid (PkO w n (5 * i + k) cl w3)) (fun q _ => 5 - (intOf q).toNat)
      case atStart => exact ⟨0, by omega, rfl, HO⟩
      case round =>
        obtain ⟨k, hk, rfl, HP⟩ := hrel
        obtain ⟨wi, hwi⟩ : ∃ wi : World, wi = wr := ⟨_, rfl⟩
        subst hwi
        by_cases hk5 : k < 5
        · have hk5' : (k : Int) < 5 := by omega
          have hk0 : (0 : Int) ≤ (k : Int) := by omega
          obtain ⟨T, hT⟩ : ∃ T, 5 * i + k = T := ⟨_, rfl⟩
          have hTi : (5 : Int) * (i : Int) + (k : Int) = (T : Int) := by omega
          have htk := HTB.out k hk5
          rw [hT] at htk HP
          obtain ⟨q, hq⟩ : ∃ q, T / 8 = q := ⟨_, rfl⟩
          obtain ⟨r, hr⟩ : ∃ r, T % 8 = r := ⟨_, rfl⟩
          have hr8 : r < 8 := by omega
          have hTq : (T : Int).tdiv 8 = (q : Int) := by rw [Int.tdiv_eq_ediv_of_nonneg (by omega)]; omega
          have hTr : (T : Int).tmod 8 = (r : Int) := by rw [Int.tmod_eq_emod_of_nonneg (by omega)]; omega
          obtain ⟨D, hD⟩ : ∃ D, dv v (4 - k) = D := ⟨_, rfl⟩
          obtain ⟨m, hm⟩ : ∃ m, tbit cl T = m := ⟨_, rfl⟩
          have hsh : ∀ t, binOp .shr t (.int .i64 (v : Int)) (.int .i64 (4 - (k : Int))) = pure (.int .i64 (D : Int)) := fun t => by
            have := i64_shr_n t v (4 - k) (by omega)
            rw [hD, show ((4 - k : Nat) : Int) = 4 - (k : Int) from by omega] at this
            exact this
          have hDm : (D : Int).tmod 2 = (m : Int) := by
            rw [Int.tmod_eq_emod_of_nonneg (by omega), ← hm, htk, ← hD]
            unfold dv
            omega
          have hm2 : m < 2 := by rw [← hm]; exact tbit_lt cl T
          have hsum : 5 * i + (k + 1) = T + 1 := by omega
          have HSUM := Lib.hid hsum
          have hT0 : (0 : Int) ≤ (T : Int) := by omega
          have hTl : (T : Int) < 2000 := by omega
          have hq0 : (0 : Int) ≤ (q : Int) := by omega
          have hql : (q : Int) < 2000 := by omega
          have hr0 : (0 : Int) ≤ (r : Int) := by omega
          have hrl : (r : Int) < 8 := by omega
          have hwq := wrap_i64_nat q (by omega)
          have hwr := wrap_i64_nat r (by omega)
          clear hT hsum htk hD
          by_cases hqn : q < n
          · have hqn' : (q : Int) < (n : Int) := by omega
            by_cases hm1 : m = 1
            · subst hm1
              have hst := pkL_bit cl n T (by rw [hq]; exact hqn) hm
              rw [hq, hr] at hst
              have hsr := fun t => b128_shr r hr8 t
              generalize UInt8.ofNat (2 ^ (7 - r)) = d at *
              obtain ⟨hc, hf, z1, z2⟩ := own_cell HP.out.1 q hqn 0
              have ho3 := own_set HP.out.1 q ((pkL cl n T).getD q 0 + d)
              rw [← hst] at ho3
              have HO3 : Hid (PkO w n (T + 1) cl (wi.setCell ⟨w.heap.size, q, none⟩ (b8 ((pkL cl n T).getD q 0 + d)))) := ⟨ho3, HP.out.2.setCell (p := ⟨w.heap.size, q, none⟩) (Nat.le_refl _) _⟩
              clear ho3 hst hm hq hr
              generalize (pkL cl n T).getD q 0 = x at *
              go_upto_region 13 with (fail)
              refine wp_region_still_tail 13 (by kernel_rfl) (by kernel_rfl) ?_
              simp only [List.take_succ_cons, List.take_zero, List.drop_succ_cons, List.drop_zero]
              repeat still_step
              refine wpStill_nil ?_
              go_wp2_with fail
              go_roundw
              case rel => exact ⟨k + 1, by omega, by go_num, by rw [HSUM.out]; exact ⟨HO3.out.1, below_drew HO3.out.2⟩⟩
              case measure => simp [intOf]; omega
            · obtain rfl : m = 0 := by omega
              have hke := pkL_keep cl n T (.inr hm)
              have HO3 : Hid (PkO w n (T + 1) cl wi) := by unfold PkO; rw [hke]; exact HP
              clear hke hm hq hr
              go_wp2_with fail
              go_roundw
              case rel => exact ⟨k + 1, by omega, by go_num, by rw [HSUM.out]; exact HO3⟩
              case measure => simp [intOf]; omega
          · have hqn' : ¬ (q : Int) < (n : Int) := by omega
            have hke := pkL_keep cl n T (.inl (by omega))
            have HO3 : Hid (PkO w n (T + 1) cl wi) := by unfold PkO; rw [hke]; exact HP
            clear hke hm hq hr
            go_wp2_with fail
            go_roundw
            case rel => exact ⟨k + 1, by omega, by go_num, by rw [HSUM.out]; exact HO3⟩
            case measure => simp [intOf]; omega
        · have hk5' : ¬ (k : Int) < 5 := by omega
          obtain rfl : k = 5 := by omega
          go_wp2_with fail
          go_roundw
          case rel => exact ⟨i + 1, by omega, by go_num, HP⟩
          case measure => simp [intOf]; omega
    · obtain rfl : i = M := by omega
      have hiL' : (i : Int) < (L : Int) := by omega
      have hix := HIDX.out i (by rw [HL.out]; omega)
      have hbad := HBAD.out
      generalize cl.getD i 0 = c at *
      have hcall := fun w => refIndex_any c w
      rw [if_neg hbad] at hcall
      have HCALL := Lib.hid hcall
      clear hcall
      go_wp2_with fail
      refine (HCALL.out _).mono ?_
      rintro e w2 ⟨rfl, hw2⟩
      subst w2
      go_wp2_with fail
      go_ret2
      exact ⟨rfl, HO.out.2⟩
end Go.Proofs.Ytomilmaeiokaaaa
