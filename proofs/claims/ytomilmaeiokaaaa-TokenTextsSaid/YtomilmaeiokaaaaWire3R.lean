/-
  WIRE, THE WALKS: the reference's Int.
-/
import Derived.Test.YtomilmaeiokaaaaProg
import Derived.Test.YtomilmaeiokaaaaBase15
import Derived.Test.YtomilmaeiokaaaaWire3
import Derived.Test.YtomilmaeiokaaaaWireP2
import Derived.BigQuiet
import Derived.Deep.QuietTactic
import Derived.WalkSpells
import Derived.WalkLawsBesides
namespace Go.Proofs.Ytomilmaeiokaaaa
open Go.RowKit
set_option linter.unusedVariables false


theorem number_any (u : BitVec 64) (w : World) : Calls Try.prog 62 #[u64 u] w (Quiet (.int .i64 (num u)) w) := by
  have hn := num_eq u
  have hh := half u
  have hb0 : 0 ≤ i64of (u / 2#64) := by omega
  have hb1 : i64of (u / 2#64) ≤ 9223372036854775807 := by have := u.isLt; omega
  have HN := Lib.hid hn
  have HH := Lib.hid hh
  clear hn hh
  by_cases h : u.toNat % 2 = 1
  · go_enter Try.func62, Try.ntmps62
    go_wp2
    go_ret
    exact ⟨ret_int (by rw [HN.out, if_pos h, ← HH.out]), rfl⟩
  · go_enter Try.func62, Try.ntmps62
    go_wp2
    go_ret
    exact ⟨ret_int (by rw [HN.out, if_neg h, ← HH.out]), rfl⟩

set_option maxRecDepth 100000 in
set_option maxHeartbeats 1000000 in
theorem refInt_in (bs : List UInt8) (at_ : Nat) (ao : Option Addr) (len cap : Nat) (w : World) (hs : Sl w 1 ao len cap (cs b8 bs)) (hlen : len ≤ 1000000000000) (hat : at_ ≤ len) :
    Calls Try.prog 53 #[.slice ao len cap, .int .i64 (at_ : Int)] w (fun e w' => e = .returned (int3 (intRes bs at_)) ∧ w = w') := by
  have hle := hs.hle
  have hmax := hs.hmax
  unfold maxLen at hmax
  go_enter Try.func53, Try.ntmps53
  have hneg : (0 : Int) ≤ (at_ : Int) := by omega
  go_wp2
  go_loop [7] (fun m => ∃ (k : Nat), at_ + k ≤ len ∧ k ≤ 10 ∧ m = .int .i64 k ∧ Hid (∀ j, j < k → 128 ≤ (bs.getD (at_ + j) 0).toNat))
    (fun m => 10 - (intOf m).toNat)
  case atStart => exact ⟨0, by omega, by omega, rfl, by intro j hj; omega⟩
  case round =>
    obtain ⟨k, hk, hk10, rfl, hall⟩ := hrel
    have hcount := hs.count
    have hall' : ∀ j, j < k → 128 ≤ ((bs.drop at_).getD j 0).toNat := by
      intro j hj
      have := hall.out j hj
      simpa [List.getD, List.getElem?_drop] using this
    have HA := Lib.hid hall'
    clear hall'
    have hdl : (bs.drop at_).length = len - at_ := by simp [hcount]
    have HDL := Lib.hid hdl
    clear hdl
    by_cases h1 : k < 10
    · by_cases h2 : at_ + k < len
      · have h2' : (at_ : Int) + (k : Int) < (len : Int) := by omega
        obtain ⟨b, off, e0, hcell⟩ := hs.at_ (at_ + k) h2 0
        subst e0
        have hgd : (bs.drop at_).getD k 0 = bs.getD (at_ + k) 0 := by simp [List.getD, List.getElem?_drop]
        by_cases h3 : 128 ≤ (bs.getD (at_ + k) 0).toNat
        · generalize hx : bs.getD (at_ + k) 0 = x at *
          have HX := Lib.hid hx
          have HG := Lib.hid hgd
          clear hx hgd
          have h3' : (128 : Int) ≤ (x.toNat : Int) := by omega
          go_wp2
          go_round
          case rel => exact ⟨k + 1, by omega, by omega, by go_num, by
            intro j hj
            by_cases hjk : j = k
            · subst hjk; show 128 ≤ (bs.getD (at_ + j) 0).toNat; rw [HX.out]; exact h3
            · exact hall.out j (by omega)⟩
          case measure => simp [intOf]; omega
        · have hS := scan_last k (bs.drop at_) h1 (by have := HDL.out; omega) HA.out (by rw [hgd]; omega)
          rw [hgd] at hS
          generalize hx : bs.getD (at_ + k) 0 = x at *
          have HX := Lib.hid hx
          have HG := Lib.hid hgd
          clear hx hgd
          have h3' : (x.toNat : Int) < 128 := by omega
          by_cases hbad : (0 < k ∧ x.toNat = 0) ∨ (k = 9 ∧ 1 < x.toNat)
          · rw [if_pos hbad] at hS
            have HS := Lib.hid hS
            clear hS
            rcases hbad with ⟨g1, g2⟩ | ⟨g1, g2⟩
            · go_wp2
              go_ret3
              exact ⟨int3_of (intRes_err hs hat (by decide) HS.out), rfl⟩
            · subst g1
              have g3 : ¬ x.toNat = 0 := by omega
              go_wp2
              go_ret3
              exact ⟨int3_of (intRes_err hs hat (by decide) HS.out), rfl⟩
          · rw [if_neg hbad] at hS
            have HS := Lib.hid hS
            clear hS
            have hb1 : 0 < k → ¬ x.toNat = 0 := fun h h' => hbad (.inl ⟨h, h'⟩)
            have hb2 : k = 9 → ¬ 1 < x.toNat := fun h h' => hbad (.inr ⟨h, h'⟩)
            clear hbad
            go_wp2
            all_goals
              go_loop [9, 10] (fun u i => ∃ t : Nat, t ≤ k + 1 ∧ i = .int .i64 ((t : Int) - 1) ∧ u = u64 (hor (((bs.drop at_).take (k + 1)).drop t))) (fun _ i => (intOf i + 1).toNat)
              case atStart => exact ⟨k + 1, by omega, by go_num, by rw [List.drop_of_length_le (by simp; omega)]; rfl⟩
              case round =>
                obtain ⟨t, ht, rfl, rfl⟩ := hrel
                rcases t with _ | t
                · go_wp2_with (go_at_call 62; refine (number_any _ _).mono ?_; rintro e w' ⟨rfl, rfl⟩)
                  go_ret3
                  exact ⟨int3_of (by rw [intRes_ok hs hat HS.out]; exact congrArg (fun m : Int => (num _, m, (0 : Int))) (by omega)), rfl⟩
                · obtain ⟨b', off', e1, hcell'⟩ := hs.at_ (at_ + t) (by omega) 0
                  cases e1
                  have hho : hor (((bs.drop at_).take (k + 1)).drop t) = 128#64 * hor (((bs.drop at_).take (k + 1)).drop (t + 1)) + low7 (bs.getD (at_ + t) 0) := by
                    rw [List.drop_eq_getElem_cons (by simp; omega), hor]; simp [List.getD, hcount, show at_ + t < len by omega]
                  have HO := Lib.hid hho
                  clear hho
                  generalize bs.getD (at_ + t) 0 = y at *
                  go_wp2
                  go_round
                  case rel => exact ⟨t, by omega, by go_num, by rw [HO.out, low7_rem]⟩
                  case measure => simp [intOf]
      · have h2' : ((at_ : Int) + (k : Int) == (len : Int)) = true := by simp; omega
        have hS := scan_end k (bs.drop at_) h1 (by have := HDL.out; omega) HA.out
        have HS := Lib.hid hS
        clear hS
        have hlt : (k : Int) < 10 := by omega
        go_wp2
        go_ret3
        obtain ⟨a, b, hS⟩ := HS.out
        exact ⟨int3_of (intRes_err hs hat (by decide) hS), rfl⟩
    · obtain rfl : k = 10 := by omega
      have hS := scan_ten (bs.drop at_) (by have := HDL.out; omega) HA.out
      have HS := Lib.hid hS
      clear hS
      go_wp2
      go_ret3
      obtain ⟨a, b, hS⟩ := HS.out
      exact ⟨int3_of (intRes_err hs hat (by decide) hS), rfl⟩

set_option maxRecDepth 100000 in
set_option maxHeartbeats 1000000 in
theorem refInt_any (bs : List UInt8) (at_ : Int) (ao : Option Addr) (len cap : Nat) (w : World) (hs : Sl w 1 ao len cap (cs b8 bs)) (hlen : len ≤ 1000000000000) :
    Calls Try.prog 53 #[.slice ao len cap, .int .i64 at_] w (fun e w' => e = .returned (int3 (intRes bs at_)) ∧ w = w') := by
  have hc := hs.count
  by_cases h0 : at_ < 0
  · have hr : Hid (intRes bs at_ = (0, 0, 1)) := by show _ = _; unfold intRes; rw [if_pos (.inl h0)]
    go_enter Try.func53, Try.ntmps53
    go_wp2
    go_ret3
    exact ⟨int3_of hr.out, rfl⟩
  · obtain ⟨n, rfl⟩ := Int.eq_ofNat_of_zero_le (show 0 ≤ at_ by omega)
    by_cases h1 : n ≤ len
    · exact refInt_in bs n ao len cap w hs hlen h1
    · have hr : Hid (intRes bs n = (0, 0, 1)) := by show _ = _; unfold intRes; rw [if_pos (.inr (by omega))]
      have h1' : (len : Int) < (n : Int) := by omega
      go_enter Try.func53, Try.ntmps53
      go_wp2
      go_ret3
      exact ⟨int3_of hr.out, rfl⟩
theorem refInt_val {bs : List UInt8} {at_ n nx er : Int} {ao : Option Addr} {len cap : Nat} {w : World} (hs : Sl w 1 ao len cap (cs b8 bs)) (hlen : len ≤ 1000000000000) (hr : Hid (intRes bs at_ = (n, nx, er))) :
    Calls Try.prog 53 #[.slice ao len cap, .int .i64 at_] w (fun e w' => e = .returned (.tuple #[.int .i64 n, .int .i64 nx, .int .i64 er]) ∧ w = w') :=
  (refInt_any bs at_ ao len cap w hs hlen).mono fun _ _ ⟨h, h'⟩ => ⟨by rw [h, hr.out]; rfl, h'⟩
end Go.Proofs.Ytomilmaeiokaaaa
