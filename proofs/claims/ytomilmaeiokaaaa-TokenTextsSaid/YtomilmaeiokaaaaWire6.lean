/-
  WIRE, THE WALKS: Text, Ints, and the reference's.
-/
import Derived.Test.YtomilmaeiokaaaaProg
import Derived.Test.YtomilmaeiokaaaaBase15
import Derived.Test.YtomilmaeiokaaaaWire5
import Derived.Test.YtomilmaeiokaaaaWireP3
import Derived.BigQuiet
import Derived.Deep.QuietTactic
import Derived.WalkSpells
import Derived.WalkLawsBesides
namespace Go.Proofs.Ytomilmaeiokaaaa
open Go.RowKit
set_option linter.unusedVariables false




theorem tup3 {a a' : Value} {b b' c c' : Int} (h1 : a = a') (h2 : b = b') (h3 : c = c') : Ending.returned (.tuple #[a, .int .i64 b, .int .i64 c]) = .returned (.tuple #[a', .int .i64 b', .int .i64 c']) := by rw [h1, h2, h3]

theorem int_val {bs : List UInt8} {at_ n nx er : Int} {ao : Option Addr} {len cap : Nat} {w : World} (hs : Sl w 1 ao len cap (cs b8 bs)) (hlen : len ≤ 1000000000000) (hr : Hid (intRes bs at_ = (n, nx, er))) :
    Calls Try.prog 33 #[.slice ao len cap, .int .i64 at_] w (fun e w' => e = .returned (.tuple #[.int .i64 n, .int .i64 nx, .int .i64 er]) ∧ w = w') :=
  (int_any bs at_ ao len cap w hs hlen).mono fun _ _ ⟨h, h'⟩ => ⟨by rw [h, hr.out]; rfl, h'⟩

set_option maxRecDepth 100000 in
set_option maxHeartbeats 1000000 in
theorem length_any (bs : List UInt8) (at_ : Int) (ao : Option Addr) (len cap : Nat) (w : World) (hs : Sl w 1 ao len cap (cs b8 bs)) (hlen : len ≤ 1000000000) :
    Calls Try.prog 54 #[.slice ao len cap, .int .i64 at_] w (fun e w' => e = .returned (int3 (lenRes bs at_)) ∧ w = w') := by
  obtain ⟨⟨n, nx, er⟩, hr⟩ : ∃ r, intRes bs at_ = r := ⟨_, rfl⟩
  obtain ⟨p1, p2, p3, p4⟩ := intRes_props hr
  have HR := Lib.hid hr
  clear hr
  obtain ⟨T, hT⟩ : ∃ T, lenRes bs at_ = T := ⟨_, rfl⟩
  rw [hT]
  unfold lenRes at hT
  rw [HR.out] at hT
  simp only at hT
  by_cases he : er = 0
  · subst he
    rw [if_neg (by decide)] at hT
    by_cases hn : n < 0
    · rw [if_pos hn] at hT
      have HT := Lib.hid hT
      clear hT
      go_enter Try.func54, Try.ntmps54
      go_wp2_with (go_at_call 33; refine (int_val hs (by omega) HR).mono ?_; rintro e w' ⟨rfl, rfl⟩)
      go_ret3
      exact ⟨int3_of HT.out.symm, rfl⟩
    · rw [if_neg hn] at hT
      have HT := Lib.hid hT
      clear hT
      go_enter Try.func54, Try.ntmps54
      go_wp2_with (go_at_call 33; refine (int_val hs (by omega) HR).mono ?_; rintro e w' ⟨rfl, rfl⟩)
      go_ret3
      exact ⟨int3_of HT.out.symm, rfl⟩
  · rw [if_pos he] at hT
    have HT := Lib.hid hT
    clear hT
    go_enter Try.func54, Try.ntmps54
    go_wp2_with (go_at_call 33; refine (int_val hs (by omega) HR).mono ?_; rintro e w' ⟨rfl, rfl⟩)
    go_ret3
    exact ⟨int3_of HT.out.symm, rfl⟩

theorem len_val {bs : List UInt8} {at_ n nx er : Int} {ao : Option Addr} {len cap : Nat} {w : World} (hs : Sl w 1 ao len cap (cs b8 bs)) (hlen : len ≤ 1000000000) (hr : Hid (lenRes bs at_ = (n, nx, er))) :
    Calls Try.prog 54 #[.slice ao len cap, .int .i64 at_] w (fun e w' => e = .returned (.tuple #[.int .i64 n, .int .i64 nx, .int .i64 er]) ∧ w = w') :=
  (length_any bs at_ ao len cap w hs hlen).mono fun _ _ ⟨h, h'⟩ => ⟨by rw [h, hr.out]; rfl, h'⟩

set_option maxRecDepth 100000 in
set_option maxHeartbeats 1000000 in
theorem text_any (bs : List UInt8) (at_ : Int) (ao : Option Addr) (len cap : Nat) (w : World) (hs : Sl w 1 ao len cap (cs b8 bs)) (hlen : len ≤ 1000000000) :
    Calls Try.prog 34 #[.slice ao len cap, .int .i64 at_] w (fun e w' => e = .returned (.tuple #[.string ⟨(textRes bs at_).1.toArray⟩, .int .i64 (textRes bs at_).2.1, .int .i64 (textRes bs at_).2.2]) ∧ w = w') := by
  obtain ⟨⟨n, nx, er⟩, hr⟩ : ∃ r, intRes bs at_ = r := ⟨_, rfl⟩
  obtain ⟨p1, p2, p3, p4⟩ := intRes_props hr
  have HR := Lib.hid hr
  clear hr
  obtain ⟨T, hT⟩ : ∃ T, textRes bs at_ = T := ⟨_, rfl⟩
  rw [hT]
  unfold textRes at hT
  rw [HR.out] at hT
  simp only at hT
  by_cases he : er = 0
  · subst he
    rw [if_neg (by decide)] at hT
    by_cases hn : n < 0
    · rw [if_pos hn] at hT
      have HL : Hid (lenRes bs at_ = (0, 0, 3)) := by show _ = _; unfold lenRes; rw [HR.out]; simp [*]
      have HT := Lib.hid hT
      clear hT
      go_enter Try.func34, Try.ntmps34
      go_wp2_with (go_at_call 54; refine (len_val hs (by omega) HL).mono ?_; rintro e w' ⟨rfl, rfl⟩)
      go_ret3
      exact ⟨by rw [← HT.out]; rfl, rfl⟩
    · rw [if_neg hn] at hT
      have HL : Hid (lenRes bs at_ = (n, nx, 0)) := by show _ = _; unfold lenRes; rw [HR.out]; simp [*]
      have hc := hs.count
      have hle := hs.hle
      have hp := p3 rfl
      obtain ⟨q, rfl⟩ := Int.eq_ofNat_of_zero_le (show 0 ≤ n by omega)
      obtain ⟨p, rfl⟩ := Int.eq_ofNat_of_zero_le (show 0 ≤ nx by omega)
      have hpl : p ≤ len := by omega
      by_cases hfit : (len : Int) - (p : Int) < (q : Int)
      · rw [if_pos (by omega)] at hT
        clear hc
        have HT := Lib.hid hT
        clear hT
        go_enter Try.func34, Try.ntmps34
        go_wp2_with (go_at_call 54; refine (len_val hs (by omega) HL).mono ?_; rintro e w' ⟨rfl, rfl⟩)
        go_ret3
        exact ⟨by rw [← HT.out]; rfl, rfl⟩
      · rw [if_neg (by omega)] at hT
        obtain ⟨ao', hrun, hs'⟩ := slice_mid (P := Try.prog) 22 5 Try.underlying22 Try.sizeU8 hs p (p + q) ((p : Int) + (q : Int)) (by omega) (by omega) (by omega)
        clear hc
        have hpq : p + q - p = q := by omega
        rw [hpq] at hrun hs'
        have hfit' : (p : Int) + (q : Int) ≤ (len : Int) := by omega
        clear hpq hfit
        have HT := Lib.hid hT
        clear hT
        go_enter Try.func34, Try.ntmps34
        go_wp2_with (first | (go_at_call 54; refine (len_val hs (by omega) HL).mono ?_; rintro e w' ⟨rfl, rfl⟩) | (with_reducible refine wpList_b2s _ rfl 22 9 5 _ rfl Try.underlying22 Try.underlying9 Try.underlying5 hs' rfl ?_))
        go_ret3
        exact ⟨by rw [← HT.out]; simp, rfl⟩
  · rw [if_pos he] at hT
    have HL : Hid (lenRes bs at_ = (0, 0, er)) := by show _ = _; unfold lenRes; rw [HR.out]; simp [*]
    have HT := Lib.hid hT
    clear hT
    go_enter Try.func34, Try.ntmps34
    go_wp2_with (go_at_call 54; refine (len_val hs (by omega) HL).mono ?_; rintro e w' ⟨rfl, rfl⟩)
    go_ret3
    exact ⟨by rw [← HT.out]; rfl, rfl⟩

end Go.Proofs.Ytomilmaeiokaaaa
