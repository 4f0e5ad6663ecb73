/-
  WIRE, THE WALKS: Text, Ints, and the reference's.
-/
import Derived.Test.YtpmjgiabedjlgaaProg
import Derived.Test.YtpmjgiabedjlgaaBase7
import Derived.Test.YtpmjgiabedjlgaaWire5
import Derived.Test.YtpmjgiabedjlgaaWireP3
import Derived.BigQuiet
import Derived.Deep.QuietTactic
import Derived.WalkSpells
import Derived.WalkLawsBesides
namespace Go.Proofs.Ytpmjgiabedjlgaa
open Go.RowKit
set_option linter.unusedVariables false




theorem int_val {bs : List UInt8} {at_ n nx er : Int} {ao : Option Addr} {len cap : Nat} {w : World} (hs : Sl w 1 ao len cap (cs b8 bs)) (hlen : len ≤ 1000000000000) (hr : Hid (intRes bs at_ = (n, nx, er))) :
    Calls Try.prog 19 #[.slice ao len cap, .int .i64 at_] w (fun e w' => e = .returned (.tuple #[.int .i64 n, .int .i64 nx, .int .i64 er]) ∧ w = w') :=
  (int_any bs at_ ao len cap w hs hlen).mono fun _ _ ⟨h, h'⟩ => ⟨by rw [h, hr.out]; rfl, h'⟩

set_option maxRecDepth 100000 in
set_option maxHeartbeats 1000000 in
theorem length_any (bs : List UInt8) (at_ : Int) (ao : Option Addr) (len cap : Nat) (w : World) (hs : Sl w 1 ao len cap (cs b8 bs)) (hlen : len ≤ 1000000000) :
    Calls Try.prog 42 #[.slice ao len cap, .int .i64 at_] w (fun e w' => e = .returned (int3 (lenRes bs at_)) ∧ w = w') := by
  obtain ⟨⟨n, nx, er⟩, hr⟩ : ∃ r, intRes bs at_ = r := ⟨_, rfl⟩
  obtain ⟨p1, p2, p3, p4⟩ := intRes_props hr
  have HR := Lib.hid hr
  clear hr
  obtain ⟨T, hT⟩ : ∃ T, lenRes bs at_ = T := ⟨_, rfl⟩
  rw [hT]
  unfold lenRes at hT
  rw [HR.out] at hT
  simp only at hT
  by_cases he : er = 0
  · subst he
    rw [if_neg (by decide)] at hT
    by_cases hn : n < 0
    · rw [if_pos hn] at hT
      have HT := Lib.hid hT
      clear hT
      go_enter Try.func42, Try.ntmps42
      go_wp2_with (go_at_call 19; refine (int_val hs (by omega) HR).mono ?_; rintro e w' ⟨rfl, rfl⟩)
      go_ret3
      exact ⟨int3_of HT.out.symm, rfl⟩
    · rw [if_neg hn] at hT
      have HT := Lib.hid hT
      clear hT
      go_enter Try.func42, Try.ntmps42
      go_wp2_with (go_at_call 19; refine (int_val hs (by omega) HR).mono ?_; rintro e w' ⟨rfl, rfl⟩)
      go_ret3
      exact ⟨int3_of HT.out.symm, rfl⟩
  · rw [if_pos he] at hT
    have HT := Lib.hid hT
    clear hT
    go_enter Try.func42, Try.ntmps42
    go_wp2_with (go_at_call 19; refine (int_val hs (by omega) HR).mono ?_; rintro e w' ⟨rfl, rfl⟩)
    go_ret3
    exact ⟨int3_of HT.out.symm, rfl⟩

theorem len_val {bs : List UInt8} {at_ n nx er : Int} {ao : Option Addr} {len cap : Nat} {w : World} (hs : Sl w 1 ao len cap (cs b8 bs)) (hlen : len ≤ 1000000000) (hr : Hid (lenRes bs at_ = (n, nx, er))) :
    Calls Try.prog 42 #[.slice ao len cap, .int .i64 at_] w (fun e w' => e = .returned (.tuple #[.int .i64 n, .int .i64 nx, .int .i64 er]) ∧ w = w') :=
  (length_any bs at_ ao len cap w hs hlen).mono fun _ _ ⟨h, h'⟩ => ⟨by rw [h, hr.out]; rfl, h'⟩

end Go.Proofs.Ytpmjgiabedjlgaa
