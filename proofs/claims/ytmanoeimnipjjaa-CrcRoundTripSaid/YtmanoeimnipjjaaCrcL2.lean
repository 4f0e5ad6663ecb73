/-
  CRC, THE LAWS' WALKS: CrcRoundTrip.
-/
import Derived.Test.YtmanoeimnipjjaaProg
import Derived.Test.YtmanoeimnipjjaaBase3
import Derived.Test.YtmanoeimnipjjaaBase5
import Derived.Test.YtmanoeimnipjjaaBase6
import Derived.Test.YtmanoeimnipjjaaBase7
import Derived.Test.YtmanoeimnipjjaaBase8
import Derived.Test.YtmanoeimnipjjaaBase9
import Derived.Test.YtmanoeimnipjjaaCrcL1
import Derived.Test.YtmanoeimnipjjaaCrcP3
import Derived.Test.YtmanoeimnipjjaaWire6
import Derived.Test.YtmanoeimnipjjaaWireP3
import Derived.Test.YtmanoeimnipjjaaHeld
import Derived.Lib.SmallJoins
import Derived.BigQuiet
import Derived.Laws.StructEq
import Derived.StillTailTactics
import Derived.RegionTactic
import Derived.Deep.DeepCutAuto
import Derived.Deep.QuietTactic
import Derived.WalkSpells
import Derived.WalkLawsBesides
namespace Go.Proofs.Ytmanoeimnipjjaa
open Go.RowKit
set_option linter.unusedVariables false

set_option maxRecDepth 100000 in
set_option maxHeartbeats 4000000 in
theorem crcRoundTrip_walk (bs b1 b2 : List UInt8) (a0 a1 a2 : Option Addr) (l0 c0 l1 c1 l2 c2 : Nat) (w : World) (h0 : Sl w 1 a0 l0 c0 (cs b8 bs)) (h1 : Sl w 1 a1 l1 c1 (cs b8 b1)) (h2 : Sl w 1 a2 l2 c2 (cs b8 b2)) :
    Calls Try.prog 17 #[.slice a0 l0 c0, .slice a1 l1 c1, .slice a2 l2 c2] w (RetB (.bool true) w) := by
  by_cases g0 : (l0 : Int) ≤ 3000
  · by_cases g1 : (l1 : Int) ≤ 3000
    · by_cases g2 : (l2 : Int) ≤ 3000
      · have q0 := h0.count
        have q1 := h1.count
        have hfl := frameB_len bs
        have hpl := putInt_length bs.length
        have hop := openRes_frame b1 bs b2 (by omega)
        rw [q0] at hfl hpl
        rw [q1] at hop
        have HS0 := Lib.hid h0
        have HS1 := Lib.hid h1
        have HS2 := Lib.hid h2
        have hseal := fun w' (hb : Below w.heap.size w w') => seal_any bs a0 l0 c0 w' (HS0.out.ext hb) (by omega)
        clear h0 h1 h2 q0 q1
        generalize (putInt (l0 : Int)).length = P at *
        generalize hFF : frameB bs = F at *
        generalize hfn : F.length = fl at *
        have HOP := Lib.hid hop
        clear hop hFF
        have z1 : (l0 : Int) + 4 < (fl : Int) := by omega
        have hflb : fl ≤ 4000 := by omega
        clear hfl
        have hwr : IntKind.i64.wrap ((l1 : Int) + (fl : Int)) = (l1 : Int) + (fl : Int) := by rw [IntKind.wrap_i64]; omega
        go_enter Try.func17, Try.ntmps17
        go_wp2_with fail
        refine (short_yes a0 c0 _ g0).mono ?_
        rintro e w' ⟨rfl, rfl⟩
        go_wp2_with fail
        refine (short_yes a1 c1 _ g1).mono ?_
        rintro e w' ⟨rfl, rfl⟩
        go_wp2_with fail
        refine (short_yes a2 c2 _ g2).mono ?_
        rintro e w' ⟨rfl, rfl⟩
        go_wp2_with fail
        refine (hseal _ (Below.refl _ _)).mono ?_
        rintro e w1 ⟨v1, rfl, ho1, hb1⟩
        obtain ⟨a3, c3, rfl, s3⟩ := sl_of_own ho1
        have B1 := Lib.hid hb1
        have S3 := Lib.hid s3
        clear ho1 s3 hb1
        go_wp2_with (at_builtin; refine wpList_append_many b8 (fun _ => rfl) _ rfl _ _ 22 rfl w1.heap.size 5 (.int .u8 0) 1 Try.underlying22 Try.infoU8 rfl (v := .slice (some ⟨w1.heap.size, 0, none⟩) 0 0) (n := 0) (xs := []) (World.ownsRow_lit w1 #[] 0 (Nat.le_refl _) (by decide) rfl) rfl (HS1.out.ext (below_step B1.out (below_alloc _ _))) rfl (by unfold maxLen; omega) (by omega) (by simp) ?_)
        intro v2 w2 ho2 hb2
        (try simp only [List.nil_append, Nat.zero_add] at ho2)
        have hb12 : Below w1.heap.size w1 w2 := (below_alloc _ _).trans hb2
        clear hb2
        have zz2 := hb12.size
        go_wp2_with (at_builtin; refine wpList_append_many b8 (fun _ => rfl) _ rfl _ _ 22 rfl w1.heap.size 5 (.int .u8 0) 1 Try.underlying22 Try.infoU8 rfl ho2 rfl (S3.out.ext hb12) rfl (by unfold maxLen; omega) (by omega) (by omega) ?_)
        intro v4 w4 ho4 hb4
        have hb14 := hb12.trans hb4
        clear hb4 hb12 ho2
        have zz4 := hb14.size
        go_wp2_with (at_builtin; refine wpList_append_many b8 (fun _ => rfl) _ rfl _ _ 22 rfl w1.heap.size 5 (.int .u8 0) 1 Try.underlying22 Try.infoU8 rfl ho4 rfl (HS2.out.ext (below_step B1.out hb14)) rfl (by unfold maxLen; omega) (by omega) (by omega) ?_)
        intro v5 w5 ho5 hb5
        have hb15 := hb14.trans hb5
        obtain ⟨a5, c5, rfl, s5⟩ := sl_of_own ho5
        (try rw [List.append_assoc] at s5)
        have S5 := Lib.hid s5
        have B5 := Lib.hid (below_step B1.out hb15)
        clear hb5 hb14 ho4 ho5 hb15 s5
        go_wp2_with fail
        refine (open_val S5.out (by omega) HOP).mono ?_
        rintro e w6 ⟨a6, m6, c6, rfl, ho6, hb6⟩
        obtain ⟨a6', c6', e6, s6⟩ := sl_of_own ho6
        cases e6
        have hm6 : m6 ≤ 1000000000000 := by have h1 := s6.count; have h2 := HS0.out.count; omega
        have B6 := Lib.hid (below_step B5.out hb6)
        have S6 := Lib.hid s6
        clear ho6 hb6 s6
        go_wp2_with fail
        refine (same05_any bs bs _ _ _ _ _ _ _ S6.out (HS0.out.ext B6.out) hm6).mono ?_
        rw [decide_eq_true rfl]
        rintro e w7 ⟨rfl, hb7⟩
        have B7 := Lib.hid (below_step B6.out hb7)
        clear hb7
        go_wp2_with fail
        refine (awake05_any _).mono ?_
        rintro e w8 ⟨rfl, hb8⟩
        go_wp2
        go_ret
        exact ⟨rfl, below_step B7.out hb8⟩
      · go_enter Try.func17, Try.ntmps17
        go_wp2_with fail
        refine (short_yes a0 c0 _ g0).mono ?_
        rintro e w' ⟨rfl, rfl⟩
        go_wp2_with fail
        refine (short_yes a1 c1 _ g1).mono ?_
        rintro e w' ⟨rfl, rfl⟩
        go_wp2_with fail
        refine (short_no a2 c2 _ (by omega)).mono ?_
        rintro e w' ⟨rfl, rfl⟩
        go_wp2_with fail
        refine (awake05_any _).mono ?_
        rintro e w8 ⟨rfl, hb8⟩
        go_wp2
        go_ret
        exact ⟨rfl, hb8⟩
    · go_enter Try.func17, Try.ntmps17
      go_wp2_with fail
      refine (short_yes a0 c0 _ g0).mono ?_
      rintro e w' ⟨rfl, rfl⟩
      go_wp2_with fail
      refine (short_no a1 c1 _ (by omega)).mono ?_
      rintro e w' ⟨rfl, rfl⟩
      go_wp2_with fail
      refine (awake05_any _).mono ?_
      rintro e w8 ⟨rfl, hb8⟩
      go_wp2
      go_ret
      exact ⟨rfl, hb8⟩
  · go_enter Try.func17, Try.ntmps17
    go_wp2_with fail
    refine (short_no a0 c0 _ (by omega)).mono ?_
    rintro e w' ⟨rfl, rfl⟩
    go_wp2_with fail
    refine (awake05_any _).mono ?_
    rintro e w8 ⟨rfl, hb8⟩
    go_wp2
    go_ret
    exact ⟨rfl, hb8⟩

end Go.Proofs.Ytmanoeimnipjjaa
