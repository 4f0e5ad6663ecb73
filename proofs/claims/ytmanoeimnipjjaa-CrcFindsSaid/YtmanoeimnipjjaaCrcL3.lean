/-
  CRC, THE LAWS' WALKS: CrcFinds.
-/
import Derived.Test.YtmanoeimnipjjaaProg
import Derived.Test.YtmanoeimnipjjaaBase3
import Derived.Test.YtmanoeimnipjjaaBase5
import Derived.Test.YtmanoeimnipjjaaBase6
import Derived.Test.YtmanoeimnipjjaaBase7
import Derived.Test.YtmanoeimnipjjaaBase8
import Derived.Test.YtmanoeimnipjjaaBase9
import Derived.Test.YtmanoeimnipjjaaCrcL1
import Derived.Test.YtmanoeimnipjjaaCrcP3
import Derived.Test.YtmanoeimnipjjaaWire6
import Derived.Test.YtmanoeimnipjjaaWireP3
import Derived.Test.YtmanoeimnipjjaaHeld
import Derived.Lib.SmallJoins
import Derived.BigQuiet
import Derived.Laws.StructEq
import Derived.StillTailTactics
import Derived.RegionTactic
import Derived.Deep.DeepCutAuto
import Derived.Deep.QuietTactic
import Derived.WalkSpells
import Derived.WalkLawsBesides
namespace Go.Proofs.Ytmanoeimnipjjaa
open Go.RowKit
set_option linter.unusedVariables false

set_option maxRecDepth 100000 in
set_option maxHeartbeats 2000000 in
theorem crcFinds_walk (bs : List UInt8) (at_ : Int) (by_ : UInt8) (a0 : Option Addr) (l0 c0 : Nat) (w : World) (h0 : Sl w 1 a0 l0 c0 (cs b8 bs)) (hat : -9223372036854775808 ≤ at_ ∧ at_ ≤ 9223372036854775807) :
    Calls Try.prog 18 #[.slice a0 l0 c0, .int .i64 at_, b8 by_] w (RetB (.bool true) w) := by
  by_cases g0 : (l0 : Int) ≤ 3000
  · by_cases hby : by_ = 0
    · subst hby
      go_enter Try.func18, Try.ntmps18
      go_wp2_with fail
      refine (short_yes a0 c0 _ g0).mono ?_
      rintro e w' ⟨rfl, rfl⟩
      go_wp2_with fail
      refine (awake05_any _).mono ?_
      rintro e w8 ⟨rfl, hb8⟩
      go_wp2
      go_ret
      exact ⟨rfl, hb8⟩
    · have hby0 : ¬ ((by_.toNat : Int) = 0) := fun h => hby (UInt8.toNat_inj.1 (by have : (0 : UInt8).toNat = 0 := rfl; omega))
      have q0 := h0.count
      have hfl := frameB_len bs
      have hpl := putInt_length bs.length
      have hch := fun (k : Nat) (h1 : (putInt bs.length).length ≤ k) (h2 : k < (frameB bs).length) => openRes_changed bs k by_ (by omega) h1 h2 hby
      have hseal := seal_any bs a0 l0 c0 w h0 (by omega)
      rw [q0] at hfl hpl hch
      clear h0 q0
      generalize (putInt (l0 : Int)).length = P at *
      generalize hFF : frameB bs = F at *
      generalize hfn : F.length = fl at *
      have z1 : (1 : Int) ≤ (fl : Int) - (l0 : Int) - 4 := by omega
      have hfP : (fl : Int) - (l0 : Int) - 4 = (P : Int) := by omega
      have hflb : fl ≤ 4000 := by omega
      have hflp : 0 < fl := by omega
      clear hfl
      by_cases g2 : at_ < (P : Int)
      · go_enter Try.func18, Try.ntmps18
        go_wp2_with fail
        refine (short_yes a0 c0 _ g0).mono ?_
        rintro e w' ⟨rfl, rfl⟩
        go_wp2_with fail
        refine hseal.mono ?_
        rintro e w1 ⟨v1, rfl, ho1, hb1⟩
        obtain ⟨a3, c3, rfl, s3⟩ := sl_of_own ho1
        go_wp2_with fail
        refine (awake05_any _).mono ?_
        rintro e w8 ⟨rfl, hb8⟩
        go_wp2
        go_ret
        exact ⟨rfl, below_step hb1 hb8⟩
      · obtain ⟨k, rfl⟩ := Int.eq_ofNat_of_zero_le (show 0 ≤ at_ by omega)
        by_cases g3 : (fl : Int) ≤ (k : Int)
        · go_enter Try.func18, Try.ntmps18
          go_wp2_with fail
          refine (short_yes a0 c0 _ g0).mono ?_
          rintro e w' ⟨rfl, rfl⟩
          go_wp2_with fail
          refine hseal.mono ?_
          rintro e w1 ⟨v1, rfl, ho1, hb1⟩
          obtain ⟨a3, c3, rfl, s3⟩ := sl_of_own ho1
          go_wp2_with fail
          refine (awake05_any _).mono ?_
          rintro e w8 ⟨rfl, hb8⟩
          go_wp2
          go_ret
          exact ⟨rfl, below_step hb1 hb8⟩
        · have hop := hch k (by omega) (by omega)
          have HOP := Lib.hid hop
          clear hop hch hFF
          have g4 : (k : Int) < (fl : Int) := by omega
          have hk0 : (0 : Int) ≤ (k : Int) := by omega
          go_enter Try.func18, Try.ntmps18
          go_wp2_with fail
          refine (short_yes a0 c0 _ g0).mono ?_
          rintro e w' ⟨rfl, rfl⟩
          go_wp2_with fail
          refine hseal.mono ?_
          rintro e w1 ⟨v1, rfl, ho1, hb1⟩
          obtain ⟨g, cap, rfl⟩ : ∃ g cap, v1 = .slice (some ⟨g, 0, none⟩) fl cap := Joins.ownsRow_form ho1 (by omega)
          obtain ⟨hcell, hfr, hg1, hg2⟩ := own_cell ho1 k (by omega) 0
          have hset := own_set ho1 k (F.getD k 0 ^^^ by_)
          have hb1' : Below w.heap.size w (w1.setCell ⟨g, k, none⟩ (b8 (F.getD k 0 ^^^ by_))) := hb1.setCell hg1 _
          obtain ⟨a5, c5, e5, s5⟩ := sl_of_own hset
          cases e5
          have S5 := Lib.hid s5
          have B5 := Lib.hid hb1'
          clear ho1 hb1 hset hb1' s5
          generalize F.set k (F.getD k 0 ^^^ by_) = F2 at *
          generalize F.getD k 0 = x at *
          go_wp2_with fail
          refine (open_val S5.out (by omega) HOP).mono ?_
          rintro e w6 ⟨a6, m6, c6, rfl, ho6, hb6⟩
          obtain ⟨a6', c6', e6, s6⟩ := sl_of_own ho6
          cases e6
          have hm6 : m6 = 0 := by have h1 := s6.count; simpa using h1.symm
          subst hm6
          have B6 := Lib.hid (below_step B5.out hb6)
          clear ho6 hb6 s6
          go_wp2_with fail
          refine (awake05_any _).mono ?_
          rintro e w8 ⟨rfl, hb8⟩
          go_wp2
          go_ret
          exact ⟨rfl, below_step B6.out hb8⟩
  · go_enter Try.func18, Try.ntmps18
    go_wp2_with fail
    refine (short_no a0 c0 _ (by omega)).mono ?_
    rintro e w' ⟨rfl, rfl⟩
    go_wp2_with fail
    refine (awake05_any _).mono ?_
    rintro e w8 ⟨rfl, hb8⟩
    go_wp2
    go_ret
    exact ⟨rfl, hb8⟩
end Go.Proofs.Ytmanoeimnipjjaa
