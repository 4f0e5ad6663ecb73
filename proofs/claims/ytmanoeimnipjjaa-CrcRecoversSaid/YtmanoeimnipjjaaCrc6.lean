/-
  CRC, THE WALKS: the reference's Open.
-/
import Derived.Test.YtmanoeimnipjjaaProg
import Derived.Test.YtmanoeimnipjjaaBase3
import Derived.Test.YtmanoeimnipjjaaBase5
import Derived.Test.YtmanoeimnipjjaaBase6
import Derived.Test.YtmanoeimnipjjaaBase7
import Derived.Test.YtmanoeimnipjjaaBase8
import Derived.Test.YtmanoeimnipjjaaBase9
import Derived.Test.YtmanoeimnipjjaaCrc5
import Derived.Test.YtmanoeimnipjjaaWire6
import Derived.Test.YtmanoeimnipjjaaWireP3
import Derived.Test.YtmanoeimnipjjaaHeld
import Derived.BigQuiet
import Derived.Laws.StructEq
import Derived.StillTailTactics
import Derived.RegionTactic
import Derived.Deep.DeepCutAuto
import Derived.Deep.QuietTactic
import Derived.WalkSpells
import Derived.WalkLawsBesides
namespace Go.Proofs.Ytmanoeimnipjjaa
open Go.RowKit
set_option linter.unusedVariables false

theorem refSum_s {w w1 : World} {bs : List UInt8} {a : Option Addr} {n c : Nat} (H : Hid (Sl w 1 a n c (cs b8 bs) ∧ n ≤ 65536)) (hb : Below w.heap.size w w1) :
    Calls Try.prog 54 #[.slice a n c] w1 (RetB (.int .i64 ((crc bs).toNat : Int)) w1) := refCrc_any bs a n c w1 (H.out.1.ext hb) (by have := H.out.2; omega)
theorem refTail_s (x : BitVec 32) (w1 : World) :
    Calls Try.prog 81 #[.int .i64 (x.toNat : Int)] w1 (fun e w2 => ∃ a4 c4, e = .returned (.slice a4 4 c4) ∧ Hid (Sl w2 1 a4 4 c4 (cs b8 (tail4 x))) ∧ Below w1.heap.size w1 w2) := by
  refine (refTail_any x w1).mono ?_
  rintro e w2 ⟨v, rfl, ho, hb2⟩
  obtain ⟨a4, c4, rfl, s⟩ := sl_of_own ho
  exact ⟨a4, c4, rfl, s, hb2⟩
theorem same05_s {w w2 : World} {xs ys : List UInt8} {a a4 : Option Addr} {c n4 c4 : Nat} (H : Hid (Sl w 1 a4 n4 c4 (cs b8 ys))) (h2 : Hid (Sl w2 1 a 4 c (cs b8 xs))) (hb : Below w.heap.size w w2) :
    Calls Try.prog 57 #[.slice a 4 c, .slice a4 n4 c4] w2 (RetB (.bool (decide (xs = ys))) w2) := same05_any xs ys a a4 4 c n4 c4 w2 h2.out (H.out.ext hb) (by decide)

set_option maxRecDepth 100000 in
set_option maxHeartbeats 2000000 in
theorem refOpen_any (bs : List UInt8) (at_ : Int) (ao : Option Addr) (len cap : Nat) (w : World) (hs : Sl w 1 ao len cap (cs b8 bs)) (hlen : len ≤ 1000000000) :
    Calls Try.prog 59 #[.slice ao len cap, .int .i64 at_] w (RetOpen (openRes bs at_) w) := by
  obtain ⟨⟨n, nx, er⟩, hr⟩ : ∃ r, intRes bs at_ = r := ⟨_, rfl⟩
  obtain ⟨p1, p2, p3, p4⟩ := intRes_props hr
  have HR := Lib.hid hr
  clear hr
  obtain ⟨T, hT⟩ : ∃ T, openRes bs at_ = T := ⟨_, rfl⟩
  rw [hT]
  unfold openRes at hT
  rw [HR.out] at hT
  simp only at hT
  by_cases he : er = 0
  · subst he
    rw [if_neg (by decide)] at hT
    by_cases hn : n < 0 ∨ 65536 < n
    · rw [if_pos hn] at hT
      have HT := Lib.hid hT
      clear hT
      by_cases h0 : n < 0
      · go_enter Try.func59, Try.ntmps59
        go_wp2_with (go_at_call 82; refine (refInt_val hs (by omega) HR).mono ?_; rintro e w' ⟨rfl, rfl⟩)
        go_ret3
        exact retOpen_none HT.out.symm
      · have h1 : 65536 < n := by omega
        go_enter Try.func59, Try.ntmps59
        go_wp2_with (go_at_call 82; refine (refInt_val hs (by omega) HR).mono ?_; rintro e w' ⟨rfl, rfl⟩)
        go_ret3
        exact retOpen_none HT.out.symm
    · rw [if_neg hn] at hT
      have h0 : ¬ n < 0 := by omega
      have h1 : ¬ 65536 < n := by omega
      have hc := hs.count
      have hle := hs.hle
      have hp := p3 rfl
      obtain ⟨q, rfl⟩ := Int.eq_ofNat_of_zero_le (show 0 ≤ n by omega)
      obtain ⟨p, rfl⟩ := Int.eq_ofNat_of_zero_le (show 0 ≤ nx by omega)
      have hpl : p ≤ len := by omega
      rw [hc] at hT
      by_cases hfit : (len : Int) - (p : Int) < (q : Int) + 4
      · rw [if_pos hfit] at hT
        clear hc hn
        have HT := Lib.hid hT
        clear hT
        go_enter Try.func59, Try.ntmps59
        go_wp2_with (go_at_call 82; refine (refInt_val hs (by omega) HR).mono ?_; rintro e w' ⟨rfl, rfl⟩)
        go_ret3
        exact retOpen_none HT.out.symm
      · rw [if_neg hfit] at hT
        obtain ⟨ac, hrunc, hsc⟩ := slice_mid (P := Try.prog) 22 5 Try.underlying22 Try.sizeU8 hs p (p + q) ((p : Int) + (q : Int)) (by omega) (by omega) (by omega)
        obtain ⟨at4, hrunt, hst⟩ := slice_mid (P := Try.prog) 22 5 Try.underlying22 Try.sizeU8 hs (p + q) (p + q + 4) ((p : Int) + (q : Int) + 4) (by omega) (by omega) (by omega)
        have e1 : ((p + q : Nat) : Int) = (p : Int) + (q : Int) := by omega
        rw [e1] at hrunt
        simp only [Int.toNat_natCast] at hT
        rw [show p + q - p = q from by omega] at hrunc hsc
        rw [show p + q + 4 - (p + q) = 4 from by omega] at hrunt hst
        clear e1 hc hn
        have hq : q ≤ 65536 := by omega
        have hw1 : IntKind.i64.wrap ((p : Int) + (q : Int)) = (p : Int) + (q : Int) := by rw [IntKind.wrap_i64]; omega
        have hw2 : IntKind.i64.wrap ((p : Int) + (q : Int) + 4) = (p : Int) + (q : Int) + 4 := by rw [IntKind.wrap_i64]; omega
        generalize (bs.drop p).take q = C at *
        generalize (bs.drop (p + q)).take 4 = T4 at *
        have HC := Lib.hid (And.intro hsc hq)
        have HT4 := Lib.hid hst
        clear hsc hst
        have hop : (w.ownsRow w.heap.size 5 1 (.slice none 0 0) 0 (cs b8 [])) := World.ownsRow_nil _ _ _ _
        by_cases hsum : T4 = tail4 (crc C)
        · rw [if_pos hsum] at hT
          have HT := Lib.hid hT
          have hdec : decide (tail4 (crc C) = T4) = true := decide_eq_true hsum.symm
          clear hT hsum
          go_enter Try.func59, Try.ntmps59
          go_wp2_with (first
            | (go_at_call 82; refine (refInt_val hs (by omega) HR).mono ?_; rintro e w' ⟨rfl, rfl⟩)
            | (at_builtin; refine wpList_append_many b8 (fun _ => rfl) _ rfl _ _ 22 rfl w.heap.size 5 (.int .u8 0) 1 Try.underlying22 Try.infoU8 rfl hop rfl HC.out.1 rfl (by unfold maxLen; omega) (by omega) (by omega) ?_))
          intro v1 w1 ho1 hb1
          (try simp only [List.nil_append, Nat.zero_add] at ho1)
          obtain ⟨a1, c1, rfl, hs1⟩ := sl_of_own ho1
          have H1 := Lib.hid (And.intro hs1 hq)
          clear hs1
          have HT1 : Hid (Sl w1 1 at4 4 (cap - (p + q)) (cs b8 T4)) := HT4.out.ext hb1
          have HO := Lib.hid ho1
          clear ho1
          have hb0 := Below.refl w1.heap.size w1
          go_wp2_with fail
          go_region_held3 (fun w' => Below w1.heap.size w1 w')
            (repeat (with_reducible first | assumption | refine below_drew ?_ | (apply keepB; focus assumption)))
            (first
              | (go_at_call 54; refine (refSum_s H1 (by assumption)).mono ?_; rintro e w2 ⟨rfl, hb2⟩)
              | (go_at_call 81; refine (refTail_s _ _).mono ?_; rintro e w3 ⟨a4, c4, rfl, s1, hb3⟩)
              | (go_at_call 57; refine (same05_s HT1 s1 (by assumption)).mono ?_; rintro e w4 ⟨rfl, hb4⟩))
          all_goals
            go_wp2
            go_ret3
            have hTT := HT.out
            subst hTT
            exact ⟨_, q, rfl, ownsRow_ext HO.out (by assumption), below_step hb1 (by assumption)⟩
        · rw [if_neg hsum] at hT
          have HT := Lib.hid hT
          have hdec : decide (tail4 (crc C) = T4) = false := decide_eq_false (fun h => hsum h.symm)
          clear hT hsum
          go_enter Try.func59, Try.ntmps59
          go_wp2_with (first
            | (go_at_call 82; refine (refInt_val hs (by omega) HR).mono ?_; rintro e w' ⟨rfl, rfl⟩)
            | (at_builtin; refine wpList_append_many b8 (fun _ => rfl) _ rfl _ _ 22 rfl w.heap.size 5 (.int .u8 0) 1 Try.underlying22 Try.infoU8 rfl hop rfl HC.out.1 rfl (by unfold maxLen; omega) (by omega) (by omega) ?_))
          intro v1 w1 ho1 hb1
          (try simp only [List.nil_append, Nat.zero_add] at ho1)
          obtain ⟨a1, c1, rfl, hs1⟩ := sl_of_own ho1
          have H1 := Lib.hid (And.intro hs1 hq)
          clear hs1
          have HT1 : Hid (Sl w1 1 at4 4 (cap - (p + q)) (cs b8 T4)) := HT4.out.ext hb1
          have HO := Lib.hid ho1
          clear ho1
          have hb0 := Below.refl w1.heap.size w1
          go_wp2_with fail
          go_region_held3 (fun w' => Below w1.heap.size w1 w')
            (repeat (with_reducible first | assumption | refine below_drew ?_ | (apply keepB; focus assumption)))
            (first
              | (go_at_call 54; refine (refSum_s H1 (by assumption)).mono ?_; rintro e w2 ⟨rfl, hb2⟩)
              | (go_at_call 81; refine (refTail_s _ _).mono ?_; rintro e w3 ⟨a4, c4, rfl, s1, hb3⟩)
              | (go_at_call 57; refine (same05_s HT1 s1 (by assumption)).mono ?_; rintro e w4 ⟨rfl, hb4⟩))
          all_goals
            go_wp2
            go_ret3
            exact retOpen_noneB HT.out.symm (below_step hb1 (by assumption))
  · rw [if_pos he] at hT
    have HT := Lib.hid hT
    clear hT
    go_enter Try.func59, Try.ntmps59
    go_wp2_with (go_at_call 82; refine (refInt_val hs (by omega) HR).mono ?_; rintro e w' ⟨rfl, rfl⟩)
    go_ret3
    exact retOpen_none HT.out.symm
end Go.Proofs.Ytmanoeimnipjjaa
