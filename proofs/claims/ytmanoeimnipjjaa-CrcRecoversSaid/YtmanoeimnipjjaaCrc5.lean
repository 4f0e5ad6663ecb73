/-
  CRC, THE WALKS: Open, the reference's Open.
-/
import Derived.Test.YtmanoeimnipjjaaProg
import Derived.Test.YtmanoeimnipjjaaBase3
import Derived.Test.YtmanoeimnipjjaaBase5
import Derived.Test.YtmanoeimnipjjaaBase6
import Derived.Test.YtmanoeimnipjjaaBase7
import Derived.Test.YtmanoeimnipjjaaBase8
import Derived.Test.YtmanoeimnipjjaaBase9
import Derived.Test.YtmanoeimnipjjaaCrc4
import Derived.Test.YtmanoeimnipjjaaWire6
import Derived.Test.YtmanoeimnipjjaaWireP3
import Derived.Test.YtmanoeimnipjjaaHeld
import Derived.BigQuiet
import Derived.Laws.StructEq
import Derived.StillTailTactics
import Derived.RegionTactic
import Derived.Deep.DeepCutAuto
import Derived.Deep.QuietTactic
import Derived.WalkSpells
import Derived.WalkLawsBesides
namespace Go.Proofs.Ytmanoeimnipjjaa
open Go.RowKit
set_option linter.unusedVariables false

def openRes (bs : List UInt8) (at_ : Int) : List UInt8 × Int × Int :=
  if (intRes bs at_).2.2 ≠ 0 then ([], 0, (intRes bs at_).2.2)
  else if (intRes bs at_).1 < 0 ∨ 65536 < (intRes bs at_).1 then ([], 0, 3)
  else if (bs.length : Int) - (intRes bs at_).2.1 < (intRes bs at_).1 + 4 then ([], 0, 4)
  else if (bs.drop ((intRes bs at_).2.1.toNat + (intRes bs at_).1.toNat)).take 4 = tail4 (crc ((bs.drop (intRes bs at_).2.1.toNat).take (intRes bs at_).1.toNat)) then
    ((bs.drop (intRes bs at_).2.1.toNat).take (intRes bs at_).1.toNat, (intRes bs at_).2.1 + (intRes bs at_).1 + 4, 0)
  else ([], 0, 13)
/-- A slice of its own that holds the bytes, the next index, and an error. -/
def RetOpen (r : List UInt8 × Int × Int) (w : World) (e : Ending) (w' : World) : Prop :=
  ∃ v n, e = .returned (.tuple #[v, .int .i64 r.2.1, .int .i64 r.2.2]) ∧ w'.ownsRow w.heap.size 5 1 v n (cs b8 r.1) ∧ Below w.heap.size w w'
theorem retOpen_none {r : List UInt8 × Int × Int} {w : World} {er : Int} (h : r = ([], 0, er)) : RetOpen r w (.returned (.tuple #[.slice none 0 0, .int .i64 0, .int .i64 er])) w := by
  subst h; exact ⟨_, _, rfl, World.ownsRow_nil _ _ _ _, Below.refl _ _⟩
theorem retOpen_noneB {r : List UInt8 × Int × Int} {w w' : World} {er : Int} (h : r = ([], 0, er)) (hb : Below w.heap.size w w') : RetOpen r w (.returned (.tuple #[.slice none 0 0, .int .i64 0, .int .i64 er])) w' := by
  subst h; exact ⟨_, _, rfl, World.ownsRow_nil _ _ _ _, hb⟩
theorem retOpen_some {r : List UInt8 × Int × Int} {w w1 w' : World} {v : Value} {n : Nat} {xs : List UInt8} {nx : Int} (h : r = (xs, nx, 0)) (hb : Below w.heap.size w w1) (ho : w'.ownsRow w1.heap.size 5 1 v n (cs b8 xs)) (hb2 : Below w1.heap.size w1 w') :
    RetOpen r w (.returned (.tuple #[v, .int .i64 nx, .int .i64 0])) w' := by
  subst h
  exact ⟨_, _, rfl, ownsRow_mono ho hb.size, below_step hb hb2⟩
theorem clone_s {w w1 : World} {bs : List UInt8} {a : Option Addr} {n c : Nat} (H : Hid (Sl w 1 a n c (cs b8 bs) ∧ n ≤ 65536)) (hb : Below w.heap.size w w1) :
    Calls Try.prog 75 #[.slice a n c] w1 (RetOwn w1 5 n (cs b8 bs)) := clone_any bs a n c w1 (H.out.1.ext hb) (by have := H.out.2; omega)
theorem keepB {w w1 w2 : World} (hb : Below w1.heap.size w1 w2) (h : Below w.heap.size w w1) : Below w.heap.size w w2 := below_step h hb
theorem tail_s {w w1 : World} {bs : List UInt8} {a : Option Addr} {n c : Nat} (H : Hid (Sl w 1 a n c (cs b8 bs) ∧ n ≤ 65536)) (hb : Below w.heap.size w w1) :
    Calls Try.prog 80 #[.slice a n c] w1 (fun e w2 => ∃ a4 c4, e = .returned (.slice a4 4 c4) ∧ Hid (Sl w2 1 a4 4 c4 (cs b8 (tail4 (crc bs)))) ∧ Below w1.heap.size w1 w2) := by
  have h2 := H.out.2
  refine (tail_any bs a n c w1 (H.out.1.ext hb) (by omega)).mono ?_
  rintro e w2 ⟨v, rfl, ho, hb2⟩
  obtain ⟨a4, c4, rfl, s⟩ := sl_of_own ho
  exact ⟨a4, c4, rfl, s, hb2⟩
theorem equal_s {w w2 : World} {xs ys : List UInt8} {a a4 : Option Addr} {n c n4 c4 : Nat} (H : Hid (Sl w 1 a n c (cs b8 xs))) (h2 : Hid (Sl w2 1 a4 n4 c4 (cs b8 ys))) (hb : Below w.heap.size w w2) :
    Calls Try.prog 77 #[.slice a n c, .slice a4 n4 c4] w2 (RetB (.bool (decide (xs = ys))) w2) := equal_any xs ys a a4 n c n4 c4 w2 (H.out.ext hb) h2.out

set_option maxRecDepth 100000 in
set_option maxHeartbeats 2000000 in
theorem open_any (bs : List UInt8) (at_ : Int) (ao : Option Addr) (len cap : Nat) (w : World) (hs : Sl w 1 ao len cap (cs b8 bs)) (hlen : len ≤ 1000000000) :
    Calls Try.prog 58 #[.slice ao len cap, .int .i64 at_] w (RetOpen (openRes bs at_) w) := by
  obtain ⟨⟨n, nx, er⟩, hr⟩ : ∃ r, intRes bs at_ = r := ⟨_, rfl⟩
  obtain ⟨p1, p2, p3, p4⟩ := intRes_props hr
  have HR := Lib.hid hr
  clear hr
  obtain ⟨T, hT⟩ : ∃ T, openRes bs at_ = T := ⟨_, rfl⟩
  rw [hT]
  unfold openRes at hT
  rw [HR.out] at hT
  simp only at hT
  by_cases he : er = 0
  · subst he
    rw [if_neg (by decide)] at hT
    by_cases hn : n < 0 ∨ 65536 < n
    · rw [if_pos hn] at hT
      have HT := Lib.hid hT
      clear hT
      by_cases h0 : n < 0
      · go_enter Try.func58, Try.ntmps58
        go_wp2_with (go_at_call 63; refine (int_val hs (by omega) HR).mono ?_; rintro e w' ⟨rfl, rfl⟩)
        go_ret3
        exact retOpen_none HT.out.symm
      · have h1 : 65536 < n := by omega
        go_enter Try.func58, Try.ntmps58
        go_wp2_with (go_at_call 63; refine (int_val hs (by omega) HR).mono ?_; rintro e w' ⟨rfl, rfl⟩)
        go_ret3
        exact retOpen_none HT.out.symm
    · rw [if_neg hn] at hT
      have h0 : ¬ n < 0 := by omega
      have h1 : ¬ 65536 < n := by omega
      have hc := hs.count
      have hle := hs.hle
      have hp := p3 rfl
      obtain ⟨q, rfl⟩ := Int.eq_ofNat_of_zero_le (show 0 ≤ n by omega)
      obtain ⟨p, rfl⟩ := Int.eq_ofNat_of_zero_le (show 0 ≤ nx by omega)
      have hpl : p ≤ len := by omega
      rw [hc] at hT
      by_cases hfit : (len : Int) - (p : Int) < (q : Int) + 4
      · rw [if_pos hfit] at hT
        clear hc hn
        have HT := Lib.hid hT
        clear hT
        go_enter Try.func58, Try.ntmps58
        go_wp2_with (go_at_call 63; refine (int_val hs (by omega) HR).mono ?_; rintro e w' ⟨rfl, rfl⟩)
        go_ret3
        exact retOpen_none HT.out.symm
      · rw [if_neg hfit] at hT
        obtain ⟨ac, hrunc, hsc⟩ := slice_mid (P := Try.prog) 22 5 Try.underlying22 Try.sizeU8 hs p (p + q) ((p : Int) + (q : Int)) (by omega) (by omega) (by omega)
        obtain ⟨at4, hrunt, hst⟩ := slice_mid (P := Try.prog) 22 5 Try.underlying22 Try.sizeU8 hs (p + q) (p + q + 4) ((p : Int) + (q : Int) + 4) (by omega) (by omega) (by omega)
        have e1 : ((p + q : Nat) : Int) = (p : Int) + (q : Int) := by omega
        rw [e1] at hrunt
        simp only [Int.toNat_natCast] at hT
        rw [show p + q - p = q from by omega] at hrunc hsc
        rw [show p + q + 4 - (p + q) = 4 from by omega] at hrunt hst
        clear e1 hc hn
        have hq : q ≤ 65536 := by omega
        have hw1 : IntKind.i64.wrap ((p : Int) + (q : Int)) = (p : Int) + (q : Int) := by rw [IntKind.wrap_i64]; omega
        have hw2 : IntKind.i64.wrap ((p : Int) + (q : Int) + 4) = (p : Int) + (q : Int) + 4 := by rw [IntKind.wrap_i64]; omega
        generalize (bs.drop p).take q = C at *
        generalize (bs.drop (p + q)).take 4 = T4 at *
        have HC := Lib.hid (And.intro hsc hq)
        have HT4 := Lib.hid hst
        clear hsc hst
        by_cases hsum : T4 = tail4 (crc C)
        · rw [if_pos hsum] at hT
          have HT := Lib.hid hT
          have hdec : decide (T4 = tail4 (crc C)) = true := decide_eq_true hsum
          clear hT hsum
          go_enter Try.func58, Try.ntmps58
          go_wp2_with (go_at_call 63; refine (int_val hs (by omega) HR).mono ?_; rintro e w' ⟨rfl, rfl⟩)
          have hb0 := Below.refl w.heap.size w
          go_region_held3 (fun w' => Below w.heap.size w w')
            (repeat (with_reducible first | assumption | refine below_drew ?_ | (apply keepB; focus assumption)))
            (first
              | (go_at_call 80; refine (tail_s HC (by assumption)).mono ?_; rintro e w1 ⟨a4, c4, rfl, s1, hb1⟩)
              | (go_at_call 77; refine (equal_s HT4 s1 (by assumption)).mono ?_; rintro e w2 ⟨rfl, hb2⟩))
          all_goals
            go_wp2_with (go_at_call 75; refine (clone_s HC (by assumption)).mono ?_; rintro e w3 ⟨v3, rfl, ho3, hb3⟩)
            go_ret3
            exact retOpen_some HT.out.symm (by assumption) ho3 hb3
        · rw [if_neg hsum] at hT
          have HT := Lib.hid hT
          have hdec : decide (T4 = tail4 (crc C)) = false := decide_eq_false hsum
          clear hT hsum
          go_enter Try.func58, Try.ntmps58
          go_wp2_with (go_at_call 63; refine (int_val hs (by omega) HR).mono ?_; rintro e w' ⟨rfl, rfl⟩)
          have hb0 := Below.refl w.heap.size w
          go_region_held3 (fun w' => Below w.heap.size w w')
            (repeat (with_reducible first | assumption | refine below_drew ?_ | (apply keepB; focus assumption)))
            (first
              | (go_at_call 80; refine (tail_s HC (by assumption)).mono ?_; rintro e w1 ⟨a4, c4, rfl, s1, hb1⟩)
              | (go_at_call 77; refine (equal_s HT4 s1 (by assumption)).mono ?_; rintro e w2 ⟨rfl, hb2⟩))
          all_goals
            go_wp2
            go_ret3
            exact retOpen_noneB HT.out.symm (by assumption)
  · rw [if_pos he] at hT
    have HT := Lib.hid hT
    clear hT
    go_enter Try.func58, Try.ntmps58
    go_wp2_with (go_at_call 63; refine (int_val hs (by omega) HR).mono ?_; rintro e w' ⟨rfl, rfl⟩)
    go_ret3
    exact retOpen_none HT.out.symm
end Go.Proofs.Ytmanoeimnipjjaa
