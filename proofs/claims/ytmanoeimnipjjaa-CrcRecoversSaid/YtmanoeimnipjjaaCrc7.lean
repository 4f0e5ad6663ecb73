/-
  CRC, THE WALKS: lists of byte strings; Recover, the reference's Recover, SameAll.
-/
import Derived.Test.YtmanoeimnipjjaaProg
import Derived.Test.YtmanoeimnipjjaaBase3
import Derived.Test.YtmanoeimnipjjaaBase5
import Derived.Test.YtmanoeimnipjjaaBase6
import Derived.Test.YtmanoeimnipjjaaBase7
import Derived.Test.YtmanoeimnipjjaaBase8
import Derived.Test.YtmanoeimnipjjaaBase9
import Derived.Test.YtmanoeimnipjjaaBase10
import Derived.Test.YtmanoeimnipjjaaCrc6
import Derived.Test.YtmanoeimnipjjaaWire6
import Derived.Test.YtmanoeimnipjjaaWireP3
import Derived.Test.YtmanoeimnipjjaaHeld
import Derived.BigQuiet
import Derived.Laws.StructEq
import Derived.StillTailTactics
import Derived.RegionTactic
import Derived.Deep.DeepCutAuto
import Derived.Deep.QuietTactic
import Derived.WalkSpells
import Derived.WalkLawsBesides
namespace Go.Proofs.Ytmanoeimnipjjaa
open Go.RowKit
set_option linter.unusedVariables false

theorem openRes_props {bs : List UInt8} {at_ nx er : Int} {C : List UInt8} (h : openRes bs at_ = (C, nx, er)) : (er = 0 → 0 ≤ at_ ∧ at_ < nx ∧ nx ≤ bs.length) ∧ (er ≠ 0 → C = [] ∧ nx = 0) := by
  obtain ⟨⟨n, p, e⟩, hr⟩ : ∃ r, intRes bs at_ = r := ⟨_, rfl⟩
  obtain ⟨p1, p2, p3, p4⟩ := intRes_props hr
  unfold openRes at h
  rw [hr] at h
  simp only at h
  split at h
  · cases h; exact ⟨fun h => by omega, fun _ => ⟨rfl, rfl⟩⟩
  · rename_i he
    have := p3 (by omega)
    split at h
    · cases h; exact ⟨fun h => by omega, fun _ => ⟨rfl, rfl⟩⟩
    · split at h
      · cases h; exact ⟨fun h => by omega, fun _ => ⟨rfl, rfl⟩⟩
      · split at h
        · cases h; exact ⟨fun _ => by omega, fun h => absurd rfl h⟩
        · cases h; exact ⟨fun h => by omega, fun _ => ⟨rfl, rfl⟩⟩

def recov (bs : List UInt8) : Nat → Int → List (List UInt8) × Int
  | 0, at_ => ([], at_)
  | f + 1, at_ => if (openRes bs at_).2.2 ≠ 0 then ([], at_) else ((openRes bs at_).1 :: (recov bs f (openRes bs at_).2.1).1, (recov bs f (openRes bs at_).2.1).2)
theorem recov_err {bs : List UInt8} {f : Nat} {at_ nx er : Int} {C : List UInt8} (h : openRes bs at_ = (C, nx, er)) (he : er ≠ 0) : recov bs (f + 1) at_ = ([], at_) := by
  rw [recov, h, if_pos he]
theorem recov_ok {bs : List UInt8} {f : Nat} {at_ nx : Int} {C : List UInt8} (h : openRes bs at_ = (C, nx, 0)) : recov bs (f + 1) at_ = (C :: (recov bs f nx).1, (recov bs f nx).2) := by
  rw [recov, h, if_neg (fun h : (0 : Int) ≠ 0 => h rfl)]
/-- A list of byte strings, and an index. -/
def RetRec (r : List (List UInt8) × Int) (w : World) (e : Ending) (w' : World) : Prop :=
  ∃ (ao : Option Addr) (n cap : Nat) (L : List SlV), e = .returned (.tuple #[.slice ao n cap, .int .i64 r.2]) ∧ Sl w' 1 ao n cap (cs slv L) ∧ Els w' L r.1 ∧ Below w.heap.size w w'
theorem open_val {bs : List UInt8} {at_ nx er : Int} {C : List UInt8} {ao : Option Addr} {len cap : Nat} {w : World} (hs : Sl w 1 ao len cap (cs b8 bs)) (hlen : len ≤ 1000000000) (hr : Hid (openRes bs at_ = (C, nx, er))) :
    Calls Try.prog 58 #[.slice ao len cap, .int .i64 at_] w (fun e w' => ∃ a n c, e = .returned (.tuple #[.slice a n c, .int .i64 nx, .int .i64 er]) ∧ w'.ownsRow w.heap.size 5 1 (.slice a n c) n (cs b8 C) ∧ Below w.heap.size w w') :=
  (open_any bs at_ ao len cap w hs hlen).mono fun _ _ h => by
    rw [hr.out] at h
    obtain ⟨v, n, rfl, ho, hb⟩ := h
    obtain ⟨a, c, rfl, _⟩ := sl_of_own ho
    exact ⟨a, n, c, rfl, ho, hb⟩
theorem refOpen_val {bs : List UInt8} {at_ nx er : Int} {C : List UInt8} {ao : Option Addr} {len cap : Nat} {w : World} (hs : Sl w 1 ao len cap (cs b8 bs)) (hlen : len ≤ 1000000000) (hr : Hid (openRes bs at_ = (C, nx, er))) :
    Calls Try.prog 59 #[.slice ao len cap, .int .i64 at_] w (fun e w' => ∃ a n c, e = .returned (.tuple #[.slice a n c, .int .i64 nx, .int .i64 er]) ∧ w'.ownsRow w.heap.size 5 1 (.slice a n c) n (cs b8 C) ∧ Below w.heap.size w w') :=
  (refOpen_any bs at_ ao len cap w hs hlen).mono fun _ _ h => by
    rw [hr.out] at h
    obtain ⟨v, n, rfl, ho, hb⟩ := h
    obtain ⟨a, c, rfl, _⟩ := sl_of_own ho
    exact ⟨a, n, c, rfl, ho, hb⟩

set_option maxRecDepth 100000 in
set_option maxHeartbeats 2000000 in
theorem recover_any (bs : List UInt8) (ao : Option Addr) (len cap : Nat) (w : World) (hs : Sl w 1 ao len cap (cs b8 bs)) (hlen : len ≤ 1000000000) :
    Calls Try.prog 60 #[.slice ao len cap] w (RetRec (recov bs (len + 1) 0) w) := by
  have hc := hs.count
  have HC := Lib.hid hc
  clear hc
  obtain ⟨R, hR⟩ : ∃ R, recov bs (len + 1) 0 = R := ⟨_, rfl⟩
  rw [hR]
  have HR := Lib.hid hR
  clear hR
  go_enter Try.func60, Try.ntmps60
  go_wp2_with fail
  go_loopw [4, 5] (fun v i wr => ∃ (p n f : Nat) (L : List SlV) (pre : List (List UInt8)), i = .int .i64 p ∧ p ≤ len ∧ n ≤ p ∧ wr.ownsRow w.heap.size 22 1 v n (cs slv L) ∧ Hid (ElsO wr L pre) ∧ Below w.heap.size w wr ∧ Hid (len + 1 ≤ f + p ∧ pre ++ (recov bs f p).1 = R.1 ∧ (recov bs f p).2 = R.2))
    (fun _ i _ => len - (intOf i).toNat)
  case atStart => exact ⟨0, 0, len + 1, [], [], rfl, by omega, by omega, World.ownsRow_nil _ _ _ _, ElsO.nil _, Below.refl _ _, by omega, by rw [← HR.out]; rfl, by rw [← HR.out]; rfl⟩
  case round =>
    obtain ⟨p, n, f, L, pre, rfl, hp, hn, ho, hE, hb, hinv⟩ := hrel
    obtain ⟨hf, hi1, hi2⟩ := hinv.out
    clear hinv
    obtain ⟨f, rfl⟩ : ∃ g, f = g + 1 := ⟨f - 1, by omega⟩
    obtain ⟨⟨C, nx, er⟩, hr⟩ : ∃ r, openRes bs p = r := ⟨_, rfl⟩
    obtain ⟨q1, q2⟩ := openRes_props hr
    have z := hb.size
    by_cases he : er = 0
    · subst he
      have hq := q1 rfl
      rw [HC.out] at hq
      rw [recov_ok hr] at hi1 hi2
      have HO := Lib.hid hr
      have I1 := Lib.hid hi1
      have I2 := Lib.hid hi2
      clear hr hi1 hi2 q1 q2
      obtain ⟨q, rfl⟩ := Int.eq_ofNat_of_zero_le (show 0 ≤ nx by omega)
      go_wp2_with fail
      refine (open_val (hs.ext hb) hlen HO).mono ?_
      rintro e w1 ⟨a, m, c, rfl, hs1, hb1⟩
      have ho1 := ownsRow_ext ho hb1
      have hE1 := Lib.hid (hE.out.ext hb1)
      have hb01 := hb.trans (hb1.mono z)
      have z1 := hb01.size
      have HS1 := Lib.hid hs1
      clear ho hE hs1
      go_wp2_with (at_builtin; refine wpList_append_one slv (fun _ => rfl) _ rfl _ _ 70 rfl w.heap.size 22 _ (.slice none 0 0) 24 Try.underlying70 infoSl rfl (.own ho1) rfl (a, m, c) rfl (by unfold maxLen; omega) (by omega) (by omega) ?_)
      intro v' w' ho' hg hb'
      have hE2 := Lib.hid ((hE1.out.far ho1 (by decide) hg).append (ownsRow_far (ownsRow_mono HS1.out (Nat.zero_le _)) ho1 (by decide) hg))
      go_wp2
      go_roundw
      case rel =>
        refine ⟨q, n + 1, f, L ++ [(a, m, c)], pre ++ [C], rfl, by omega, by omega, ho', hE2, hb01.trans hb', by omega, ?_, ?_⟩
        · rw [← I1.out]; simp
        · rw [← I2.out]
      case measure => simp [intOf]; omega
    · rw [recov_err hr he] at hi1 hi2
      have HO := Lib.hid hr
      have I1 := Lib.hid hi1
      have I2 := Lib.hid hi2
      clear hr hi1 hi2 q1 q2
      go_wp2_with fail
      refine (open_val (hs.ext hb) hlen HO).mono ?_
      rintro e w1 ⟨a, m, c, rfl, hs1, hb1⟩
      have ho1 := ownsRow_ext ho hb1
      have hE1 := Lib.hid (hE.out.ext hb1)
      have hb01 := hb.trans (hb1.mono z)
      clear ho hE hs1
      obtain ⟨a2, c2, rfl, hsl⟩ := sl_of_own ho1
      obtain ⟨R1, R2⟩ := R
      obtain rfl : (p : Int) = R2 := I2.out
      obtain rfl : pre = R1 := by have := I1.out; simpa using this
      go_wp2
      go_ret2
      exact ⟨a2, n, c2, L, rfl, hsl, hE1.out.els, hb01⟩
end Go.Proofs.Ytmanoeimnipjjaa
