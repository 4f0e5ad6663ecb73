/-
  CRC, THE WALKS: the reference's Recover, SameAll.
-/
import Derived.Test.YtmanoeimnipjjaaProg
import Derived.Test.YtmanoeimnipjjaaBase3
import Derived.Test.YtmanoeimnipjjaaBase5
import Derived.Test.YtmanoeimnipjjaaBase6
import Derived.Test.YtmanoeimnipjjaaBase7
import Derived.Test.YtmanoeimnipjjaaBase8
import Derived.Test.YtmanoeimnipjjaaBase9
import Derived.Test.YtmanoeimnipjjaaCrc7
import Derived.Test.YtmanoeimnipjjaaWire6
import Derived.Test.YtmanoeimnipjjaaWireP3
import Derived.Test.YtmanoeimnipjjaaHeld
import Derived.BigQuiet
import Derived.Laws.StructEq
import Derived.StillTailTactics
import Derived.RegionTactic
import Derived.Deep.DeepCutAuto
import Derived.Deep.QuietTactic
import Derived.WalkSpells
import Derived.WalkLawsBesides
namespace Go.Proofs.Ytmanoeimnipjjaa
open Go.RowKit
set_option linter.unusedVariables false

set_option maxRecDepth 100000 in
set_option maxHeartbeats 2000000 in
theorem refRecover_any (bs : List UInt8) (ao : Option Addr) (len cap : Nat) (w : World) (hs : Sl w 1 ao len cap (cs b8 bs)) (hlen : len ≤ 1000000000) :
    Calls Try.prog 61 #[.slice ao len cap] w (RetRec (recov bs (len + 1) 0) w) := by
  have hc := hs.count
  have HC := Lib.hid hc
  clear hc
  obtain ⟨R, hR⟩ : ∃ R, recov bs (len + 1) 0 = R := ⟨_, rfl⟩
  rw [hR]
  have HR := Lib.hid hR
  clear hR
  go_enter Try.func61, Try.ntmps61
  go_wp2_with fail
  go_loopw [4, 5, 6] (fun v i c wr => ∃ (p n k f : Nat) (L : List SlV) (pre : List (List UInt8)), i = .int .i64 p ∧ c = .int .i64 k ∧ n ≤ k ∧ k + f = len + 1 ∧ wr.ownsRow w.heap.size 22 1 v n (cs slv L) ∧ Hid (ElsO wr L pre) ∧ Below w.heap.size w wr ∧ Hid (pre ++ (recov bs f p).1 = R.1 ∧ (recov bs f p).2 = R.2))
    (fun _ _ c _ => len + 1 - (intOf c).toNat)
  case atStart => exact ⟨0, 0, 0, len + 1, [], [], rfl, rfl, by omega, by omega, World.ownsRow_nil _ _ _ _, ElsO.nil _, Below.refl _ _, by rw [← HR.out]; rfl, by rw [← HR.out]; rfl⟩
  case round =>
    obtain ⟨p, n, k, f, L, pre, rfl, rfl, hn, hf, ho, hE, hb, hinv⟩ := hrel
    obtain ⟨hi1, hi2⟩ := hinv.out
    clear hinv
    have z := hb.size
    cases f with
    | zero =>
      have hkl : ¬ (k : Int) ≤ (len : Int) := by omega
      obtain ⟨a2, c2, rfl, hsl⟩ := sl_of_own ho
      obtain ⟨R1, R2⟩ := R
      obtain rfl : (p : Int) = R2 := hi2
      obtain rfl : pre = R1 := by have := hi1; simpa [recov] using this
      clear hi1
      go_wp2
      go_ret2
      exact ⟨a2, n, c2, L, rfl, hsl, hE.out.els, hb⟩
    | succ f =>
      have hkl : (k : Int) ≤ (len : Int) := by omega
      obtain ⟨⟨C, nx, er⟩, hr⟩ : ∃ r, openRes bs p = r := ⟨_, rfl⟩
      obtain ⟨q1, q2⟩ := openRes_props hr
      by_cases he : er = 0
      · subst he
        have hq := q1 rfl
        rw [HC.out] at hq
        rw [recov_ok hr] at hi1 hi2
        have HO := Lib.hid hr
        have I1 := Lib.hid hi1
        have I2 := Lib.hid hi2
        clear hr hi1 hi2 q1 q2
        obtain ⟨q, rfl⟩ := Int.eq_ofNat_of_zero_le (show 0 ≤ nx by omega)
        go_wp2_with fail
        refine (refOpen_val (hs.ext hb) hlen HO).mono ?_
        rintro e w1 ⟨a, m, c, rfl, hs1, hb1⟩
        have ho1 := ownsRow_ext ho hb1
        have hE1 := Lib.hid (hE.out.ext hb1)
        have hb01 := hb.trans (hb1.mono z)
        have z1 := hb01.size
        have HS1 := Lib.hid hs1
        clear ho hE hs1
        go_wp2_with (at_builtin; refine wpList_append_one slv (fun _ => rfl) _ rfl _ _ 70 rfl w.heap.size 22 _ (.slice none 0 0) 24 Try.underlying70 infoSl rfl (.own ho1) rfl (a, m, c) rfl (by unfold maxLen; omega) (by omega) (by omega) ?_)
        intro v' w' ho' hg hb'
        have hE2 := Lib.hid ((hE1.out.far ho1 (by decide) hg).append (ownsRow_far (ownsRow_mono HS1.out (Nat.zero_le _)) ho1 (by decide) hg))
        go_wp2
        go_roundw
        case rel =>
          refine ⟨q, n + 1, k + 1, f, L ++ [(a, m, c)], pre ++ [C], rfl, by go_num, by omega, by omega, ho', hE2, hb01.trans hb', ?_, ?_⟩
          · rw [← I1.out]; simp
          · rw [← I2.out]
        case measure => simp [intOf]; omega
      · rw [recov_err hr he] at hi1 hi2
        have HO := Lib.hid hr
        have I1 := Lib.hid hi1
        have I2 := Lib.hid hi2
        clear hr hi1 hi2 q1 q2
        go_wp2_with fail
        refine (refOpen_val (hs.ext hb) hlen HO).mono ?_
        rintro e w1 ⟨a, m, c, rfl, hs1, hb1⟩
        have ho1 := ownsRow_ext ho hb1
        have hE1 := Lib.hid (hE.out.ext hb1)
        have hb01 := hb.trans (hb1.mono z)
        clear ho hE hs1
        obtain ⟨a2, c2, rfl, hsl⟩ := sl_of_own ho1
        obtain ⟨R1, R2⟩ := R
        obtain rfl : (p : Int) = R2 := I2.out
        obtain rfl : pre = R1 := by have := I1.out; simpa using this
        go_wp2
        go_ret2
        exact ⟨a2, n, c2, L, rfl, hsl, hE1.out.els, hb01⟩

theorem same05_e {w w1 : World} {xs ys : List UInt8} {a a4 : Option Addr} {n c n4 c4 : Nat} {p q : Addr} {u v : Value} (h1 : Hid (Sl w 1 a n c (cs b8 xs) ∧ n ≤ 1000000000)) (h2 : Hid (Sl w 1 a4 n4 c4 (cs b8 ys))) (hS : w1.cell? p = some u ∧ w1.cell? q = some v ∧ Below w.heap.size w w1) :
    Calls Try.prog 57 #[.slice a n c, .slice a4 n4 c4] w1 (RetB (.bool (decide (xs = ys))) w1) := same05_any xs ys a a4 n c n4 c4 w1 (h1.out.1.ext hS.2.2) (h2.out.ext hS.2.2) (by have := h1.out.2; omega)

set_option maxRecDepth 100000 in
set_option maxHeartbeats 2000000 in
theorem sameAll_any (xs ys : List (List UInt8)) (L M : List SlV) (ao bo : Option Addr) (la ca lb cb : Nat) (w : World) (ha : Sl w 1 ao la ca (cs slv L)) (hb : Sl w 1 bo lb cb (cs slv M)) (hx : Els w L xs) (hy : Els w M ys) (hla : la ≤ 1000000000000)
    (hbig : ∀ k, k < la → (xs.getD k []).length ≤ 1000000000) :
    Calls Try.prog 62 #[.slice ao la ca, .slice bo lb cb] w (RetB (.bool (decide (xs = ys))) w) := by
  have c1 := ha.count
  have c2 := hb.count
  have c3 := hx.len
  have c4 := hy.len
  by_cases hl : la = lb
  · subst hl
    have C1 := Lib.hid (show xs.length = la by omega)
    have C2 := Lib.hid (show ys.length = la by omega)
    have C3 := Lib.hid c1
    have C4 := Lib.hid c2
    have HX := Lib.hid hx
    have HY := Lib.hid hy
    have HB := Lib.hid hbig
    clear c1 c2 c3 c4 hx hy hbig
    go_enter Try.func62, Try.ntmps62
    go_wp2
    go_loopw [5] (fun i wr => ∃ k : Nat, k ≤ la ∧ i = .int .i64 k ∧ Hid (∀ j, j < k → xs.getD j [] = ys.getD j []) ∧ Below w.heap.size w wr) (fun i _ => la - (intOf i).toNat)
    case atStart => exact ⟨0, by omega, rfl, fun j hj => by omega, Below.refl _ _⟩
    case round =>
      obtain ⟨k, hk, rfl, hall, hbel⟩ := hrel
      by_cases hkl : k < la
      · obtain ⟨b1, o1, e1, hc1⟩ := (ha.ext hbel).at_ k hkl (none, 0, 0)
        obtain ⟨b2, o2, e2, hc2⟩ := (hb.ext hbel).at_ k hkl (none, 0, 0)
        subst e1; subst e2
        have hkl' : (k : Int) < (la : Int) := by omega
        have hk0 : (0 : Int) ≤ (k : Int) := by omega
        have x1 := (HX.out.ext hbel).el k (by rw [C3.out]; exact hkl)
        have y1 := (HY.out.ext hbel).el k (by rw [C4.out]; exact hkl)
        have hlen := x1.count
        have hbk := HB.out k hkl
        unfold slv at hc1 hc2
        obtain ⟨⟨xa, xn, xc⟩, hX⟩ : ∃ q, L.getD k (none, 0, 0) = q := ⟨_, rfl⟩
        obtain ⟨⟨ya, yn, yc⟩, hY⟩ : ∃ q, M.getD k (none, 0, 0) = q := ⟨_, rfl⟩
        rw [hX] at hc1 x1 hlen
        rw [hY] at hc2 y1
        simp only at hc1 hc2 x1 y1 hlen
        have X1 := Lib.hid (And.intro x1 (show xn ≤ 1000000000 by omega))
        have Y1 := Lib.hid y1
        clear x1 y1 hlen hbk hX hY
        have hb0 := And.intro hc1 (And.intro hc2 (Below.refl wr.heap.size wr))
        by_cases hxy : xs.getD k [] = ys.getD k []
        · have hdec : decide (xs.getD k [] = ys.getD k []) = true := decide_eq_true hxy
          have hall2 : Hid (∀ j, j < k + 1 → xs.getD j [] = ys.getD j []) := fun j hj => by
            by_cases hjk : j = k
            · subst hjk; exact hxy
            · exact hall.out j (by omega)
          clear hxy hall
          generalize xs.getD k [] = x at *
          generalize ys.getD k [] = y at *
          go_wp2_with fail
          go_region_held3 (fun w' => w'.cell? ⟨b1, o1 + k, none⟩ = some (.slice xa xn xc) ∧ w'.cell? ⟨b2, o2 + k, none⟩ = some (.slice ya yn yc) ∧ Below wr.heap.size wr w')
            (repeat (with_reducible first | assumption | refine keep3D ?_ | (apply keep3; focus assumption)))
            (first
              | (go_at_call 57; refine (same05_e X1 Y1 (by assumption)).mono ?_; rintro e w4 ⟨rfl, hb4⟩))
          all_goals
            go_split_ands
            have hb5 := below_step hbel (by assumption)
            go_wp2
            go_roundw
            case rel => exact ⟨k + 1, by omega, by go_num, hall2, hb5⟩
            case measure => simp [intOf]; omega
        · have hdec : decide (xs.getD k [] = ys.getD k []) = false := decide_eq_false hxy
          have HN := Lib.hid (show ¬ xs = ys from fun h => hxy (by rw [h]))
          clear hxy hall
          generalize xs.getD k [] = x at *
          generalize ys.getD k [] = y at *
          go_wp2_with fail
          go_region_held3 (fun w' => w'.cell? ⟨b1, o1 + k, none⟩ = some (.slice xa xn xc) ∧ w'.cell? ⟨b2, o2 + k, none⟩ = some (.slice ya yn yc) ∧ Below wr.heap.size wr w')
            (repeat (with_reducible first | assumption | refine keep3D ?_ | (apply keep3; focus assumption)))
            (first
              | (go_at_call 57; refine (same05_e X1 Y1 (by assumption)).mono ?_; rintro e w4 ⟨rfl, hb4⟩))
          all_goals
            go_split_ands
            have hb5 := below_step hbel (by assumption)
            go_wp2
            go_ret
            exact ⟨congrArg (fun b => Ending.returned (.bool b)) (by rw [decide_eq_false HN.out]), hb5⟩
      · have hkl' : ¬ (k : Int) < (la : Int) := by omega
        have hee : xs = ys := by
          apply List.ext_getElem (by rw [C1.out, C2.out])
          intro i h1 h2
          have := hall.out i (by have := C1.out; omega)
          simpa [List.getD, h1, h2] using this
        have HN := Lib.hid hee
        clear hee
        go_wp2
        go_ret
        exact ⟨congrArg (fun b => Ending.returned (.bool b)) (by rw [decide_eq_true HN.out]), hbel⟩
  · have hne : ¬ xs = ys := fun h => hl (by rw [← c1, ← c2, c3, c4, h])
    have HN := Lib.hid hne
    clear hne c1 c2 c3 c4
    have hl' : ¬ (la : Int) = (lb : Int) := by omega
    go_enter Try.func62, Try.ntmps62
    go_wp2
    go_ret
    exact ⟨congrArg (fun b => Ending.returned (.bool b)) (by rw [decide_eq_false HN.out]), Below.refl _ _⟩
end Go.Proofs.Ytmanoeimnipjjaa
