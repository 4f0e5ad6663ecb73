/-
  MAC, THE LAWS' WALKS: MacTags.
-/
import Derived.Test.YtmanoeimnipjjaaProg
import Derived.Test.YtmanoeimnipjjaaBase3
import Derived.Test.YtmanoeimnipjjaaBase5
import Derived.Test.YtmanoeimnipjjaaBase6
import Derived.Test.YtmanoeimnipjjaaBase13
import Derived.Test.YtmanoeimnipjjaaMac1
import Derived.Test.YtmanoeimnipjjaaMac4
import Derived.Test.YtmanoeimnipjjaaMac5
import Derived.Test.YtmanoeimnipjjaaHeld
import Derived.Test.YtmanoeimnipjjaaHeld2
import Derived.Test.YtmanoeimnipjjaaWire5
import Derived.Test.YtmanoeimnipjjaaWireP5
import Derived.BigQuiet
import Derived.Laws.StructEq
import Derived.StillTailTactics
import Derived.RegionTactic
import Derived.BigRegion
import Derived.Deep.RegionHeld3
import Derived.Deep.DeepCutAuto
import Derived.Deep.QuietTactic
import Derived.WalkSpells
import Derived.WalkLawsBesides
namespace Go.Proofs.Ytmanoeimnipjjaa
open Go.RowKit
set_option linter.unusedVariables false

set_option maxRecDepth 100000 in
set_option maxHeartbeats 1000000 in
theorem ints_any (xs ys : List Int) (ao bo : Option Addr) (la ca lb cb : Nat) (w : World) (ha : Sl w 1 ao la ca (cs i64v xs)) (hb : Sl w 1 bo lb cb (cs i64v ys)) (hla : la ≤ 1000000000000) :
    Calls Try.prog 29 #[.slice ao la ca, .slice bo lb cb] w (RetB (.bool (decide (xs = ys))) w) := by
  have c1 := ha.count
  have c2 := hb.count
  by_cases hl : la = lb
  · subst hl
    have C1 := Lib.hid c1
    have C2 := Lib.hid c2
    clear c1 c2
    go_enter Try.func29, Try.ntmps29
    go_wp2
    go_loopw [5] (fun i wr => ∃ k : Nat, k ≤ la ∧ i = .int .i64 k ∧ Hid (∀ j, j < k → xs.getD j 0 = ys.getD j 0) ∧ Below w.heap.size w wr) (fun i _ => la - (intOf i).toNat)
    case atStart => exact ⟨0, by omega, rfl, fun j hj => by omega, Below.refl _ _⟩
    case round =>
      obtain ⟨k, hk, rfl, hall, hbel⟩ := hrel
      by_cases hkl : k < la
      · obtain ⟨b1, o1, e1, hc1⟩ := (ha.ext hbel).at_ k hkl 0
        obtain ⟨b2, o2, e2, hc2⟩ := (hb.ext hbel).at_ k hkl 0
        subst e1; subst e2
        have hc1' : wr.cell? ⟨b1, o1 + k, none⟩ = some (.int .i64 (xs.getD k 0)) := hc1
        have hc2' : wr.cell? ⟨b2, o2 + k, none⟩ = some (.int .i64 (ys.getD k 0)) := hc2
        clear hc1 hc2
        have hkl' : (k : Int) < (la : Int) := by omega
        have hk0 : (0 : Int) ≤ (k : Int) := by omega
        by_cases hxy : xs.getD k 0 = ys.getD k 0
        · generalize hx : xs.getD k 0 = x at *
          subst hxy
          go_wp2
          go_quiet (fail)
          go_wp2
          go_roundw
          case rel => exact ⟨k + 1, by omega, by go_num, fun j hj => by
            by_cases hjk : j = k
            · subst hjk; exact hx
            · exact hall.out j (by omega), by exact below_drewN hbel _⟩
          case measure => simp [intOf]; omega
        · have hne : ¬ xs = ys := fun h => hxy (by rw [h])
          have HN := Lib.hid hne
          clear hne
          generalize xs.getD k 0 = x at *
          generalize ys.getD k 0 = y at *
          go_wp2
          go_quiet (fail)
          go_wp2
          go_ret
          exact ⟨congrArg (fun b => Ending.returned (.bool b)) (by rw [decide_eq_false HN.out]), by exact below_drewN hbel _⟩
      · have hkl' : ¬ (k : Int) < (la : Int) := by omega
        have hee : xs = ys := by
          apply List.ext_getElem (by rw [C1.out, C2.out])
          intro i h1 h2
          have := hall.out i (by have := C1.out; omega)
          simpa [List.getD, h1, h2] using this
        have HN := Lib.hid hee
        clear hee
        go_wp2
        go_ret
        exact ⟨congrArg (fun b => Ending.returned (.bool b)) (by rw [decide_eq_true HN.out]), hbel⟩
  · have hne : ¬ xs = ys := fun h => hl (by rw [← c1, ← c2, h])
    have HN := Lib.hid hne
    clear hne c1 c2
    have hl' : ¬ (la : Int) = (lb : Int) := by omega
    go_enter Try.func29, Try.ntmps29
    go_wp2
    go_ret
    exact ⟨congrArg (fun b => Ending.returned (.bool b)) (by rw [decide_eq_false HN.out]), Below.refl _ _⟩


theorem putInts_inj {l m : List Int} (h1 : l.length < 1000000000000) (h2 : m.length < 1000000000000) (r1 : I64s l) (r2 : I64s m) (h : putInts l = putInts m) : l = m := by
  have a := intsRes_put [] [] l h1 r1
  have b := intsRes_put [] [] m h2 r2
  rw [h, b] at a
  exact (Prod.mk.inj a).1.symm
theorem puts_s {l : List Int} {ao : Option Addr} {len cap : Nat} {w w1 : World} {n : Nat} (HL : Hid (Sl w 1 ao len cap (cs i64v l) ∧ I64s l ∧ len ≤ 1000000)) (hn : Hid ((putInts l).length = n)) (hb : Below w.heap.size w w1) :
    Calls Try.prog 26 #[.slice none 0 0, .slice ao len cap] w1 (fun e w2 => ∃ a c, e = .returned (.slice a n c) ∧ Hid (Sl w2 1 a n c (cs b8 (putInts l)) ∧ n ≤ 1000000000) ∧ Below w1.heap.size w1 w2) := by
  have hp := putInts_len l
  have hc := HL.out.1.count
  refine (putInts_any [] l none ao 0 0 len cap w1 (Sl.nil _ _) (HL.out.1.ext hb) HL.out.2.1 (by omega) (by have := HL.out.2.2; omega)).mono ?_
  rintro e w2 ⟨v, rfl, ho, hb⟩
  rw [Nat.zero_add, List.nil_append, hn.out] at ho
  obtain ⟨a, c, rfl, s⟩ := sl_of_own ho
  exact ⟨a, c, rfl, ⟨s, by have := HL.out.2.2; have := hn.out; omega⟩, hb⟩
theorem refPuts_s {l : List Int} {ao : Option Addr} {len cap : Nat} {w w1 : World} {n : Nat} (HL : Hid (Sl w 1 ao len cap (cs i64v l) ∧ I64s l ∧ len ≤ 1000000)) (hn : Hid ((putInts l).length = n)) (hb : Below w.heap.size w w1) :
    Calls Try.prog 27 #[.slice none 0 0, .slice ao len cap] w1 (fun e w2 => ∃ a c, e = .returned (.slice a n c) ∧ Hid (Sl w2 1 a n c (cs b8 (putInts l)) ∧ n ≤ 1000000000) ∧ Below w1.heap.size w1 w2) := by
  have hp := putInts_len l
  have hc := HL.out.1.count
  refine (refPutInts_any [] l none ao 0 0 len cap w1 (Sl.nil _ _) (HL.out.1.ext hb) HL.out.2.1 (by omega) (by have := HL.out.2.2; omega)).mono ?_
  rintro e w2 ⟨v, rfl, ho, hb⟩
  rw [Nat.zero_add, List.nil_append, hn.out] at ho
  obtain ⟨a, c, rfl, s⟩ := sl_of_own ho
  exact ⟨a, c, rfl, ⟨s, by have := HL.out.2.2; have := hn.out; omega⟩, hb⟩
theorem ints_s {l m : List Int} {ao bo : Option Addr} {la ca lb cb : Nat} {w w1 : World} {B : Bool} (H1 : Hid (Sl w 1 ao la ca (cs i64v l) ∧ I64s l ∧ la ≤ 1000000)) (H2 : Hid (Sl w 1 bo lb cb (cs i64v m) ∧ I64s m ∧ lb ≤ 1000000)) (hB : Hid (decide (l = m) = B)) (hb : Below w.heap.size w w1) :
    Calls Try.prog 29 #[.slice ao la ca, .slice bo lb cb] w1 (RetB (.bool B) w1) := by
  have := ints_any l m ao bo la ca lb cb w1 (H1.out.1.ext hb) (H2.out.1.ext hb) (by have := H1.out.2.2; omega)
  rw [hB.out] at this
  exact this
theorem tag_b {l : List Int} {ao : Option Addr} {len cap : Nat} {w w1 : World} {ka kb : BitVec 64} (HS : Hid (Sl w 1 ao len cap (cs i64v l) ∧ I64s l ∧ len ≤ 1000000)) (hb : Below w.heap.size w w1) :
    Calls Try.prog 30 #[.agg #[u64 ka, u64 kb], .slice ao len cap] w1 (RetB (u64 (sipSum ka kb (putInts l))) w1) := tag_any ka kb l ao len cap w1 (HS.out.1.ext hb) HS.out.2.1 HS.out.2.2
theorem str_run {w W : World} {a : Option Addr} {n c : Nat} {bs : List UInt8} {S : ByteArray} (H : Hid (Sl w 1 a n c (cs b8 bs) ∧ n ≤ 1000000000)) (hS : Hid ((⟨bs.toArray⟩ : ByteArray) = S)) (hb : Below w.heap.size w W) : (convert 22 9 (.slice a n c)).run Try.prog W = .ok (.string S) W := by
  rw [← hS.out]
  exact run_b2s _ _ _ 5 Try.underlying22 Try.underlying9 Try.underlying5 (H.out.1.ext hb)

section
variable {W w1 : World} {p q : Addr} {x y : Value}
theorem below_S3 {w : World} (H : Hid (Below w.heap.size w W)) (hS : w1.cell? p = some x ∧ w1.cell? q = some y ∧ Below W.heap.size W w1) : Below w.heap.size w w1 := below_step H.out hS.2.2
theorem size_S3' (hS : w1.cell? p = some x ∧ w1.cell? q = some y ∧ Below W.heap.size W w1) : W.heap.size ≤ w1.heap.size := hS.2.2.size
end
theorem ints_same {l : List Int} {ao bo : Option Addr} {la ca lb cb : Nat} {w w1 : World} (H1 : Hid (Sl w 1 ao la ca (cs i64v l) ∧ I64s l ∧ la ≤ 1000000)) (H2 : Hid (Sl w 1 bo lb cb (cs i64v l) ∧ I64s l ∧ lb ≤ 1000000)) (hb : Below w.heap.size w w1) :
    Calls Try.prog 29 #[.slice ao la ca, .slice bo lb cb] w1 (RetB (.bool true) w1) := ints_s H1 H2 (Lib.hid (decide_eq_true rfl)) hb
theorem ints_other {l m : List Int} {ao bo : Option Addr} {la ca lb cb : Nat} {w w1 : World} (h : Hid (¬ l = m)) (H1 : Hid (Sl w 1 ao la ca (cs i64v l) ∧ I64s l ∧ la ≤ 1000000)) (H2 : Hid (Sl w 1 bo lb cb (cs i64v m) ∧ I64s m ∧ lb ≤ 1000000)) (hb : Below w.heap.size w w1) :
    Calls Try.prog 29 #[.slice ao la ca, .slice bo lb cb] w1 (RetB (.bool false) w1) := ints_s H1 H2 (Lib.hid (decide_eq_false h.out)) hb
theorem tag_S {l : List Int} {ao : Option Addr} {len cap : Nat} {w1 : World} {ka kb : BitVec 64} (HS : Hid (Sl w1 1 ao len cap (cs i64v l) ∧ I64s l ∧ len ≤ 1000000)) :
    Calls Try.prog 30 #[.agg #[u64 ka, u64 kb], .slice ao len cap] w1 (RetB (u64 (sipSum ka kb (putInts l))) w1) := tag_any ka kb l ao len cap w1 HS.out.1 HS.out.2.1 HS.out.2.2
theorem sum_S {bs : List UInt8} {ao : Option Addr} {len cap : Nat} {W w1 : World} {ka kb : BitVec 64} (HS : Hid (Sl W 1 ao len cap (cs b8 bs) ∧ len ≤ 1000000000)) (hb : Below W.heap.size W w1) :
    Calls Try.prog 31 #[.agg #[u64 ka, u64 kb], .slice ao len cap] w1 (RetB (u64 (sipSum ka kb bs)) w1) := sum_any ka kb bs ao len cap w1 (HS.out.1.ext hb) HS.out.2
theorem infoI9 : (Try.prog.info? 3).map (fun i => (i.zero, i.size, i.bytes)) = some (some (.int .i64 0), 1, 8) := by kernel_rfl
theorem tDrew {W : World} {a : Option Addr} {n c : Nat} {l : List Int} (h : Hid (Sl W 1 a n c (cs i64v l) ∧ I64s l ∧ n ≤ 1000000)) : Hid (Sl W.drew 1 a n c (cs i64v l) ∧ I64s l ∧ n ≤ 1000000) := ⟨h.out.1.ext (Below.refl _ W).drew, h.out.2⟩
theorem tBelow {W W' : World} {a : Option Addr} {n c : Nat} {l : List Int} (hb : Below W.heap.size W W') (h : Hid (Sl W 1 a n c (cs i64v l) ∧ I64s l ∧ n ≤ 1000000)) : Hid (Sl W' 1 a n c (cs i64v l) ∧ I64s l ∧ n ≤ 1000000) := ⟨h.out.1.ext hb, h.out.2⟩

end Go.Proofs.Ytmanoeimnipjjaa
