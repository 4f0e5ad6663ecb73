/-
  MAC, THE LAWS' WALKS: MacTags, equal lists.
-/
import Derived.Test.YtmanoeimnipjjaaProg
import Derived.Test.YtmanoeimnipjjaaBase3
import Derived.Test.YtmanoeimnipjjaaBase5
import Derived.Test.YtmanoeimnipjjaaBase6
import Derived.Test.YtmanoeimnipjjaaBase13
import Derived.Test.YtmanoeimnipjjaaMac1
import Derived.Test.YtmanoeimnipjjaaMac4
import Derived.Test.YtmanoeimnipjjaaMac5
import Derived.Test.YtmanoeimnipjjaaMTags
import Derived.Test.YtmanoeimnipjjaaHeld
import Derived.Test.YtmanoeimnipjjaaHeld2
import Derived.Test.YtmanoeimnipjjaaWire5
import Derived.Test.YtmanoeimnipjjaaWireP5
import Derived.BigQuiet
import Derived.Laws.StructEq
import Derived.StillTailTactics
import Derived.RegionTactic
import Derived.BigRegion
import Derived.Deep.RegionHeld3
import Derived.Deep.DeepCutAuto
import Derived.Deep.QuietTactic
import Derived.WalkSpells
import Derived.WalkLawsBesides
namespace Go.Proofs.Ytmanoeimnipjjaa
open Go.RowKit
set_option linter.unusedVariables false

theorem blk_lt9 {W : World} {k : Nat} {C : Array Value} (h : BlkAt W k C) : k < W.heap.size := h.elim fun E h => (Array.getElem?_eq_some_iff.1 h).1
set_option maxRecDepth 100000 in
set_option maxHeartbeats 8000000 in
theorem macTags_same (ka kb : BitVec 64) (l : List Int) (n1 : Nat) (SA : ByteArray) (HN1 : Hid ((putInts l).length = n1)) (HSA : Hid ((⟨(putInts l).toArray⟩ : ByteArray) = SA)) (ao bo : Option Addr) (la ca lb cb : Nat) (w : World) (HL : Hid (Sl w 1 ao la ca (cs i64v l) ∧ I64s l ∧ la ≤ 1000000)) (HM : Hid (Sl w 1 bo lb cb (cs i64v l) ∧ I64s l ∧ lb ≤ 1000000)) (g1 : ¬ (100 : Int) < (la : Int)) (g2 : ¬ (100 : Int) < (lb : Int)) :
    Calls Try.prog 4 #[.agg #[u64 ka, u64 kb], .slice ao la ca, .slice bo lb cb] w (RetB (.bool true) w) := by
  have hb0 := Lib.hid (below_alloc w (.cells #[u64 ka, u64 kb] 32))
  have hk : BlkAt (w.alloc (.cells #[u64 ka, u64 kb] 32)) w.heap.size #[u64 ka, u64 kb] := blkNew rfl
  have HK := Lib.hid hk
  clear hk
  go_enter Try.func4, Try.ntmps4
  go_wp2_with fail
  refine (puts_s HL HN1 hb0.out).mono ?_
  rintro e w1 ⟨x1, y1, rfl, S1, hb1⟩
  have HB1 := Lib.hid (below_step hb0.out hb1)
  have HK1 := Lib.hid (blkBelow hb1 HK.out)
  clear hb1
  go_wp2_with fail
  refine (puts_s HM HN1 HB1.out).mono ?_
  rintro e w2 ⟨x2, y2, rfl, S2, hb2⟩
  have HB2 := Lib.hid (below_step HB1.out hb2)
  have HK2 := Lib.hid (blkBelow hb2 HK1.out)
  have S12 : Hid (Sl w2 1 x1 n1 y1 (cs b8 (putInts l)) ∧ n1 ≤ 1000000000) := ⟨S1.out.1.ext hb2, S1.out.2⟩
  clear hb2 HK1 S1 hb0 HK
  go_wp2_with fail
  go_cut [40] (fun b wx => b = .bool false ∧ Hid (Below w2.heap.size w2 wx))
  case first =>
    have hbd : Below w2.heap.size w2 w2.drew := below_drew (Below.refl _ w2)
    have cA : ∀ W', Below w2.heap.size w2 W' → (convert 22 9 (.slice x1 n1 y1)).run Try.prog W' = .ok (.string SA) W' := fun W' h => str_run S12 HSA h
    have cB : ∀ W', Below w2.heap.size w2 W' → (convert 22 9 (.slice x2 n1 y2)).run Try.prog W' = .ok (.string SA) W' := fun W' h => str_run S2 HSA h
    go_region_with (first
      | (go_at_call 29; (with_reducible refine (ints_same HL HM (below_step HB2.out hbd)).mono ?_); rintro e w3 ⟨rfl, hb3⟩; have hbe3 : Below w2.heap.size w2 w3 := hbd.trans hb3)
      | (go_at_call 27; (with_reducible refine (refPuts_s HL HN1 (below_step HB2.out hbe3)).mono ?_); rintro e w4 ⟨x4, y4, rfl, S4, hb4⟩; have hbe4 : Below w2.heap.size w2 w4 := below_step hbe3 hb4; have c4 := str_run S4 HSA (Below.refl _ w4)))
    all_goals
      go_wp2_with fail
      go_meet
      exact ⟨rfl, Lib.hid hbe4⟩
  case rest =>
    obtain ⟨rfl, hcut⟩ := hcut
    obtain ⟨W3, hW3⟩ : ∃ W, W = wc := ⟨_, rfl⟩
    subst hW3
    have hcut' : Below w2.heap.size w2 W3 := hcut.out
    have HK3 := Lib.hid (blkBelow hcut' HK2.out)
    have HB3 := Lib.hid (below_step HB2.out hcut')
    have S13 : Hid (Sl W3 1 x1 n1 y1 (cs b8 (putInts l)) ∧ n1 ≤ 1000000000) := ⟨S12.out.1.ext hcut', S12.out.2⟩
    clear hcut hcut' S12 S2 HK2 HB2 HB1
    go_wp2_with fail
    obtain ⟨k0, k1, _, _⟩ := two_facts HK3.out
    have hgW : w.heap.size < W3.heap.size := blk_lt9 HK3.out
    have KW : W3.cell? ⟨w.heap.size, 0, none⟩ = some (Ytmanoeimnipjjaa.u64 ka) ∧ W3.cell? ⟨w.heap.size, 1, none⟩ = some (Ytmanoeimnipjjaa.u64 kb) ∧ Below W3.heap.size W3 W3 := ⟨k0, k1, Below.refl _ _⟩
    clear k0 k1
    go_cut [9, 10] (fun a b wx => a = Ytmanoeimnipjjaa.u64 (sipSum ka kb (putInts l)) ∧ b = Ytmanoeimnipjjaa.u64 (sipSum ka kb (putInts l)) ∧ Hid (Below W3.heap.size W3 wx))
    case first =>
      go_region_held3 (fun w' => w'.cell? ⟨w.heap.size, 0, none⟩ = some (Ytmanoeimnipjjaa.u64 ka) ∧ w'.cell? ⟨w.heap.size, 1, none⟩ = some (Ytmanoeimnipjjaa.u64 kb) ∧ Below W3.heap.size W3 w')
        (repeat (with_reducible first | assumption | refine keep3D ?_ | refine keep3A _ ?_ | (apply keep3; focus assumption)))
        (first
          | (go_at_call 30; (with_reducible refine (tag_b HL (below_S3 HB3 (by assumption))).mono ?_); rintro e w5 ⟨rfl, hb5⟩)
          | (go_at_call 30; (with_reducible refine (tag_b HM (below_S3 HB3 (by assumption))).mono ?_); rintro e w5 ⟨rfl, hb5⟩))
      all_goals
        go_wp2_with fail
        go_meet
        go_split_ands
        exact ⟨rfl, rfl, by assumption⟩
    case rest =>
      obtain ⟨rfl, rfl, hcut⟩ := hcut
      obtain ⟨W4, hW4⟩ : ∃ W, W = wc := ⟨_, rfl⟩
      subst hW4
      have hcut' : Below W3.heap.size W3 W4 := hcut.out
      have HK4 := Lib.hid (blkBelow hcut' HK3.out)
      have HB4 := Lib.hid (below_step HB3.out hcut')
      have S14 : Hid (Sl W4 1 x1 n1 y1 (cs b8 (putInts l)) ∧ n1 ≤ 1000000000) := ⟨S13.out.1.ext hcut', S13.out.2⟩
      clear hcut hcut' S13 HK3 HB3 KW hgW
      go_wp2_with fail
      refine (ints_same HL HM HB4.out).mono ?_
      rintro e w5 ⟨rfl, hb5⟩
      have HK5 := Lib.hid (blkBelow hb5 HK4.out)
      have HB5 := Lib.hid (below_step HB4.out hb5)
      have S15 : Hid (Sl w5 1 x1 n1 y1 (cs b8 (putInts l)) ∧ n1 ≤ 1000000000) := ⟨S14.out.1.ext hb5, S14.out.2⟩
      have HL5 : Hid (Sl w5 1 ao la ca (cs i64v l) ∧ I64s l ∧ la ≤ 1000000) := ⟨HL.out.1.ext HB5.out, HL.out.2⟩
      clear hb5 HK4 HB4 S14
      obtain ⟨k0, k1, _, _⟩ := two_facts HK5.out
      have hgW : w.heap.size < w5.heap.size := blk_lt9 HK5.out
      go_wp2_with fail
      have KW : w5.cell? ⟨w.heap.size, 0, none⟩ = some (Ytmanoeimnipjjaa.u64 ka) ∧ w5.cell? ⟨w.heap.size, 1, none⟩ = some (Ytmanoeimnipjjaa.u64 kb) ∧ Below w5.heap.size w5 w5 := ⟨k0, k1, Below.refl _ _⟩
      clear k0 k1
      have hr1 : I64s l := HL5.out.2.1
      have HR1 := Lib.hid hr1
      clear hr1
      have hla : la ≤ 100 := by omega
      go_region_held3 (fun w' => w'.cell? ⟨w.heap.size, 0, none⟩ = some (Ytmanoeimnipjjaa.u64 ka) ∧ w'.cell? ⟨w.heap.size, 1, none⟩ = some (Ytmanoeimnipjjaa.u64 kb) ∧ Below w5.heap.size w5 w')
        (repeat (with_reducible first | assumption | refine keep3D ?_ | refine keep3A _ ?_ | (apply keep3; focus assumption) | (apply keep3B; (focus assumption); (focus assumption))))
        (first
          | (go_at_call 31; (with_reducible refine (sum_S S15 (below_S3 (Lib.hid (Below.refl _ w5)) (by assumption))).mono ?_); rintro e w6 ⟨rfl, hb6⟩)
          | (go_at_call 30; (with_reducible refine (tag_S (l := l) ?_).mono ?_); (repeat (first | (with_reducible assumption) | (with_reducible refine tDrew ?_) | ((with_reducible apply tBelow); focus (with_reducible assumption)))); rintro e w7 ⟨rfl, hb7⟩)
          | (go_at_call 28; (with_reducible refine (awake06_any _).mono ?_); rintro e w9 ⟨rfl, hb9⟩)
          | ((refine step_append_many i64v (fun _ => rfl) _ (by rfl) (.tmp 62) (.tmp 63) 23 rfl w5.heap.size 3 (.int .i64 0) 8 Try.underlying23 infoI9 rfl (v := .slice (some ⟨_, 0, none⟩) 0 0) (n := 0) (xs := []) (by rfl) (own_empty (by (repeat (first | ((with_reducible refine hp_new ?_); focus (simp; done)) | (with_reducible refine hp_drew ?_) | ((with_reducible apply hp_below); focus (with_reducible assumption)) | (with_reducible refine hp_old ?_)))) (by first | (simp; done) | (have := hb6.size; simp at this ⊢; omega))) (ys := l) (ao := ao) (m := la) (c := ca) (by rfl) (HL5.out.1.ext (below_S3 (Lib.hid (Below.refl _ w5)) (by assumption))) (by unfold maxLen; omega) (by omega) (size_S3' (by assumption)) ?_); intro v8 w8 ho8 hb8; rw [Nat.zero_add, List.nil_append] at ho8; obtain ⟨a8, c8, e8, s8⟩ := sl_of_own ho8; subst e8; have S8 : Hid (Sl w8 1 a8 la c8 (cs i64v l) ∧ I64s l ∧ la ≤ 1000000) := ⟨s8, HR1.out, by omega⟩; clear ho8 s8))
      all_goals
        go_split_ands
        go_wp2
        go_ret
        exact ⟨rfl, below_step HB5.out (by assumption)⟩

end Go.Proofs.Ytmanoeimnipjjaa
