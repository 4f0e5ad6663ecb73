/-
  CRC, THE WALKS: awake, short.
-/
import Derived.Test.YtmanoeimnipjjaaProg
import Derived.Test.YtmanoeimnipjjaaBase3
import Derived.Test.YtmanoeimnipjjaaBase5
import Derived.Test.YtmanoeimnipjjaaBase6
import Derived.Test.YtmanoeimnipjjaaBase7
import Derived.Test.YtmanoeimnipjjaaBase8
import Derived.Test.YtmanoeimnipjjaaBase9
import Derived.Test.YtmanoeimnipjjaaCrc8
import Derived.Test.YtmanoeimnipjjaaWire6
import Derived.Test.YtmanoeimnipjjaaWireP3
import Derived.Test.YtmanoeimnipjjaaHeld
import Derived.Lib.SmallJoins
import Derived.BigQuiet
import Derived.Laws.StructEq
import Derived.StillTailTactics
import Derived.RegionTactic
import Derived.Deep.DeepCutAuto
import Derived.Deep.QuietTactic
import Derived.WalkSpells
import Derived.WalkLawsBesides
namespace Go.Proofs.Ytmanoeimnipjjaa
open Go.RowKit
set_option linter.unusedVariables false

def AB : List UInt8 := [2, 97, 67, 190, 183, 232]
def D9 : List UInt8 := [49, 50, 51, 52, 53, 54, 55, 56, 57]
theorem ab_frame : frameB [97] = AB := by decide +kernel
theorem ab_open0 : openRes AB 0 = ([97], 6, 0) := by decide +kernel
theorem ab_open1 : openRes AB 1 = ([], 0, 3) := by decide +kernel
theorem ab_open7 : openRes AB 7 = ([], 0, 1) := by decide +kernel
theorem ab_recov : recov (AB ++ [2]) (6 + 1 + 1) 0 = ([[97]], 6) := by decide +kernel
theorem d9_sum : (crc D9).toNat = 3421780262 := by decide +kernel
theorem nil_sum : (crc []).toNat = 0 := by decide +kernel

/-- A new block of cells with the mark of a constant, as a slice. -/
theorem sl_litM {α : Type} {f : α → Value} (w : World) (E : TypeId) (fr : Nat × Nat) (xs : List α) (C : Array Value) (hC : C = (cs f xs).toArray) (n : Nat) (hn : n = xs.length) (hm : n ≤ 1000000000) :
    Sl (w.alloc (.cells C E fr)) 1 (some ⟨w.heap.size, 0, none⟩) n n (cs f xs) := by
  subst hC; subst hn
  refine ⟨by rw [cs_length]; omega, Nat.le_refl _, by unfold maxLen; omega, (fun h => by cases h), fun j u hj => ⟨w.heap.size, 0, rfl, ?_⟩⟩
  have hh : (w.alloc (.cells (cs f xs).toArray E fr)).heap[w.heap.size]? = some (.cells (cs f xs).toArray E fr) := by
    show (w.heap.push _)[w.heap.size]? = _
    simp
  rw [Nat.zero_add, cell_of_row _ _ _ _ _ _ hh]
  simpa using hj
abbrev C6 : Array Value := #[.int .u8 2, .int .u8 97, .int .u8 67, .int .u8 190, .int .u8 183, .int .u8 232]
abbrev C9 : Array Value := #[.int .u8 49, .int .u8 50, .int .u8 51, .int .u8 52, .int .u8 53, .int .u8 54, .int .u8 55, .int .u8 56, .int .u8 57]

set_option maxRecDepth 100000 in
set_option maxHeartbeats 4000000 in
theorem awake05_any (w : World) : Calls Try.prog 52 #[] w (RetB (.bool true) w) := by
  have sA := sl_lit (f := b8) w 5 AB C6 rfl 6 rfl (by decide)
  have s97 := sl_litM (f := b8) (w.alloc (.cells C6 5)) 5 (1, 2) [97] #[.int .u8 97] rfl 1 rfl (by decide)
  have sA1 := sA.ext (below_alloc _ (.cells #[.int .u8 97] 5 (1, 2)))
  have hb0 : Below w.heap.size w ((w.alloc (.cells C6 5)).alloc (.cells #[.int .u8 97] 5 (1, 2))) := below_step (below_alloc _ _) (below_alloc _ _)
  rw [show (w.alloc (.cells C6 5)).heap.size = w.heap.size + 1 from by simp] at s97
  have hcv : (convert 22 22 (.slice (some ⟨w.heap.size + 1, 0, none⟩) 1 1)).run Try.prog ((w.alloc (.cells C6 5)).alloc (.cells #[.int .u8 97] 5)) = .ok (.slice (some ⟨w.heap.size + 1, 0, none⟩) 1 1) ((w.alloc (.cells C6 5)).alloc (.cells #[.int .u8 97] 5 (1, 2))) :=
    Joins.run_convert_bytes_const_at _ _ _ _ _ _ _ (by simp) Try.underlying22 Try.underlying5
  have hcv9 : ∀ w6 : World, (convert 22 22 (.slice (some ⟨w6.heap.size, 0, none⟩) 9 9)).run Try.prog (w6.alloc (.cells C9 5)) = .ok (.slice (some ⟨w6.heap.size, 0, none⟩) 9 9) (w6.alloc (.cells C9 5 (9, 10))) :=
    fun w6 => Joins.run_convert_bytes_const_at _ _ _ _ _ _ _ rfl Try.underlying22 Try.underlying5
  have HSA := Lib.hid sA1
  have HS97 := Lib.hid s97
  have HB0 := Lib.hid hb0
  clear sA s97 sA1 hb0
  go_enter Try.func52, Try.ntmps52
  go_wp2_with fail
  refine (seal_any [97] _ 1 1 _ HS97.out (by decide)).mono ?_
  rintro e w1 ⟨v1, rfl, ho1, hb1⟩
  rw [ab_frame] at ho1
  have B1 := Lib.hid (below_step HB0.out hb1)
  have SA1 := Lib.hid (HSA.out.ext hb1)
  obtain ⟨a1, c1, rfl, s1⟩ := sl_of_own ho1
  have S1 := Lib.hid s1
  clear HSA HS97 HB0 hb1 ho1 s1
  go_wp2_with fail
  refine (open_val SA1.out (by decide) (Lib.hid ab_open0)).mono ?_
  rintro e w2 ⟨a2, m2, c2, rfl, ho2, hb2⟩
  obtain ⟨a2', c2', e2, s2⟩ := sl_of_own ho2
  cases e2
  have B2 := Lib.hid (below_step B1.out hb2)
  have SA2 := Lib.hid (SA1.out.ext hb2)
  have S12 := Lib.hid (S1.out.ext hb2)
  have S2 := Lib.hid s2
  clear B1 SA1 S1 s2 ho2 hb2
  go_wp2_with fail
  refine (open_val SA2.out (by decide) (Lib.hid ab_open1)).mono ?_
  rintro e w3 ⟨a3, m3, c3, rfl, ho3, hb3⟩
  have B3 := Lib.hid (below_step B2.out hb3)
  have SA3 := Lib.hid (SA2.out.ext hb3)
  have S13 := Lib.hid (S12.out.ext hb3)
  have S23 := Lib.hid (S2.out.ext hb3)
  clear B2 SA2 S12 S2 ho3 hb3
  go_wp2_with fail
  refine (open_val SA3.out (by decide) (Lib.hid ab_open7)).mono ?_
  rintro e w4 ⟨a4, m4, c4, rfl, ho4, hb4⟩
  have B4 := Lib.hid (below_step B3.out hb4)
  have SA4 := Lib.hid (SA3.out.ext hb4)
  have S14 := Lib.hid (S13.out.ext hb4)
  have S24 := Lib.hid (S23.out.ext hb4)
  clear B3 SA3 S13 S23 ho4 hb4
  go_wp2_with (at_builtin; refine wpList_append_one b8 (fun _ => rfl) _ rfl _ _ 22 rfl w4.heap.size 5 _ (.int .u8 0) 1 Try.underlying22 Try.infoU8 rfl (.full SA4.out) rfl 2 rfl (by unfold maxLen; omega) (by omega) (by omega) ?_)
  intro v5 w5 ho5 hg5 hb5
  obtain ⟨a5, c5, rfl, s5⟩ := sl_of_own ho5
  have B5 := Lib.hid (below_step B4.out hb5)
  have SA5 := Lib.hid (SA4.out.ext hb5)
  have S15 := Lib.hid (S14.out.ext hb5)
  have S25 := Lib.hid (S24.out.ext hb5)
  have S5 := Lib.hid s5
  clear B4 SA4 S14 S24 ho5 hg5 hb5 s5
  go_wp2_with fail
  refine (recover_any (AB ++ [2]) a5 (6 + 1) c5 _ S5.out (by decide)).mono ?_
  rw [ab_recov]
  rintro e w6 ⟨a6, m6, c6, L6, rfl, hs6, hE6, hb6⟩
  have hm6 : m6 = 1 := by
    have h1 := hs6.count
    have h2 := hE6.len
    simp at h2
    omega
  subst hm6
  have B6 := Lib.hid (below_step B5.out hb6)
  have SA6 := Lib.hid (SA5.out.ext hb6)
  have S16 := Lib.hid (S15.out.ext hb6)
  have S26 := Lib.hid (S25.out.ext hb6)
  clear B5 SA5 S15 S25 S5 hs6 hE6 hb6
  have s9 := sl_litM (f := b8) w6 5 (9, 10) D9 C9 rfl 9 rfl (by decide)
  have S9 := Lib.hid s9
  have B7 := Lib.hid (below_step B6.out (below_alloc w6 (.cells C9 5 (9, 10))))
  have SA7 := Lib.hid (SA6.out.ext (below_alloc w6 (.cells C9 5 (9, 10))))
  have S17 := Lib.hid (S16.out.ext (below_alloc w6 (.cells C9 5 (9, 10))))
  have S27 := Lib.hid (S26.out.ext (below_alloc w6 (.cells C9 5 (9, 10))))
  clear s9 B6 SA6 S16 S26
  go_wp2_with fail
  refine (crcSum_any D9 _ 9 9 _ S9.out (by decide)).mono ?_
  rw [d9_sum]
  rintro e w8 ⟨rfl, hb8⟩
  have B8 := Lib.hid (below_step B7.out hb8)
  have SA8 := Lib.hid (SA7.out.ext hb8)
  have S18 := Lib.hid (S17.out.ext hb8)
  have S28 := Lib.hid (S27.out.ext hb8)
  clear B7 SA7 S17 S27 S9 hb8
  go_wp2_with fail
  refine (crcSum_any [] none 0 0 _ (Sl.nil _ _) (by decide)).mono ?_
  rw [nil_sum]
  rintro e w9 ⟨rfl, hb9⟩
  have B9 := Lib.hid (below_step B8.out hb9)
  have SA9 := Lib.hid (SA8.out.ext hb9)
  have S19 := Lib.hid (S18.out.ext hb9)
  have S29 := Lib.hid (S28.out.ext hb9)
  clear B8 SA8 S18 S28 hb9
  go_wp2_with fail
  refine (same05_any AB AB _ _ _ _ _ _ _ S19.out SA9.out (by decide)).mono ?_
  rw [decide_eq_true rfl]
  rintro e w10 ⟨rfl, hb10⟩
  have B10 := Lib.hid (below_step B9.out hb10)
  have S210 := Lib.hid (S29.out.ext hb10)
  clear B9 SA9 S19 S29 hb10
  have hb2s := run_b2s (P := Try.prog) w10 22 9 5 Try.underlying22 Try.underlying9 Try.underlying5 S210.out
  go_wp2_with fail
  go_ret
  exact ⟨rfl, B10.out⟩

set_option maxRecDepth 100000 in
set_option maxHeartbeats 1000000 in
theorem short_any (ao : Option Addr) (len cap : Nat) (w : World) : Calls Try.prog 51 #[.slice ao len cap] w (fun e w' => e = .returned (.bool (decide ((len : Int) ≤ 3000))) ∧ w = w') := by
  go_enter Try.func51, Try.ntmps51
  go_wp2
  go_ret
  exact ⟨rfl, rfl⟩
end Go.Proofs.Ytmanoeimnipjjaa
