/-
  WIRE, THE WALKS: awake (chapter 04).
-/
import Derived.Test.YtdgifbnnjoeddaaProg
import Derived.Test.YtdgifbnnjoeddaaBase2
import Derived.Test.YtdgifbnnjoeddaaWire8
import Derived.Test.YtdgifbnnjoeddaaWireP3
import Derived.Test.YtdgifbnnjoeddaaBase3
import Derived.BigQuiet
import Derived.Deep.QuietTactic
import Derived.WalkSpells
import Derived.WalkLawsBesides
namespace Go.Proofs.Ytdgifbnnjoeddaa
open Go.RowKit
set_option linter.unusedVariables false






theorem int_b {bs : List UInt8} {at_ n nx er : Int} {ao : Option Addr} {len cap : Nat} {w : World} (hs : Sl w 1 ao len cap (cs b8 bs)) (hlen : len ≤ 1000000000000) (hr : intRes bs at_ = (n, nx, er)) :
    Calls Try.prog 33 #[.slice ao len cap, .int .i64 at_] w (RetB (.tuple #[.int .i64 n, .int .i64 nx, .int .i64 er]) w) :=
  (int_val hs hlen hr).mono fun _ _ h => RetB.of h
theorem text_b {bs : List UInt8} {at_ : Int} {t : List UInt8} {nx er : Int} {ao : Option Addr} {len cap : Nat} {w : World} (hs : Sl w 1 ao len cap (cs b8 bs)) (hlen : len ≤ 1000000000) (hr : textRes bs at_ = (t, nx, er)) :
    Calls Try.prog 35 #[.slice ao len cap, .int .i64 at_] w (RetB (.tuple #[.string ⟨t.toArray⟩, .int .i64 nx, .int .i64 er]) w) :=
  (text_any bs at_ ao len cap w hs hlen).mono fun _ _ h => RetB.of (by rw [hr] at h; exact h)

set_option maxRecDepth 100000 in
set_option maxHeartbeats 4000000 in
theorem awake_any (w : World) : Calls Try.prog 27 #[] w (RetB (.bool true) w) := by
  go_enter Try.func27, Try.ntmps27
  go_wp2_with fail
  refine (int_b (n := 64) (nx := 2) (er := 0) (sl_lit w 5 [128, 1] _ rfl 2 rfl (by decide)) (by decide) (by decide +kernel)).mono ?_
  rintro e w1 ⟨rfl, hb1⟩
  have hb1' := below_step (below_alloc w _) hb1
  clear hb1
  go_wp2_with fail
  refine (int_b (n := 0) (nx := 0) (er := 3) (sl_lit w1 5 [128, 0] _ rfl 2 rfl (by decide)) (by decide) (by decide +kernel)).mono ?_
  rintro e w2 ⟨rfl, hb2⟩
  have hb2' := below_step hb1' (below_step (below_alloc w1 _) hb2)
  clear hb2 hb1'
  go_wp2_with fail
  refine (int_b (n := 0) (nx := 0) (er := 4) (sl_lit w2 5 [128] _ rfl 1 rfl (by decide)) (by decide) (by decide +kernel)).mono ?_
  rintro e w3 ⟨rfl, hb3⟩
  have hb3' := below_step hb2' (below_step (below_alloc w2 _) hb3)
  clear hb3 hb2'
  go_wp2_with fail
  refine (text_b (t := [104, 105]) (nx := 3) (er := 0) (sl_lit w3 5 [4, 104, 105] _ rfl 3 rfl (by decide)) (by decide) (by decide +kernel)).mono ?_
  rintro e w4 ⟨rfl, hb4⟩
  have hb4' := below_step hb3' (below_step (below_alloc w3 _) hb4)
  clear hb4 hb3'
  go_wp2_with fail
  refine (ints_any [4, 0, 1] 0 _ 3 3 _ (sl_lit w4 5 [4, 0, 1] _ rfl 3 rfl (by decide)) (by decide)).mono ?_
  have hir : intsRes [4, 0, 1] 0 = ([0, -1], 3, 0) := by decide +kernel
  rintro e w5 ⟨v5, rfl, ho5, hb5⟩
  rw [hir] at ho5
  simp only [hir]
  obtain ⟨a5, c5, rfl, hs5⟩ := sl_of_own ho5
  have hb5' := below_step hb4' (below_step (below_alloc w4 _) hb5)
  clear hb5 hb4' hir ho5
  go_wp2_with fail
  refine (intsSame_any [0, -1] [0, -1] a5 _ _ c5 2 2 _ (hs5.ext (below_alloc w5 _)) (sl_lit w5 3 [0, -1] _ rfl 2 rfl (by decide)) (by decide)).mono ?_
  rintro e w6 ⟨rfl, hb6⟩
  have hb6' := below_step hb5' (below_step (below_alloc w5 _) hb6)
  clear hb6 hb5'
  go_wp2_with fail
  refine (putInt_any [9] 64 _ 1 1 _ (sl_lit w6 5 [9] _ rfl 1 rfl (by decide)) (by decide) (by decide) (by decide)).mono ?_
  rintro e w7 ⟨v7, rfl, ho7, hb7⟩
  obtain ⟨a7, c7, rfl, hs7⟩ := sl_of_own ho7
  have hb7' := below_step hb6' (below_step (below_alloc w6 _) hb7)
  clear hb7 hb6' ho7
  go_wp2_with fail
  refine (refSame_any _ [9, 128, 1] a7 _ _ c7 3 3 _ (hs7.ext (below_alloc w7 _)) (sl_lit w7 5 [9, 128, 1] _ rfl 3 rfl (by decide))).mono ?_
  rintro e w8 ⟨rfl, hb8⟩
  have e8 : decide ([9] ++ putInt 64 = [9, 128, 1]) = true := by decide +kernel
  rw [e8]
  have hb8' := below_step hb7' (below_step (below_alloc w7 _) hb8)
  clear hb8 hb7' e8
  go_wp2_with fail
  refine (putText_any [] ⟨#[104, 105]⟩ none 0 0 _ (Sl.nil _ _) (by decide) (by decide)).mono ?_
  rintro e w9 ⟨v9, rfl, ho9, hb9⟩
  obtain ⟨a9, c9, rfl, hs9⟩ := sl_of_own ho9
  have hb9' := below_step hb8' hb9
  clear hb9 hb8' ho9
  rw [Nat.zero_add] at hs9
  go_wp2_with fail
  refine (refSame_any _ [4, 104, 105] a9 _ _ c9 3 3 _ (hs9.ext (below_alloc w9 _)) (sl_lit w9 5 [4, 104, 105] _ rfl 3 rfl (by decide))).mono ?_
  rintro e w10 ⟨rfl, hb10⟩
  have e10 : decide ([] ++ putText (ByteArray.data ⟨#[104, 105]⟩).toList = [4, 104, 105]) = true := by decide +kernel
  rw [e10]
  have hb10' := below_step hb9' (below_step (below_alloc w9 _) hb10)
  clear hb10 hb9' e10
  go_wp2_with fail
  refine (putInts_any [] [0, -1] none _ 0 0 2 2 _ (Sl.nil _ _) (sl_lit w10 3 [0, -1] _ rfl 2 rfl (by decide)) (by unfold I64s; decide) (by decide) (by decide)).mono ?_
  rintro e w11 ⟨v11, rfl, ho11, hb11⟩
  obtain ⟨a11, c11, rfl, hs11⟩ := sl_of_own ho11
  have hb11' := below_step hb10' (below_step (below_alloc w10 _) hb11)
  clear hb11 hb10' ho11
  rw [Nat.zero_add] at hs11
  go_wp2_with fail
  refine (refSame_any _ [4, 0, 1] a11 _ _ c11 3 3 _ (hs11.ext (below_alloc w11 _)) (sl_lit w11 5 [4, 0, 1] _ rfl 3 rfl (by decide))).mono ?_
  rintro e w12 ⟨rfl, hb12⟩
  have e12 : decide ([] ++ putInts [0, -1] = [4, 0, 1]) = true := by decide +kernel
  rw [e12]
  have hb12' := below_step hb11' (below_step (below_alloc w11 _) hb12)
  clear hb12 hb11' e12
  go_wp2
  go_ret
  exact ⟨rfl, hb12'⟩
end Go.Proofs.Ytdgifbnnjoeddaa
