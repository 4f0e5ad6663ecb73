/-
  TOP: TopRecovery: the early ends. (Printed by gen_tsc.py.)
-/
import Derived.Test.YtdgjdbpbnipjcaaTsC
import Derived.Deep.RegionHeld3
import Derived.BigQuiet
import Derived.BigRegion
import Derived.Laws.StructEq
import Derived.StillTailTactics
import Derived.RegionTactic
import Derived.Deep.DeepCutAuto
import Derived.Deep.QuietTactic
import Derived.WalkSpells
import Derived.WalkLawsBesides
namespace Go.Proofs.Ytdgjdbpbnipjcaa
open Go.RowKit Go.Maps
set_option linter.unusedVariables false

set_option maxRecDepth 100000 in
set_option maxHeartbeats 10000000 in
theorem rec_few (fl : FlL) (ao : Option Addr) (len cap : Nat) (l : List EvL) (cut : Int) (x : EvL) (w : World) (hl : l.length = len) (hs : Sl w 9 ao len cap (flatV evA l)) (hfm : FlM w fl) (hf : fewB fl len = false ∨ 30 < len) :
    Calls Try.prog 3 #[.agg (flA fl), .slice ao len cap, .int .i64 cut, .agg (evA x)] w (RetB (.bool true) w) := by
  have HR : Hid (RecW w fl ao len cap l (evA x) ((w.alloc (.cells (flA fl) 24)).alloc (.cells (evA x) 27))) := Lib.hid ⟨twoW_new w (flA fl) (evA x) 24 27, (hs.ext (below_alloc _ _)).ext (below_alloc _ _), (hfm.below (below_alloc _ _)).below (below_alloc _ _)⟩
  have HFW := Lib.hid (fun W => few_evs fl ao len cap W)
  have hfa : flA fl = #[.int .i64 fl.b, .int .i64 fl.r, .int .i64 fl.v, .slice fl.da fl.dn fl.dc, .slice fl.ta fl.tn fl.tc] := rfl
  rw [hfa] at HFW ⊢
  have HFA := Lib.hid hfa
  have HL := Lib.hid hl
  obtain ⟨m0, m1, m2, m3, m4, m5, m6, m7, m8⟩ := x
  dsimp only [evA] at *
  clear hs hfm hl
  go_enter Try.func3, Try.ntmps3
  go_upto_region 1 with (fail)
  rw [hfa] at HR
  clear hfa
  generalize (w.alloc (.cells #[.int .i64 fl.b, .int .i64 fl.r, .int .i64 fl.v, .slice fl.da fl.dn fl.dc, .slice fl.ta fl.tn fl.tc] 24)).alloc (.cells #[.int .i64 m0, .int .i64 m1, .int .i64 m2, .int .i64 m3, .int .i64 m4, .int .i64 m5, .int .i64 m6, .int .i64 m7, .int .i64 m8] 27) = W1 at *
  obtain ⟨c0, c1, c2, c3, c4⟩ := five_cells HR.out.t.f
  go_wp2_with fail
  refine (HFW.out _).mono ?_
  rintro e w2 ⟨rfl, hb⟩
  have HR2 := Lib.hid (HR.out.ext hb)
  clear hb c0 c1 c2 c3 c4 HFW HR
  rcases hf with hf | hf
  · rw [hf]
    go_wp2_with fail
    refine (jawake_any _).mono ?_
    rintro e wz ⟨rfl, hb⟩
    have HZ := Lib.hid (below_step HR2.out.t.bel hb)
    clear hb
    go_wp2_with fail
    go_ret
    exact ⟨rfl, HZ.out⟩
  · have hf2 : (30 : Int) < (len : Int) := by omega
    cases fewB fl len with
    | false =>
      go_wp2_with fail
      refine (jawake_any _).mono ?_
      rintro e wz ⟨rfl, hb⟩
      have HZ := Lib.hid (below_step HR2.out.t.bel hb)
      clear hb
      go_wp2_with fail
      go_ret
      exact ⟨rfl, HZ.out⟩
    | true =>
      go_wp2_with fail
      refine (jawake_any _).mono ?_
      rintro e wz ⟨rfl, hb⟩
      have HZ := Lib.hid (below_step HR2.out.t.bel hb)
      clear hb
      go_wp2_with fail
      go_ret
      exact ⟨rfl, HZ.out⟩
set_option maxRecDepth 100000 in
set_option maxHeartbeats 10000000 in
theorem rec_unframed (fl : FlL) (ao : Option Addr) (len cap : Nat) (l : List EvL) (cut : Int) (x : EvL) (w : World) (hl : l.length = len) (hs : Sl w 9 ao len cap (flatV evA l)) (hfm : FlM w fl) (hf : fewB fl len = true) (h30 : len ≤ 30) (hno : ¬ l.all framedB = true) :
    Calls Try.prog 3 #[.agg (flA fl), .slice ao len cap, .int .i64 cut, .agg (evA x)] w (RetB (.bool true) w) := by
  have HR : Hid (RecW w fl ao len cap l (evA x) ((w.alloc (.cells (flA fl) 24)).alloc (.cells (evA x) 27))) := Lib.hid ⟨twoW_new w (flA fl) (evA x) 24 27, (hs.ext (below_alloc _ _)).ext (below_alloc _ _), (hfm.below (below_alloc _ _)).below (below_alloc _ _)⟩
  have HFW := Lib.hid (fun W => few_evs fl ao len cap W)
  have hfa : flA fl = #[.int .i64 fl.b, .int .i64 fl.r, .int .i64 fl.v, .slice fl.da fl.dn fl.dc, .slice fl.ta fl.tn fl.tc] := rfl
  rw [hfa] at HFW ⊢
  have HFA := Lib.hid hfa
  have HL := Lib.hid hl
  obtain ⟨m0, m1, m2, m3, m4, m5, m6, m7, m8⟩ := x
  dsimp only [evA] at *
  clear hs hfm hl
  go_enter Try.func3, Try.ntmps3
  go_upto_region 1 with (fail)
  rw [hfa] at HR
  clear hfa
  generalize (w.alloc (.cells #[.int .i64 fl.b, .int .i64 fl.r, .int .i64 fl.v, .slice fl.da fl.dn fl.dc, .slice fl.ta fl.tn fl.tc] 24)).alloc (.cells #[.int .i64 m0, .int .i64 m1, .int .i64 m2, .int .i64 m3, .int .i64 m4, .int .i64 m5, .int .i64 m6, .int .i64 m7, .int .i64 m8] 27) = W1 at *
  obtain ⟨c0, c1, c2, c3, c4⟩ := five_cells HR.out.t.f
  go_wp2_with fail
  refine (HFW.out _).mono ?_
  rintro e w2 ⟨rfl, hb⟩
  have HR2 := Lib.hid (HR.out.ext hb)
  clear hb c0 c1 c2 c3 c4 HFW HR
  rw [hf]
  have hf2 : ¬ (30 : Int) < (len : Int) := by omega
  go_wp2_with fail
  refine (show Calls Try.prog 6 #[.slice ao len cap] w2 (RetB (.tuple #[.slice none 0 0, .int .i64 1]) w2) from by rw [← wrRet_no hno]; exact write_any l ao len cap w2 HR2.out.l HL.out (by omega)).mono ?_
  rintro e w3 ⟨rfl, hb⟩
  have HR3 := Lib.hid (HR2.out.ext hb)
  clear hb
  go_wp2_with fail
  refine (jawake_any _).mono ?_
  rintro e wz ⟨rfl, hb⟩
  have HZ := Lib.hid (below_step HR3.out.t.bel hb)
  clear hb
  go_wp2_with fail
  go_ret
  exact ⟨rfl, HZ.out⟩
set_option maxRecDepth 100000 in
set_option maxHeartbeats 10000000 in
theorem rec_cut (fl : FlL) (ao : Option Addr) (len cap : Nat) (l : List EvL) (cut : Int) (x : EvL) (w : World) (hl : l.length = len) (hs : Sl w 9 ao len cap (flatV evA l)) (hfm : FlM w fl) (hf : fewB fl len = true) (h30 : len ≤ 30) (hfr : l.all framedB = true) (hc : cut < 0 ∨ ((jb l).length : Int) < cut) :
    Calls Try.prog 3 #[.agg (flA fl), .slice ao len cap, .int .i64 cut, .agg (evA x)] w (RetB (.bool true) w) := by
  have HR : Hid (RecW w fl ao len cap l (evA x) ((w.alloc (.cells (flA fl) 24)).alloc (.cells (evA x) 27))) := Lib.hid ⟨twoW_new w (flA fl) (evA x) 24 27, (hs.ext (below_alloc _ _)).ext (below_alloc _ _), (hfm.below (below_alloc _ _)).below (below_alloc _ _)⟩
  have HFW := Lib.hid (fun W => few_evs fl ao len cap W)
  have hfa : flA fl = #[.int .i64 fl.b, .int .i64 fl.r, .int .i64 fl.v, .slice fl.da fl.dn fl.dc, .slice fl.ta fl.tn fl.tc] := rfl
  rw [hfa] at HFW ⊢
  have HFA := Lib.hid hfa
  have HL := Lib.hid hl
  obtain ⟨m0, m1, m2, m3, m4, m5, m6, m7, m8⟩ := x
  dsimp only [evA] at *
  clear hs hfm hl
  go_enter Try.func3, Try.ntmps3
  go_upto_region 1 with (fail)
  rw [hfa] at HR
  clear hfa
  generalize (w.alloc (.cells #[.int .i64 fl.b, .int .i64 fl.r, .int .i64 fl.v, .slice fl.da fl.dn fl.dc, .slice fl.ta fl.tn fl.tc] 24)).alloc (.cells #[.int .i64 m0, .int .i64 m1, .int .i64 m2, .int .i64 m3, .int .i64 m4, .int .i64 m5, .int .i64 m6, .int .i64 m7, .int .i64 m8] 27) = W1 at *
  obtain ⟨c0, c1, c2, c3, c4⟩ := five_cells HR.out.t.f
  go_wp2_with fail
  refine (HFW.out _).mono ?_
  rintro e w2 ⟨rfl, hb⟩
  have HR2 := Lib.hid (HR.out.ext hb)
  clear hb c0 c1 c2 c3 c4 HFW HR
  rw [hf]
  have hf2 : ¬ (30 : Int) < (len : Int) := by omega
  go_wp2_with fail
  refine (show Calls Try.prog 6 #[.slice ao len cap] w2 (RetOwnE w2 5 (jb l).length (cs b8 (jb l)) 0) from by rw [← wrRet_ok hfr]; exact write_any l ao len cap w2 HR2.out.l HL.out (by omega)).mono ?_
  rintro e w3 ⟨v, rfl, ho, hb⟩
  obtain ⟨a9, c9, rfl, hs9⟩ := sl_of_own ho
  have HR3 := Lib.hid (HR2.out.ext hb)
  have HB3 := Lib.hid hs9
  clear hb ho hs9 HR2
  generalize (jb l).length = N at *
  by_cases hc0 : cut < 0
  · clear hc
    go_wp2_with fail
    refine (jawake_any _).mono ?_
    rintro e wz ⟨rfl, hb⟩
    have HZ := Lib.hid (below_step HR3.out.t.bel hb)
    clear hb
    go_wp2_with fail
    go_ret
    exact ⟨rfl, HZ.out⟩
  · have hc1 : (N : Int) < cut := by omega
    clear hc
    go_wp2_with fail
    refine (jawake_any _).mono ?_
    rintro e wz ⟨rfl, hb⟩
    have HZ := Lib.hid (below_step HR3.out.t.bel hb)
    clear hb
    go_wp2_with fail
    go_ret
    exact ⟨rfl, HZ.out⟩
end Go.Proofs.Ytdgjdbpbnipjcaa
