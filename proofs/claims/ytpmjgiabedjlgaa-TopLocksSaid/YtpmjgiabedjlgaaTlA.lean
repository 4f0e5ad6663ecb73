/-
  LOCKS OVER A LINK: the example.
-/
import Derived.Test.YtpmjgiabedjlgaaTlP
import Derived.Test.YtpmjgiabedjlgaaTlE
import Derived.Test.YtpmjgiabedjlgaaTlS
import Derived.Test.YtpmjgiabedjlgaaTlL
import Derived.Test.YtpmjgiabedjlgaaTlW
import Derived.Test.YtpmjgiabedjlgaaBase14
import Derived.BigQuiet
import Derived.Laws.StructEq
import Derived.StillTailTactics
import Derived.RegionTactic
import Derived.Deep.DeepCutAuto
import Derived.Deep.QuietTactic
import Derived.WalkSpells
import Derived.WalkLawsBesides
namespace Go.Proofs.Ytpmjgiabedjlgaa
open Go.RowKit
set_option linter.unusedVariables false

theorem sl_steps2 {W : World} {b : Nat} (h : BlkAt W b #[.int .i64 0, .int .i64 7, .int .i64 1, .int .i64 0, .int .u8 5, .int .i64 3, .int .i64 0, .int .i64 0, .int .i64 4, .int .u8 9]) : Sl W 5 (some ⟨b, 0, none⟩) 2 2 (flatV stA awSt) := by
  obtain ⟨E, h⟩ := h
  refine ⟨rfl, Nat.le_refl _, by unfold maxLen; omega, (fun h => by cases h), fun j u hj => ⟨b, 0, rfl, ?_⟩⟩
  rw [Nat.zero_add, cell_of_row _ _ _ _ _ _ h]
  change [Value.int IntKind.i64 0, Value.int IntKind.i64 7, Value.int IntKind.i64 1, Value.int IntKind.i64 0, Value.int IntKind.u8 5, Value.int IntKind.i64 3, Value.int IntKind.i64 0, Value.int IntKind.i64 0, Value.int IntKind.i64 4, Value.int IntKind.u8 9][j]? = some u at hj
  simpa using hj
theorem sl_loss3 {W : World} {b : Nat} (h : BlkAt W b #[.int .u8 1, .int .u8 0, .int .u8 3]) : Sl W 1 (some ⟨b, 0, none⟩) 3 3 (cs b8 [1, 0, 3]) := by
  obtain ⟨E, h⟩ := h
  refine ⟨rfl, Nat.le_refl _, by unfold maxLen; omega, (fun h => by cases h), fun j u hj => ⟨b, 0, rfl, ?_⟩⟩
  rw [Nat.zero_add, cell_of_row _ _ _ _ _ _ h]
  change [Value.int IntKind.u8 1, Value.int IntKind.u8 0, Value.int IntKind.u8 3][j]? = some u at hj
  simpa using hj
def RetAw (W : World) (e : Ending) (W' : World) : Prop := ∃ a c, e = .returned (.tuple #[.slice a 2 c, .bool true]) ∧ Hid (Sl W' 6 a 2 c (rcs awRp)) ∧ Below W.heap.size W W'
theorem aw_locked (W : World) (b : Nat) (h : BlkAt W b #[.int .i64 0, .int .i64 7, .int .i64 1, .int .i64 0, .int .u8 5, .int .i64 3, .int .i64 0, .int .i64 0, .int .i64 4, .int .u8 9]) : Calls Try.prog 14 #[.agg #[.int .u64 1, .int .u64 2], .slice (some ⟨b, 0, none⟩) 2 2] W (RetAw W) := by
  have := locked_any 1#64 2#64 (some ⟨b, 0, none⟩) 2 2 awSt W rfl (sl_steps2 h) (by decide)
  rw [aw_run] at this
  exact this
theorem aw_delivered (W : World) (b : Nat) (a : Option Addr) (c : Nat) (h : BlkAt W b #[.int .u8 1, .int .u8 0, .int .u8 3]) (hs : Sl W 6 a 2 c (rcs awRp)) : Calls Try.prog 15 #[.slice a 2 c, .slice (some ⟨b, 0, none⟩) 3 3] W (RetAw W) := by
  refine delivered_any awRp a 2 c [1, 0, 3] (some ⟨b, 0, none⟩) 3 3 W rfl hs (by decide) (fun x hx n hn => ?_) (sl_loss3 h) (by decide)
  have hm : ∀ y ∈ awRp, ∀ m ∈ enL y, -9223372036854775808 ≤ m ∧ m ≤ 9223372036854775807 := by decide
  exact hm x hx n hn
theorem aw_event (W : World) (b : Nat) (h : BlkAt W b #[.int .i64 0, .int .i64 100, .int .i64 100]) : Calls Try.prog 17 #[.int .i64 9, .int .i64 3, .agg #[.int .i64 2, .int .i64 14, .int .i64 2, .int .i64 4, .int .i64 0, .int .i64 0], .slice (some ⟨b, 0, none⟩) 1 1, .int .i64 0] W
      (RetB (.tuple #[.agg #[.int .i64 9, .int .i64 2, .int .i64 114, .int .i64 114, .int .i64 2, .int .i64 3, .int .i64 4, .int .i64 0, .int .i64 0], .int .i64 0]) W) := by
  have := fromReport_any b 100 0 2 14 2 4 0 0 W (Lib.hid h) (by decide) (by decide) (by decide) (by decide) (by decide) (by decide) (.inl rfl) (by decide) (by decide)
  rw [show (100 : Int) + elLo 14 0 = 114 from by decide, show (100 : Int) + elHi 14 0 = 114 from by decide] at this
  exact this
theorem ev_same (w : World) : (binOp .eql 40 (.agg #[.int .i64 9, .int .i64 2, .int .i64 114, .int .i64 114, .int .i64 2, .int .i64 3, .int .i64 4, .int .i64 0, .int .i64 0]) (.agg #[.int .i64 9, .int .i64 2, .int .i64 114, .int .i64 114, .int .i64 2, .int .i64 3, .int .i64 4, .int .i64 0, .int .i64 0])).run Try.prog w = .ok (.bool true) w := by
  have h1 : Try.prog.underlying 40 = some (.struct (Try.prog.fieldsOf 40)) := by kernel_rfl
  have h2 : Try.prog.stoodInHeld 40 = false := by kernel_rfl
  rw [run_eql_struct, run_equalIn_agg _ _ _ _ _ h1 h2]
  simp only [Program.fieldsOf, Try.underlying40]
  clear h1 h2
  go_simp
set_option maxRecDepth 100000 in
set_option maxHeartbeats 4000000 in
theorem lockAwake_any (w : World) : Calls Try.prog 13 #[] w (RetB (.bool true) w) := by
  have hev := ev_same
  go_enter Try.func13, Try.ntmps13
  go_wp2_with fail
  refine (aw_locked _ _ (blkNew rfl)).mono ?_
  rintro e w2 ⟨a, c, rfl, hs2, hb2⟩
  have HB2 := Lib.hid (below_step (below_alloc w _) hb2)
  clear hb2
  go_wp2_with fail
  refine (aw_delivered _ _ a c (blkNew rfl) (hs2.out.ext (below_alloc _ _))).mono ?_
  rintro e w3 ⟨a3, c3, rfl, hs3, hb3⟩
  have HB3 := Lib.hid (below_step HB2.out (below_step (below_alloc w2 _) hb3))
  have HS2 : Hid (Sl w3 6 a 2 c (rcs awRp)) := Lib.hid (hs2.out.ext (below_step (below_alloc w2 _) hb3))
  clear hb3 hs2 HB2
  obtain ⟨bb, oo, e, hc⟩ := sl_rep HS2.out rfl 1 (by decide)
  subst e
  have p0 : w3.cell? ⟨bb, oo + 6, none⟩ = some (.int .i64 2) := hc 0 _ rfl
  have p1 : w3.cell? ⟨bb, oo + 6 + 1, none⟩ = some (.int .i64 14) := hc 1 _ rfl
  have p2 : w3.cell? ⟨bb, oo + 6 + 2, none⟩ = some (.int .i64 2) := hc 2 _ rfl
  have p3 : w3.cell? ⟨bb, oo + 6 + 3, none⟩ = some (.int .i64 4) := hc 3 _ rfl
  have p4 : w3.cell? ⟨bb, oo + 6 + 4, none⟩ = some (.int .i64 0) := hc 4 _ rfl
  have p5 : w3.cell? ⟨bb, oo + 6 + 5, none⟩ = some (.int .i64 0) := hc 5 _ rfl
  clear hc
  go_wp2_with fail
  refine (aw_event _ _ (blkNew rfl)).mono ?_
  rintro e w4 ⟨rfl, hb4⟩
  have hb5 := below_step (below_step (below_alloc w3 (.cells #[.int .i64 0, .int .i64 100, .int .i64 100] 47)) hb4) (below_alloc w4 (.cells #[.int .i64 9, .int .i64 2, .int .i64 114, .int .i64 114, .int .i64 2, .int .i64 3, .int .i64 4, .int .i64 0, .int .i64 0] 40))
  have HB5 := Lib.hid (below_step HB3.out hb5)
  have HE5 : Hid (BlkAt (w4.alloc (.cells #[.int .i64 9, .int .i64 2, .int .i64 114, .int .i64 114, .int .i64 2, .int .i64 3, .int .i64 4, .int .i64 0, .int .i64 0] 40)) w4.heap.size #[.int .i64 9, .int .i64 2, .int .i64 114, .int .i64 114, .int .i64 2, .int .i64 3, .int .i64 4, .int .i64 0, .int .i64 0]) := Lib.hid (blkNew rfl)
  have HS5 := Lib.hid (HS2.out.ext hb5)
  have HT5 := Lib.hid (hs3.out.ext hb5)
  clear p0 p1 p2 p3 p4 p5 hb4 hb5 HS2 hs3 HB3
  go_upto_region 6 with (fail)
  generalize w4.alloc (.cells #[.int .i64 9, .int .i64 2, .int .i64 114, .int .i64 114, .int .i64 2, .int .i64 3, .int .i64 4, .int .i64 0, .int .i64 0] 40) = W5 at *
  generalize w4.heap.size = xb at *
  obtain ⟨e0, e1, e2, e3, e4, e5, e6, e7, e8⟩ := nine_cells HE5.out
  have HSM := sameT_any awRp awRp a3 (some ⟨bb, oo, none⟩) 2 c3 2 c W5 HT5.out HS5.out rfl rfl (by decide)
  rw [decide_eq_true rfl] at HSM
  have HSM2 := Lib.hid HSM
  clear HSM
  go_wp2_with fail
  refine HSM2.out.mono ?_
  rintro e w6 ⟨rfl, hb6⟩
  have HB6 := Lib.hid (below_step HB5.out hb6)
  obtain ⟨f0, f1, f2, f3, f4, f5, f6, f7, f8⟩ := nine_cells (blkBelow hb6 HE5.out)
  clear hb6 e0 e1 e2 e3 e4 e5 e6 e7 e8
  go_wp2
  go_ret
  exact ⟨rfl, HB6.out⟩
end Go.Proofs.Ytpmjgiabedjlgaa
