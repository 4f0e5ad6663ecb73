/-
  LINK, THE REFERENCE: a receiver, kept and the ways of Take that change nothing.
-/
import Derived.Test.YtfhcaikfbfoopaaProg
import Derived.Test.YtfhcaikfbfoopaaBase1
import Derived.Test.YtfhcaikfbfoopaaBase2
import Derived.Test.YtfhcaikfbfoopaaBase3
import Derived.Test.YtfhcaikfbfoopaaBase5
import Derived.Test.YtfhcaikfbfoopaaBase6
import Derived.Test.YtfhcaikfbfoopaaBase11
import Derived.Test.YtfhcaikfbfoopaaBase13
import Derived.Test.YtfhcaikfbfoopaaBase14
import Derived.Test.YtfhcaikfbfoopaaHeld
import Derived.Test.YtfhcaikfbfoopaaFlat
import Derived.Test.YtfhcaikfbfoopaaLkP
import Derived.Test.YtfhcaikfbfoopaaLk1
import Derived.Test.YtfhcaikfbfoopaaLk2
import Derived.Test.YtfhcaikfbfoopaaLk3
import Derived.Test.YtfhcaikfbfoopaaLk6
import Derived.Test.YtfhcaikfbfoopaaLk9
import Derived.Test.YtfhcaikfbfoopaaLkS
import Derived.Test.YtfhcaikfbfoopaaLkM
import Derived.Test.YtfhcaikfbfoopaaLkF
import Derived.Test.YtfhcaikfbfoopaaLkG
import Derived.Test.YtfhcaikfbfoopaaLkJ
import Derived.BigQuiet
import Derived.Laws.StructEq
import Derived.StillTailTactics
import Derived.RegionTactic
import Derived.BigRegion
import Derived.Deep.RegionHeld3
import Derived.Deep.RegionLaw
import Derived.Deep.DeepCutAuto
import Derived.Deep.QuietTactic
import Derived.WalkSpells
import Derived.WalkLawsBesides
namespace Go.Proofs.Ytfhcaikfbfoopaa
open Go.RowKit Go.Maps
set_option linter.unusedVariables false

theorem lookK_at (K : List FrL) (j : Nat) (hj : j < K.length) (s : Int) : lookK (K.drop j) s = if (K.getD j FrL.zero).s = s then some (K.getD j FrL.zero).b.bs else lookK (K.drop (j + 1)) s := by
  rw [List.getD_eq_getElem?_getD, List.getElem?_eq_getElem hj, Option.getD_some, List.drop_eq_getElem_cons hj]
  rfl
set_option maxRecDepth 100000 in
set_option maxHeartbeats 4000000 in
theorem kept_any (W : World) (oa : Option Addr) (n oc : Nat) (ka : Option Addr) (m kc : Nat) (K : List FrL) (s : Int) (hl : K.length = m) (hk : Sl W 2 ka m kc (flatV frA K)) (hb : ∀ x ∈ K, Sl W 1 x.b.a x.b.bs.length x.b.c (cs b8 x.b.bs)) (hm : m ≤ 1000) (R : Option (List UInt8)) (hR : Hid (lookK K s = R)) :
    Calls Try.prog 48 #[.agg #[.slice oa n oc, .slice ka m kc], .int .i64 s] W (fun e W' => e = .returned (.tuple #[.string ⟨(R.getD []).toArray⟩, .bool R.isSome]) ∧ Below W.heap.size W W') := by
  have HX : Hid (BlkAt (W.alloc (.cells #[.slice oa n oc, .slice ka m kc] 54)) W.heap.size #[.slice oa n oc, .slice ka m kc]) := Lib.hid (blkNew rfl)
  have HB1 : Hid (Below W.heap.size W (W.alloc (.cells #[.slice oa n oc, .slice ka m kc] 54))) := Lib.hid (below_alloc _ _)
  have HK := Lib.hid hk
  have HL := Lib.hid hl
  have HB := Lib.hid hb
  clear hk hl hb
  go_enter Try.func48, Try.ntmps48
  have hsz : W.heap.size < (W.alloc (.cells #[.slice oa n oc, .slice ka m kc] 54)).heap.size := by simp
  go_upto_region 2 with (fail)
  generalize W.alloc (.cells #[.slice oa n oc, .slice ka m kc] 54) = W1 at *
  go_loopw [6] (fun i wr => ∃ j : Nat, j ≤ m ∧ i = .int .i64 (j : Int) ∧ Hid (lookK (K.drop j) s = R) ∧ Hid (Below W1.heap.size W1 wr)) (fun i _ => m - (intOf i).toNat)
  case atStart => exact ⟨0, by omega, rfl, by rw [List.drop_zero]; exact hR, Lib.hid (Below.refl _ _)⟩
  case round =>
    obtain ⟨j, hj, rfl, HR, HW⟩ := hrel
    have hj0 : (0 : Int) ≤ (j : Int) := by omega
    have HX2 := Lib.hid (blkLow HW.out hsz HX.out)
    obtain ⟨c0, c1, _, _⟩ := two_facts HX2.out
    have hbw := Lib.hid (below_step HB1.out HW.out)
    by_cases hjm : j < m
    · have hjm' : (j : Int) < (m : Int) := by omega
      obtain ⟨o1, m1, e, hc1⟩ := flat_at FrL.zero frA 2 (by decide) (fun _ => rfl) HK.out HL.out j hjm
      subst e
      have hat := lookK_at K j (by rw [HL.out]; exact hjm) s
      have hy := HB.out (K.getD j FrL.zero) (by rw [List.getD_eq_getElem?_getD, List.getElem?_eq_getElem (by rw [HL.out]; exact hjm)]; exact List.getElem_mem _)
      rw [HR.out] at hat
      generalize K.getD j FrL.zero = x at *
      obtain ⟨xs, xa, xc, xb⟩ := x
      dsimp only at hat hy
      have p0 : wr.cell? ⟨o1, m1 + j * 2, none⟩ = some (.int .i64 xs) := cell_keep hbw.out (hc1 0 _ rfl)
      have p1 : wr.cell? ⟨o1, m1 + j * 2 + 1, none⟩ = some (.slice xa xb.length xc) := cell_keep hbw.out (hc1 1 _ rfl)
      have hcv : (convert 22 9 (.slice xa xb.length xc)).run Try.prog wr = .ok (.string ⟨xb.toArray⟩) wr := run_b2s wr 22 9 5 Try.underlying22 Try.underlying9 Try.underlying5 (hy.ext hbw.out)
      clear hc1 hy
      by_cases hxs : xs = s
      · rw [if_pos hxs] at hat
        subst hxs
        subst hat
        go_wp2
        go_ret2
        exact ⟨rfl, hbw.out⟩
      · rw [if_neg hxs] at hat
        have HAT := Lib.hid hat.symm
        clear hat
        go_wp2
        go_roundw
        case rel => exact ⟨j + 1, by omega, by go_num, HAT, HW⟩
        case measure => simp [intOf]; omega
    · have hjm' : ¬ (j : Int) < (m : Int) := by omega
      have hat := HR.out
      rw [List.drop_of_length_le (by rw [HL.out]; omega)] at hat
      subst hat
      go_wp2
      go_ret2
      exact ⟨rfl, hbw.out⟩
end Go.Proofs.Ytfhcaikfbfoopaa
