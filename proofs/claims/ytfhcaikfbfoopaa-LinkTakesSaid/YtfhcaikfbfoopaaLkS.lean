/-
  LINK, THE LAWS: SameBodies, pick; strings in a row.
-/
import Derived.Test.YtfhcaikfbfoopaaProg
import Derived.Test.YtfhcaikfbfoopaaBase1
import Derived.Test.YtfhcaikfbfoopaaBase2
import Derived.Test.YtfhcaikfbfoopaaBase3
import Derived.Test.YtfhcaikfbfoopaaBase5
import Derived.Test.YtfhcaikfbfoopaaBase6
import Derived.Test.YtfhcaikfbfoopaaBase11
import Derived.Test.YtfhcaikfbfoopaaBase14
import Derived.Test.YtfhcaikfbfoopaaHeld
import Derived.Test.YtfhcaikfbfoopaaLkP
import Derived.Test.YtfhcaikfbfoopaaLk1
import Derived.Test.YtfhcaikfbfoopaaLk2
import Derived.Test.YtfhcaikfbfoopaaLk5
import Derived.Test.YtfhcaikfbfoopaaLk6
import Derived.Test.YtfhcaikfbfoopaaLk7
import Derived.Test.YtfhcaikfbfoopaaLk9
import Derived.Test.YtfhcaikfbfoopaaLkT
import Derived.BigQuiet
import Derived.Laws.StructEq
import Derived.StillTailTactics
import Derived.RegionTactic
import Derived.Deep.DeepCutAuto
import Derived.Deep.QuietTactic
import Derived.WalkSpells
import Derived.WalkLawsBesides
namespace Go.Proofs.Ytfhcaikfbfoopaa
open Go.RowKit Go.Maps
set_option linter.unusedVariables false

def stb (bs : List UInt8) : Value := .string ⟨bs.toArray⟩
theorem stb_one (bs : List UInt8) : (stb bs).oneCell' = true := rfl
theorem infoS : (Try.prog.info? 9).map (fun i => (i.zero, i.size, i.bytes)) = some (some (.string ⟨#[]⟩), 1, 16) := by kernel_rfl
theorem stb_all (bs : List UInt8) : ∀ u ∈ (#[stb bs] : Array Value).toList, u.oneCell' = true := by
  intro u hu
  simp at hu
  subst hu
  rfl
set_option maxRecDepth 100000 in
theorem pick_any (m : Int) (k : Nat) (hk : 0 < k) (hk2 : (k : Int) ≤ 1000000) (W : World) : Calls Try.prog 37 #[.int .i64 m, .int .i64 (k : Int)] W (fun e W' => ∃ i : Nat, i < k ∧ e = .returned (.int .i64 (i : Int)) ∧ W' = W) := by
  have hk0 : ¬ (k : Int) = 0 := by omega
  have hlt := Int.tmod_lt_of_pos m (show (0 : Int) < (k : Int) by omega)
  have hgt : -(k : Int) < m.tmod (k : Int) := by
    have := Int.tmod_lt_of_pos (-m) (show (0 : Int) < (k : Int) by omega)
    rw [Int.neg_tmod] at this
    omega
  obtain ⟨R, hR⟩ : ∃ R, m.tmod (k : Int) = R := ⟨_, rfl⟩
  rw [hR] at hlt hgt
  by_cases hneg : R < 0
  · go_enter Try.func37, Try.ntmps37
    go_wp2
    go_ret
    exact ⟨(R + k).toNat, by omega, by go_num, rfl⟩
  · go_enter Try.func37, Try.ntmps37
    go_wp2
    go_ret
    exact ⟨R.toNat, by omega, by go_num, rfl⟩
set_option maxRecDepth 100000 in
set_option maxHeartbeats 2000000 in
theorem same_yes (W : World) (a a2 : Option Addr) (n c c2 : Nat) (ys : List Bv) (hn9 : (n : Int) ≤ 1000000) (hn : ys.length = n) (hs : Sl W 1 a n c (cs bsv ys)) (hb : ∀ y ∈ ys, Sl W 1 y.a y.bs.length y.c (cs b8 y.bs)) (hs2 : Sl W 1 a2 n c2 (cs stb (ys.map Bv.bs))) :
    Calls Try.prog 32 #[.slice a n c, .slice a2 n c2] W (fun e W' => e = .returned (.bool true) ∧ Below W.heap.size W W') := by
  have HS := Lib.hid hs
  have HS2 := Lib.hid hs2
  have HB := Lib.hid hb
  have HN := Lib.hid hn
  clear hs hb hs2 hn
  go_enter Try.func32, Try.ntmps32
  go_upto_region 4 with (fail)
  go_loopw [5] (fun i wr => ∃ k : Nat, k ≤ n ∧ i = .int .i64 (k : Int) ∧ Hid (Below W.heap.size W wr)) (fun i _ => n - (intOf i).toNat)
  case atStart => exact ⟨0, by omega, rfl, Below.refl _ _⟩
  case round =>
    obtain ⟨k, hk, rfl, HW⟩ := hrel
    have hk0 : (0 : Int) ≤ (k : Int) := by omega
    by_cases hkn : k < n
    · have hkn' : (k : Int) < (n : Int) := by omega
      obtain ⟨b1, o1, e, hc1⟩ := HS.out.at_ k hkn nilB
      subst e
      obtain ⟨b2, o2, e, hc2⟩ := HS2.out.at_ k hkn []
      subst e
      have hkl : k < ys.length := by rw [HN.out]; exact hkn
      have hy := HB.out (ys.getD k nilB) (by rw [List.getD_eq_getElem?_getD, List.getElem?_eq_getElem hkl]; exact List.getElem_mem _)
      rw [getD_map_bs ys k hkl] at hc2
      generalize ys.getD k nilB = y at *
      obtain ⟨ya, yc, yb⟩ := y
      have hc1' := cell_keep HW.out hc1
      have hc2' := cell_keep HW.out hc2
      unfold bsv at hc1'
      unfold stb at hc2'
      dsimp only at hc1' hc2' hy
      have hcv : ∀ m, (convert 22 9 (.slice ya yb.length yc)).run Try.prog (wr.drewN m) = .ok (.string ⟨yb.toArray⟩) (wr.drewN m) := fun m => run_b2s (wr.drewN m) 22 9 5 Try.underlying22 Try.underlying9 Try.underlying5 (hy.ext (below_drewN HW.out m))
      clear hc1 hc2 hy
      go_wp2
      go_quiet (fail)
      go_wp2
      go_roundw
      case rel => exact ⟨k + 1, by omega, by go_num, by first | exact HW | exact Lib.hid (below_drewN HW.out _)⟩
      case measure => simp [intOf]; omega
    · have hkn' : ¬ (k : Int) < (n : Int) := by omega
      go_wp2
      go_ret
      exact ⟨rfl, HW.out⟩
end Go.Proofs.Ytfhcaikfbfoopaa
