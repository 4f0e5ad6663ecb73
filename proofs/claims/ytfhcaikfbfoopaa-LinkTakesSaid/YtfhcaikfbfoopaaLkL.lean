/-
  LINK, THE REFERENCE: the ways of Take that change nothing.
-/
import Derived.Test.YtfhcaikfbfoopaaProg
import Derived.Test.YtfhcaikfbfoopaaBase1
import Derived.Test.YtfhcaikfbfoopaaBase2
import Derived.Test.YtfhcaikfbfoopaaBase3
import Derived.Test.YtfhcaikfbfoopaaBase5
import Derived.Test.YtfhcaikfbfoopaaBase6
import Derived.Test.YtfhcaikfbfoopaaBase11
import Derived.Test.YtfhcaikfbfoopaaBase13
import Derived.Test.YtfhcaikfbfoopaaBase14
import Derived.Test.YtfhcaikfbfoopaaHeld
import Derived.Test.YtfhcaikfbfoopaaFlat
import Derived.Test.YtfhcaikfbfoopaaLkP
import Derived.Test.YtfhcaikfbfoopaaLk1
import Derived.Test.YtfhcaikfbfoopaaLk2
import Derived.Test.YtfhcaikfbfoopaaLk3
import Derived.Test.YtfhcaikfbfoopaaLk6
import Derived.Test.YtfhcaikfbfoopaaLk9
import Derived.Test.YtfhcaikfbfoopaaLkS
import Derived.Test.YtfhcaikfbfoopaaLkM
import Derived.Test.YtfhcaikfbfoopaaLkF
import Derived.Test.YtfhcaikfbfoopaaLkG
import Derived.Test.YtfhcaikfbfoopaaLkJ
import Derived.Test.YtfhcaikfbfoopaaLkK
import Derived.BigQuiet
import Derived.Laws.StructEq
import Derived.StillTailTactics
import Derived.RegionTactic
import Derived.BigRegion
import Derived.Deep.RegionHeld3
import Derived.Deep.RegionLaw
import Derived.Deep.DeepCutAuto
import Derived.Deep.QuietTactic
import Derived.WalkSpells
import Derived.WalkLawsBesides
namespace Go.Proofs.Ytfhcaikfbfoopaa
open Go.RowKit Go.Maps
set_option linter.unusedVariables false

set_option maxRecDepth 100000 in
theorem refTake_neg (W : World) (oa : Option Addr) (n oc : Nat) (ka : Option Addr) (m kc : Nat) (s : Int) (fa : Option Addr) (fl fc : Nat) (h1 : s < 0) :
    Calls Try.prog 30 #[.agg #[.slice oa n oc, .slice ka m kc], .agg #[.int .i64 s, .slice fa fl fc]] W (RetB (.tuple #[.agg #[.slice oa n oc, .slice ka m kc], .int .i64 1]) W) := by
  go_enter Try.func30, Try.ntmps30
  go_wp2
  refine bodyPost_ret (v := .tuple #[.agg #[.slice oa n oc, .slice ka m kc], .int .i64 1]) ?_ rfl ⟨rfl, ?_⟩
  · rw [results_cell_tmpF rfl]
    go_simp
  · exact below_step (below_step (below_alloc _ _) (below_alloc _ _)) (below_alloc _ _)
set_option maxRecDepth 100000 in
theorem refTake_big (W : World) (oa : Option Addr) (n oc : Nat) (ka : Option Addr) (m kc : Nat) (s : Int) (fa : Option Addr) (fl fc : Nat) (h1 : ¬ s < 0) (h2 : 1048576 ≤ s) :
    Calls Try.prog 30 #[.agg #[.slice oa n oc, .slice ka m kc], .agg #[.int .i64 s, .slice fa fl fc]] W (RetB (.tuple #[.agg #[.slice oa n oc, .slice ka m kc], .int .i64 1]) W) := by
  go_enter Try.func30, Try.ntmps30
  go_wp2
  refine bodyPost_ret (v := .tuple #[.agg #[.slice oa n oc, .slice ka m kc], .int .i64 1]) ?_ rfl ⟨rfl, ?_⟩
  · rw [results_cell_tmpF rfl]
    go_simp
  · exact below_step (below_step (below_alloc _ _) (below_alloc _ _)) (below_alloc _ _)
set_option maxRecDepth 100000 in
theorem refTake_long (W : World) (oa : Option Addr) (n oc : Nat) (ka : Option Addr) (m kc : Nat) (s : Int) (fa : Option Addr) (fl fc : Nat) (h1 : ¬ s < 0) (h2 : ¬ 1048576 ≤ s) (h3 : (256 : Int) < (fl : Int)) :
    Calls Try.prog 30 #[.agg #[.slice oa n oc, .slice ka m kc], .agg #[.int .i64 s, .slice fa fl fc]] W (RetB (.tuple #[.agg #[.slice oa n oc, .slice ka m kc], .int .i64 1]) W) := by
  go_enter Try.func30, Try.ntmps30
  go_wp2
  refine bodyPost_ret (v := .tuple #[.agg #[.slice oa n oc, .slice ka m kc], .int .i64 1]) ?_ rfl ⟨rfl, ?_⟩
  · rw [results_cell_tmpF rfl]
    go_simp
  · exact below_step (below_step (below_alloc _ _) (below_alloc _ _)) (below_alloc _ _)
set_option maxRecDepth 100000 in
theorem refTake_full (W : World) (oa : Option Addr) (n oc : Nat) (ka : Option Addr) (m kc : Nat) (s : Int) (fa : Option Addr) (fl fc : Nat) (h1 : ¬ s < 0) (h2 : ¬ 1048576 ≤ s) (h3 : ¬ (256 : Int) < (fl : Int)) (hn : n ≤ 1000000) (h4 : (n : Int) + 16 ≤ s) :
    Calls Try.prog 30 #[.agg #[.slice oa n oc, .slice ka m kc], .agg #[.int .i64 s, .slice fa fl fc]] W (RetB (.tuple #[.agg #[.slice oa n oc, .slice ka m kc], .int .i64 8]) W) := by
  go_enter Try.func30, Try.ntmps30
  go_wp2
  refine bodyPost_ret (v := .tuple #[.agg #[.slice oa n oc, .slice ka m kc], .int .i64 8]) ?_ rfl ⟨rfl, ?_⟩
  · rw [results_cell_tmpF rfl]
    go_simp
  · exact below_step (below_step (below_alloc _ _) (below_alloc _ _)) (below_alloc _ _)
theorem ba_ne {x y : List UInt8} (h : ¬ x = y) : ¬ (⟨x.toArray⟩ : ByteArray) = ⟨y.toArray⟩ := fun e => h (by simpa using e)
set_option maxRecDepth 100000 in
set_option maxHeartbeats 4000000 in
theorem refTake_out (W : World) (oa : Option Addr) (n oc : Nat) (ka : Option Addr) (m kc : Nat) (q : Nat) (fa : Option Addr) (fl fc : Nat) (all : List (List UInt8)) (bs : List UInt8) (hs : Sl W 1 oa n oc (cs stb all)) (hf : Sl W 1 fa fl fc (cs b8 bs)) (h2 : ¬ 1048576 ≤ (q : Int)) (h3 : ¬ (256 : Int) < (fl : Int)) (hn : n ≤ 1000000) (h4 : q < n) (er : Int) (he : Hid (er = if all.getD q [] = bs then 0 else 21)) :
    Calls Try.prog 30 #[.agg #[.slice oa n oc, .slice ka m kc], .agg #[.int .i64 (q : Int), .slice fa fl fc]] W (RetB (.tuple #[.agg #[.slice oa n oc, .slice ka m kc], .int .i64 er]) W) := by
  have h4' : (q : Int) < (n : Int) := by omega
  have h5 : ¬ (n : Int) + 16 ≤ (q : Int) := by omega
  have h0 : ¬ (q : Int) < 0 := by omega
  have hq0 : (0 : Int) ≤ (q : Int) := by omega
  have hb1 := below_step (below_step (below_alloc W (.cells #[.slice oa n oc, .slice ka m kc] 54)) (below_alloc _ (.cells #[.int .i64 (q : Int), .slice fa fl fc] 56))) (below_alloc _ (.cells #[.slice none 0 0, .slice none 0 0] 54))
  have HB1 := Lib.hid hb1
  have HX : Hid (BlkAt (((W.alloc (.cells #[.slice oa n oc, .slice ka m kc] 54)).alloc (.cells #[.int .i64 (q : Int), .slice fa fl fc] 56)).alloc (.cells #[.slice none 0 0, .slice none 0 0] 54)) W.heap.size #[.slice oa n oc, .slice ka m kc] ∧ BlkAt (((W.alloc (.cells #[.slice oa n oc, .slice ka m kc] 54)).alloc (.cells #[.int .i64 (q : Int), .slice fa fl fc] 56)).alloc (.cells #[.slice none 0 0, .slice none 0 0] 54)) (W.heap.size + 1) #[.int .i64 (q : Int), .slice fa fl fc] ∧ BlkAt (((W.alloc (.cells #[.slice oa n oc, .slice ka m kc] 54)).alloc (.cells #[.int .i64 (q : Int), .slice fa fl fc] 56)).alloc (.cells #[.slice none 0 0, .slice none 0 0] 54)) (W.heap.size + 1 + 1) #[.slice none 0 0, .slice none 0 0]) := Lib.hid ⟨blkOld (blkOld (blkNew rfl)), blkOld (blkNew (by simp)), blkNew (by simp)⟩
  obtain ⟨b, off, e, hc⟩ := hs.at_ q h4 []
  subst e
  have hc' := cell_keep hb1 hc
  have hcv : ∀ k, (convert 22 9 (.slice fa fl fc)).run Try.prog (World.drewN (((W.alloc (.cells #[.slice (some ⟨b, off, none⟩) n oc, .slice ka m kc] 54)).alloc (.cells #[.int .i64 (q : Int), .slice fa fl fc] 56)).alloc (.cells #[.slice none 0 0, .slice none 0 0] 54)) k) = .ok (.string ⟨bs.toArray⟩) (World.drewN (((W.alloc (.cells #[.slice (some ⟨b, off, none⟩) n oc, .slice ka m kc] 54)).alloc (.cells #[.int .i64 (q : Int), .slice fa fl fc] 56)).alloc (.cells #[.slice none 0 0, .slice none 0 0] 54)) k) := fun k => run_b2s _ 22 9 5 Try.underlying22 Try.underlying9 Try.underlying5 (hf.ext (below_drewN hb1 k))
  unfold stb at hc'
  generalize all.getD q [] = x at *
  clear hs hf hc hb1
  go_enter Try.func30, Try.ntmps30
  go_upto_region 1 with (fail)
  generalize ((W.alloc (.cells #[.slice (some ⟨b, off, none⟩) n oc, .slice ka m kc] 54)).alloc (.cells #[.int .i64 (q : Int), .slice fa fl fc] 56)).alloc (.cells #[.slice none 0 0, .slice none 0 0] 54) = W1 at *
  obtain ⟨c0, c1, _, _⟩ := two_facts HX.out.1
  obtain ⟨d0, d1, _, _⟩ := two_facts HX.out.2.1
  obtain ⟨z0, z1, y0, y1⟩ := two_facts HX.out.2.2
  by_cases hx : x = bs
  · rw [if_pos hx] at he
    have hE := he.out
    subst hE
    subst hx
    go_upto_region 6 with (fail)
    go_quiet (fail)
    go_wp2
    refine bodyPost_ret (v := .tuple #[.agg #[.slice (some ⟨b, off, none⟩) n oc, .slice ka m kc], .int .i64 0]) ?_ rfl ⟨rfl, ?_⟩
    · rw [results_cell_tmpF rfl]
      go_simp
    · exact below_set_new (below_set_new (below_drewN HB1.out _) (by omega)) (by omega)
  · rw [if_neg hx] at he
    have hE := he.out
    subst hE
    have hx2 := ba_ne hx
    have hx3 : (x == bs) = false := beq_eq_false_iff_ne.2 hx
    go_upto_region 6 with (fail)
    go_quiet (fail)
    go_wp2
    refine bodyPost_ret (v := .tuple #[.agg #[.slice (some ⟨b, off, none⟩) n oc, .slice ka m kc], .int .i64 21]) ?_ rfl ⟨rfl, ?_⟩
    · rw [results_cell_tmpF rfl]
      go_simp
    · exact below_set_new (below_set_new (below_drewN HB1.out _) (by omega)) (by omega)
set_option maxRecDepth 100000 in
set_option maxHeartbeats 4000000 in
theorem refTake_kept (W : World) (oa : Option Addr) (n oc : Nat) (ka : Option Addr) (m kc : Nat) (q : Nat) (fa : Option Addr) (fl fc : Nat) (K : List FrL) (x bs : List UInt8) (hl : K.length = m) (hk : Sl W 2 ka m kc (flatV frA K)) (hb : ∀ x ∈ K, Sl W 1 x.b.a x.b.bs.length x.b.c (cs b8 x.b.bs)) (hm : m ≤ 1000) (hf : Sl W 1 fa fl fc (cs b8 bs)) (h2 : ¬ 1048576 ≤ (q : Int)) (h3 : ¬ (256 : Int) < (fl : Int)) (hn : n ≤ 1000000) (h4 : ¬ (n : Int) + 16 ≤ (q : Int)) (h5 : ¬ (q : Int) < (n : Int)) (hR : Hid (lookK K (q : Int) = some x)) (er : Int) (he : Hid (er = if x = bs then 0 else 21)) :
    Calls Try.prog 30 #[.agg #[.slice oa n oc, .slice ka m kc], .agg #[.int .i64 (q : Int), .slice fa fl fc]] W (RetB (.tuple #[.agg #[.slice oa n oc, .slice ka m kc], .int .i64 er]) W) := by
  have h0 : ¬ (q : Int) < 0 := by omega
  have hq0 : (0 : Int) ≤ (q : Int) := by omega
  have hb1 := below_step (below_step (below_alloc W (.cells #[.slice oa n oc, .slice ka m kc] 54)) (below_alloc _ (.cells #[.int .i64 (q : Int), .slice fa fl fc] 56))) (below_alloc _ (.cells #[.slice none 0 0, .slice none 0 0] 54))
  have HB1 := Lib.hid hb1
  have HX : Hid (BlkAt (((W.alloc (.cells #[.slice oa n oc, .slice ka m kc] 54)).alloc (.cells #[.int .i64 (q : Int), .slice fa fl fc] 56)).alloc (.cells #[.slice none 0 0, .slice none 0 0] 54)) W.heap.size #[.slice oa n oc, .slice ka m kc] ∧ BlkAt (((W.alloc (.cells #[.slice oa n oc, .slice ka m kc] 54)).alloc (.cells #[.int .i64 (q : Int), .slice fa fl fc] 56)).alloc (.cells #[.slice none 0 0, .slice none 0 0] 54)) (W.heap.size + 1) #[.int .i64 (q : Int), .slice fa fl fc] ∧ BlkAt (((W.alloc (.cells #[.slice oa n oc, .slice ka m kc] 54)).alloc (.cells #[.int .i64 (q : Int), .slice fa fl fc] 56)).alloc (.cells #[.slice none 0 0, .slice none 0 0] 54)) (W.heap.size + 1 + 1) #[.slice none 0 0, .slice none 0 0]) := Lib.hid ⟨blkOld (blkOld (blkNew rfl)), blkOld (blkNew (by simp)), blkNew (by simp)⟩
  have HKP : Hid (∀ W', Below W.heap.size W W' → Calls Try.prog 48 #[.agg #[.slice oa n oc, .slice ka m kc], .int .i64 (q : Int)] W' (fun e W'' => e = .returned (.tuple #[.string ⟨x.toArray⟩, .bool true]) ∧ Below W'.heap.size W' W'')) := Lib.hid (fun W' hb' => kept_any W' oa n oc ka m kc K (q : Int) hl (hk.ext hb') (fun y hy => (hb y hy).ext hb') hm (some x) hR)
  have HCV : Hid (∀ W', Below W.heap.size W W' → (convert 22 9 (.slice fa fl fc)).run Try.prog W' = .ok (.string ⟨bs.toArray⟩) W') := Lib.hid (fun W' hb' => run_b2s W' 22 9 5 Try.underlying22 Try.underlying9 Try.underlying5 (hf.ext hb'))
  clear hb hk hf hb1 hR
  go_enter Try.func30, Try.ntmps30
  go_upto_region 1 with (fail)
  generalize ((W.alloc (.cells #[.slice oa n oc, .slice ka m kc] 54)).alloc (.cells #[.int .i64 (q : Int), .slice fa fl fc] 56)).alloc (.cells #[.slice none 0 0, .slice none 0 0] 54) = W1 at *
  obtain ⟨c0, c1, _, _⟩ := two_facts HX.out.1
  obtain ⟨d0, d1, _, _⟩ := two_facts HX.out.2.1
  obtain ⟨z0, z1, y0, y1⟩ := two_facts HX.out.2.2
  go_wp2_with fail
  refine (HKP.out _ HB1.out).mono ?_
  rintro e w5 ⟨rfl, hb5⟩
  have HB5 := Lib.hid (below_step HB1.out hb5)
  have HX5 : Hid (BlkAt w5 W.heap.size #[.slice oa n oc, .slice ka m kc] ∧ BlkAt w5 (W.heap.size + 1) #[.int .i64 (q : Int), .slice fa fl fc] ∧ BlkAt w5 (W.heap.size + 1 + 1) #[.slice none 0 0, .slice none 0 0]) := Lib.hid ⟨blkBelow hb5 HX.out.1, blkBelow hb5 HX.out.2.1, blkBelow hb5 HX.out.2.2⟩
  clear c0 c1 d0 d1 z0 z1 y0 y1 hb5
  obtain ⟨c0, c1, _, _⟩ := two_facts HX5.out.1
  obtain ⟨d0, d1, _, _⟩ := two_facts HX5.out.2.1
  obtain ⟨z0, z1, y0, y1⟩ := two_facts HX5.out.2.2
  have hcv := HCV.out _ HB5.out
  by_cases hx : x = bs
  · rw [if_pos hx] at he
    have hE := he.out
    subst hE
    subst hx
    go_wp2
    refine bodyPost_ret (v := .tuple #[.agg #[.slice oa n oc, .slice ka m kc], .int .i64 0]) ?_ rfl ⟨rfl, ?_⟩
    · rw [results_cell_tmpF rfl]
      go_simp
    · exact below_set_new (below_set_new HB5.out (by omega)) (by omega)
  · rw [if_neg hx] at he
    have hE := he.out
    subst hE
    have hx2 := ba_ne hx
    have hx3 : (x == bs) = false := beq_eq_false_iff_ne.2 hx
    go_wp2
    refine bodyPost_ret (v := .tuple #[.agg #[.slice oa n oc, .slice ka m kc], .int .i64 21]) ?_ rfl ⟨rfl, ?_⟩
    · rw [results_cell_tmpF rfl]
      go_simp
    · exact below_set_new (below_set_new HB5.out (by omega)) (by omega)
end Go.Proofs.Ytfhcaikfbfoopaa
