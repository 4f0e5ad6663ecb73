/-
  LINK, THE REFERENCE: Put, Ack, Frames, SameFrames.
-/
import Derived.Test.YtfhcaikfbfoopaaProg
import Derived.Test.YtfhcaikfbfoopaaBase1
import Derived.Test.YtfhcaikfbfoopaaBase2
import Derived.Test.YtfhcaikfbfoopaaBase3
import Derived.Test.YtfhcaikfbfoopaaBase5
import Derived.Test.YtfhcaikfbfoopaaBase6
import Derived.Test.YtfhcaikfbfoopaaBase11
import Derived.Test.YtfhcaikfbfoopaaBase13
import Derived.Test.YtfhcaikfbfoopaaBase14
import Derived.Test.YtfhcaikfbfoopaaHeld
import Derived.Test.YtfhcaikfbfoopaaFlat
import Derived.Test.YtfhcaikfbfoopaaLkP
import Derived.Test.YtfhcaikfbfoopaaLk1
import Derived.Test.YtfhcaikfbfoopaaLk2
import Derived.Test.YtfhcaikfbfoopaaLk3
import Derived.Test.YtfhcaikfbfoopaaLk6
import Derived.Test.YtfhcaikfbfoopaaLk9
import Derived.Test.YtfhcaikfbfoopaaLkS
import Derived.BigQuiet
import Derived.Laws.StructEq
import Derived.StillTailTactics
import Derived.RegionTactic
import Derived.BigRegion
import Derived.Deep.RegionHeld3
import Derived.Deep.RegionLaw
import Derived.Deep.DeepCutAuto
import Derived.Deep.QuietTactic
import Derived.WalkSpells
import Derived.WalkLawsBesides
namespace Go.Proofs.Ytfhcaikfbfoopaa
open Go.RowKit Go.Maps
set_option linter.unusedVariables false

theorem results_cell_tmp2 {fn : Func} {p q r : Tmp} {ty : TypeId} (h : fn.results = #[.cell p ty, .tmp q, .tmp r]) (tmps : Array Value) (P : Program) (w : World) :
    (results fn tmps).run P w = ((asAddr (tmps.getD p undef)).run P w).andThen fun a w1 => ((loadVar ty a).run P w1).andThen fun v w2 => .ok (.tuple #[v, tmps.getD q undef, tmps.getD r undef]) w2 := by
  simp only [results, h]
  simp [Sem.run_bind, Result.andThen]
  done
theorem results_cell_tmpF {fn : Func} {p q : Tmp} {ty : TypeId} (h : fn.results = #[.cell p ty, .tmp q]) (tmps : Array Value) (P : Program) (w : World) :
    (results fn tmps).run P w = ((asAddr (tmps.getD p undef)).run P w).andThen fun a w1 => ((loadVar ty a).run P w1).andThen fun v w2 => .ok (.tuple #[v, tmps.getD q undef]) w2 := by
  simp only [results, h]
  simp [Sem.run_bind, Result.andThen]
  done
theorem sl_blkF {W : World} {g : Nat} {α : Type} {f : α → Value} {xs : List α} {C : Array Value} (h : BlkAt W g C) (hC : C = (cs f xs).toArray) (n : Nat) (hn : n = xs.length) (hm : n ≤ 1000000000) : Sl W 1 (some ⟨g, 0, none⟩) n n (cs f xs) := by
  obtain ⟨E, h⟩ := h
  subst hC; subst hn
  refine ⟨by rw [cs_length]; omega, Nat.le_refl _, by unfold maxLen; omega, (fun h => by cases h), fun j u hj => ⟨g, 0, rfl, ?_⟩⟩
  rw [Nat.zero_add, cell_of_row _ _ _ _ _ _ h]
  simpa using hj
theorem blkX_setF {W : World} {k i : Nat} {C : Array Value} {v : Value} (h : BlkAt W k C) : BlkAt (W.setCell ⟨k, i, none⟩ v) k (C.setIfInBounds i v) := h.elim fun E h => ⟨E, heap_setCell_same W k i _ E v h⟩
theorem blkX_farF {W : World} {k k' i : Nat} {C : Array Value} {v : Value} (h : BlkAt W k C) (hne : k ≠ k') : BlkAt (W.setCell ⟨k', i, none⟩ v) k C := h.elim fun E h => ⟨E, by rw [heap_setCell_other _ _ _ _ hne]; exact h⟩
theorem slDrewF {α : Type} {f : α → Value} {W : World} {a : Option Addr} {n c : Nat} {l : List α} (h : Hid (Sl W 1 a n c (cs f l))) : Hid (Sl W.drew 1 a n c (cs f l)) := h.out.ext (Below.refl _ W).drew
theorem slAllocF {α : Type} {f : α → Value} {W : World} {o : Obj} {a : Option Addr} {n c : Nat} {l : List α} (h : Hid (Sl W 1 a n c (cs f l))) : Hid (Sl (W.alloc o) 1 a n c (cs f l)) := h.out.ext (below_alloc _ _)
theorem stDrewF {W : World} {B n sz : Nat} {e : TypeId} {v : Value} {l : List Value} (h : Hid (W.ownsRow B e sz v n l)) : Hid (W.drew.ownsRow B e sz v n l) := ⟨h.out.1, h.out.2⟩
theorem stAllocF {W : World} {o : Obj} {B n sz : Nat} {e : TypeId} {v : Value} {l : List Value} (h : Hid (W.ownsRow B e sz v n l)) : Hid ((W.alloc o).ownsRow B e sz v n l) := ownsRow_ext h.out (below_alloc _ _)
theorem blkLow {B : Nat} {W W' : World} {k : Nat} {C : Array Value} (hb : Below B W W') (hk : k < B) (h : BlkAt W k C) : BlkAt W' k C := h.elim fun E h => ⟨E, by rw [hb.block k hk]; exact h⟩
theorem belowA {w W : World} (o : Obj) (h : Below w.heap.size w W) : Below w.heap.size w (W.alloc o) := below_step h (below_alloc _ _)
theorem below_set_new {w W : World} {k i : Nat} {v : Value} (h : Below w.heap.size w W) (hk : w.heap.size ≤ k) : Below w.heap.size w (W.setCell ⟨k, i, none⟩ v) := h.setCell (p := ⟨k, i, none⟩) hk v
set_option maxRecDepth 100000 in
theorem refPut_full (W : World) (sa : Option Addr) (n c ac : Nat) (a : Option Addr) (len cap : Nat) (h : (16 : Int) ≤ (n : Int) - (ac : Int)) (hn : n ≤ 1000000 ∧ ac ≤ 1000000) :
    Calls Try.prog 22 #[.agg #[.slice sa n c, .int .i64 (ac : Int)], .slice a len cap] W (RetB (.tuple #[.agg #[.slice sa n c, .int .i64 (ac : Int)], .int .i64 0, .int .i64 8]) W) := by
  obtain ⟨h1, h2⟩ := hn
  go_enter Try.func22, Try.ntmps22
  go_wp2
  refine bodyPost_ret (v := .tuple #[.agg #[.slice sa n c, .int .i64 (ac : Int)], .int .i64 0, .int .i64 8]) ?_ rfl ⟨rfl, ?_⟩
  · rw [results_cell_tmp2 rfl]
    go_simp
  · exact below_step (below_alloc _ _) (below_alloc _ _)
set_option maxRecDepth 100000 in
theorem refPut_long (W : World) (sa : Option Addr) (n c ac : Nat) (a : Option Addr) (len cap : Nat) (h : ¬ (16 : Int) ≤ (n : Int) - (ac : Int)) (hl : (256 : Int) < (len : Int)) (hn : n ≤ 1000000 ∧ ac ≤ 1000000) :
    Calls Try.prog 22 #[.agg #[.slice sa n c, .int .i64 (ac : Int)], .slice a len cap] W (RetB (.tuple #[.agg #[.slice sa n c, .int .i64 (ac : Int)], .int .i64 0, .int .i64 1]) W) := by
  obtain ⟨h1, h2⟩ := hn
  go_enter Try.func22, Try.ntmps22
  go_wp2
  refine bodyPost_ret (v := .tuple #[.agg #[.slice sa n c, .int .i64 (ac : Int)], .int .i64 0, .int .i64 1]) ?_ rfl ⟨rfl, ?_⟩
  · rw [results_cell_tmp2 rfl]
    go_simp
  · exact below_step (below_alloc _ _) (below_alloc _ _)
/-- What the reference's Put hands back. -/
def RPutRet (n ac : Nat) (all : List (List UInt8)) (W : World) (e : Ending) (W' : World) : Prop := ∃ sa sc, e = .returned (.tuple #[.agg #[.slice sa (n + 1) sc, .int .i64 (ac : Int)], .int .i64 (n : Int), .int .i64 0]) ∧ Hid (W'.ownsRow W.heap.size 9 1 (.slice sa (n + 1) sc) (n + 1) (cs stb all)) ∧ Below W.heap.size W W'
set_option maxRecDepth 100000 in
set_option maxHeartbeats 8000000 in
theorem refPut_ok (W : World) (sa : Option Addr) (n c ac : Nat) (all : List (List UInt8)) (a : Option Addr) (len cap : Nat) (bs : List UInt8) (h : ¬ (16 : Int) ≤ (n : Int) - (ac : Int)) (hl : ¬ (256 : Int) < (len : Int)) (hn : n ≤ 1000 ∧ ac ≤ 1000)
    (hsa : Sl W 1 sa n c (cs stb all)) (hs : Sl W 1 a len cap (cs b8 bs)) :
    Calls Try.prog 22 #[.agg #[.slice sa n c, .int .i64 (ac : Int)], .slice a len cap] W (RPutRet n ac (all ++ [bs]) W) := by
  obtain ⟨h1, h2⟩ := hn
  have hnb : ¬ (1048576 : Int) ≤ (n : Int) := by omega
  have hsz : ((W.alloc (.cells #[.slice sa n c, .int .i64 (ac : Int)] 35)).alloc (.cells #[.slice none 0 0, .int .i64 0] 35)).heap.size = W.heap.size + 1 + 1 := by simp
  have HX : Hid (BlkAt ((W.alloc (.cells #[.slice sa n c, .int .i64 (ac : Int)] 35)).alloc (.cells #[.slice none 0 0, .int .i64 0] 35)) W.heap.size #[.slice sa n c, .int .i64 (ac : Int)] ∧ BlkAt ((W.alloc (.cells #[.slice sa n c, .int .i64 (ac : Int)] 35)).alloc (.cells #[.slice none 0 0, .int .i64 0] 35)) (W.heap.size + 1) #[.slice none 0 0, .int .i64 0]) := Lib.hid ⟨blkOld (blkNew rfl), blkNew (by simp)⟩
  have HB1 : Hid (Below W.heap.size W ((W.alloc (.cells #[.slice sa n c, .int .i64 (ac : Int)] 35)).alloc (.cells #[.slice none 0 0, .int .i64 0] 35))) := Lib.hid (below_step (below_alloc _ _) (below_alloc _ _))
  have HSA := Lib.hid hsa
  have HCV : Hid (∀ W', Below W.heap.size W W' → (convert 22 9 (.slice a len cap)).run Try.prog W' = .ok (.string ⟨bs.toArray⟩) W') := Lib.hid (fun W' hb => run_b2s W' 22 9 5 Try.underlying22 Try.underlying9 Try.underlying5 (hs.ext hb))
  clear hsa hs
  go_enter Try.func22, Try.ntmps22
  go_upto_region 5 with (fail)
  generalize (W.alloc (.cells #[.slice sa n c, .int .i64 (ac : Int)] 35)).alloc (.cells #[.slice none 0 0, .int .i64 0] 35) = W1 at *
  obtain ⟨c0, c1, f0, f1⟩ := two_facts HX.out.1
  have HSA1 := Lib.hid (HSA.out.ext HB1.out)
  have hcv1 : (convert 22 9 (.slice a len cap)).run Try.prog W1.drew = .ok (.string ⟨bs.toArray⟩) W1.drew := HCV.out _ (below_drew HB1.out)
  have hcv2 : ∀ o, (convert 22 9 (.slice a len cap)).run Try.prog (W1.alloc o).drew = .ok (.string ⟨bs.toArray⟩) (W1.alloc o).drew := fun o => HCV.out _ (below_drew (below_step HB1.out (below_alloc _ _)))
  have hgl0 : W.heap.size < W1.heap.size := by omega
  have hgl1 : W.heap.size + 1 < W1.heap.size := by omega
  have hgl2 : W.heap.size ≤ W1.heap.size := by omega
  clear hsz
  go_cut [] (fun wx => ∃ sa' sc', Hid (BlkAt wx W.heap.size #[.slice sa' (n + 1) sc', .int .i64 (ac : Int)] ∧ BlkAt wx (W.heap.size + 1) #[.slice none 0 0, .int .i64 0]) ∧ Hid (wx.ownsRow (W.heap.size + 1 + 1) 9 1 (.slice sa' (n + 1) sc') (n + 1) (cs stb (all ++ [bs]))) ∧ Hid (Below W.heap.size W wx))
  case first =>
    go_region_law (first
      | ((refine step_append_manyG stb stb_one _ rfl (.tmp 25) (.tmp 27) 33 rfl W1.heap.size 9 (.string ⟨#[]⟩) 16 Try.underlying33 infoS rfl (v := .slice (some ⟨_, 0, none⟩) 0 0) (n := 0) (xs := []) rfl (own_empty (by (repeat (first | ((with_reducible refine hp_new ?_); focus (simp; done)) | (with_reducible refine hp_drew ?_) | (with_reducible refine hp_old ?_)))) (by first | (simp; done) | (simp; omega))) (ys := all) (ao := sa) (m := n) (c := c) rfl (Hid.out (by (repeat (first | (with_reducible assumption) | (with_reducible refine slDrewF ?_) | (with_reducible refine slAllocF ?_))))) (by unfold maxLen; omega) (by omega) (by first | (simp; done) | (simp; omega)) ?_); intro v8 w8 ho8 hb8 hf8; have F8 := Lib.hid hf8; clear hf8; rw [Nat.zero_add, List.nil_append] at ho8; obtain ⟨a8, c8, e8, s8⟩ := sl_of_own ho8; subst e8; have O8 := Lib.hid ho8; clear ho8 s8; have hbw8 : Below W.heap.size W w8 := Below.trans (by (repeat (first | (with_reducible exact HB1.out) | (with_reducible refine below_drew ?_) | (with_reducible refine belowA _ ?_)))) (hb8.mono hgl2); have hcv8 := HCV.out w8 hbw8; have hz8 : W1.heap.size ≤ w8.heap.size := Nat.le_trans (by first | (simp; done) | (simp; omega)) hb8.size; have HX8 : Hid (BlkAt w8 W.heap.size #[.slice sa n c, .int .i64 (ac : Int)] ∧ BlkAt w8 (W.heap.size + 1) #[.slice none 0 0, .int .i64 0]) := Lib.hid ⟨blkLow hb8 hgl0 (by (repeat (first | (with_reducible exact HX.out.1) | (with_reducible refine blkDrew ?_) | (with_reducible refine blkOld ?_)))), blkLow hb8 hgl1 (by (repeat (first | (with_reducible exact HX.out.2) | (with_reducible refine blkDrew ?_) | (with_reducible refine blkOld ?_))))⟩; have HB8 := Lib.hid hbw8; clear hbw8 hb8)
       | ((refine step_append_manyG stb stb_one _ rfl (.tmp 28) (.tmp 31) 33 rfl W1.heap.size 9 (.string ⟨#[]⟩) 16 Try.underlying33 infoS rfl (v := .slice a8 n c8) (n := n) (xs := all) rfl (Hid.out (by (repeat (first | (with_reducible assumption) | (with_reducible refine stDrewF ?_) | (with_reducible refine stAllocF ?_))))) (ys := [bs]) (ao := some ⟨_, 0, none⟩) (m := 1) (c := 1) (by rfl) (sl_blkF (C := #[.string ⟨bs.toArray⟩]) (by (repeat (first | ((with_reducible refine blkNew ?_); focus (simp; done)) | (with_reducible refine blkDrew ?_) | (with_reducible refine blkOld ?_) | (with_reducible refine F8.out _ _ ?_ ?_) | focus (simp [Value.ownBlock]; done)))) rfl 1 rfl (by decide)) (by unfold maxLen; omega) (by omega) (by first | assumption | (simp; done) | (simp; omega)) ?_); intro v9 w9 ho9 hb9 hf9; clear hf9; have HX9 : Hid (BlkAt w9 W.heap.size #[.slice sa n c, .int .i64 (ac : Int)] ∧ BlkAt w9 (W.heap.size + 1) #[.slice none 0 0, .int .i64 0]) := Lib.hid ⟨blkLow hb9 hgl0 (by (repeat (first | (with_reducible exact HX8.out.1) | (with_reducible refine blkDrew ?_) | (with_reducible refine blkOld ?_)))), blkLow hb9 hgl1 (by (repeat (first | (with_reducible exact HX8.out.2) | (with_reducible refine blkDrew ?_) | (with_reducible refine blkOld ?_))))⟩; have hbw9 : Below W.heap.size W w9 := Below.trans (by (repeat (first | (with_reducible exact HB8.out) | (with_reducible refine below_drew ?_) | (with_reducible refine belowA _ ?_)))) (hb9.mono hgl2); obtain ⟨d0, d1, q0, q1⟩ := two_facts HX9.out.1; have HB9 := Lib.hid hbw9; clear hbw9 hb9; obtain ⟨a9, c9, e9, s9⟩ := sl_of_own ho9; subst e9; have O9 := Lib.hid ho9; clear ho9 s9))
    all_goals
      go_wp2_with fail
      go_meet
      exact ⟨a9, c9, Lib.hid ⟨blkX_setF HX9.out.1, blkX_farF HX9.out.2 (by omega)⟩, Lib.hid (ownsRow_mono (own_keepF (L := [W.heap.size]) O9.out ((Fx.refl [W.heap.size] w9).setCell (by simp)) (fun j hj => by have := (own_ltF O9.out hj).2.1; simp; omega)) hgl1), Lib.hid (below_set_new HB9.out (Nat.le_refl _))⟩
  case rest =>
    obtain ⟨sa', sc', HX2, HO2, HB2⟩ := hcut
    obtain ⟨W2, hW2⟩ : ∃ W', W' = wc := ⟨_, rfl⟩
    subst hW2
    clear c0 c1 f0 f1 hcv1 hcv2 HX HSA1 HCV HSA
    obtain ⟨c0, c1, f0, f1⟩ := two_facts HX2.out.1
    obtain ⟨d0, d1, q0, q1⟩ := two_facts HX2.out.2
    have hgl3 : W.heap.size < W2.heap.size := World.block_lt_of_cell? _ _ c0
    have hgl4 : W.heap.size + 1 < W2.heap.size := World.block_lt_of_cell? _ _ d0
    go_upto_region 6 with (fail)
    go_region
    all_goals
      go_wp2
      refine bodyPost_ret (v := .tuple #[.agg #[.slice sa' (n + 1) sc', .int .i64 (ac : Int)], .int .i64 (n : Int), .int .i64 0]) ?_ rfl ⟨sa', sc', rfl, ?_, ?_⟩
      · rw [results_cell_tmp2 rfl]
        go_simp
      · exact stDrewF (Lib.hid (ownsRow_mono (own_keepF (L := [W.heap.size + 1]) HO2.out (((Fx.refl [W.heap.size + 1] W2).setCell (by simp)).setCell (by simp)) (fun j hj => by have := (own_ltF HO2.out hj).2.1; simp; omega)) (by omega)))
      · exact below_drew (below_set_new (below_set_new HB2.out (by omega)) (by omega))
end Go.Proofs.Ytfhcaikfbfoopaa
