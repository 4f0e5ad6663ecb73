/-
  TOKENS, THE WALKS: the reference's Issue.
-/
import Derived.Test.YtomilmaeiokaaaaProg
import Derived.Test.YtomilmaeiokaaaaBase15
import Derived.Test.YtomilmaeiokaaaaTokP
import Derived.Test.YtomilmaeiokaaaaTok1
import Derived.Test.YtomilmaeiokaaaaTok2
import Derived.Test.YtomilmaeiokaaaaMac9
import Derived.Test.YtomilmaeiokaaaaMac9D
import Derived.Test.YtomilmaeiokaaaaHeld
import Derived.BigQuiet
import Derived.Laws.StructEq
import Derived.StillTailTactics
import Derived.RegionTactic
import Derived.BigRegion
import Derived.Deep.RegionHeld3
import Derived.Deep.DeepCutAuto
import Derived.Deep.QuietTactic
import Derived.WalkSpells
import Derived.WalkLawsBesides
namespace Go.Proofs.Ytomilmaeiokaaaa
open Go.RowKit
set_option linter.unusedVariables false

set_option maxRecDepth 100000 in
set_option maxHeartbeats 4000000 in
theorem refNumbers_any (b r d f t n : Int) (g : BitVec 64) (w : World) : Calls Try.prog 42 #[.agg #[.int .i64 b, .int .i64 r, .int .i64 d, .int .i64 f, .int .i64 t, .int .i64 n, u64 g]] w (fun e w' => ∃ k, e = .returned (.slice (some ⟨k, 0, none⟩) 6 6) ∧ Hid (Sl w' 1 (some ⟨k, 0, none⟩) 6 6 (cs i64v [b, r, d, f, t, n])) ∧ Below w.heap.size w w') := by
  go_enter Try.func42, Try.ntmps42
  go_wp2
  go_ret
  exact ⟨_, rfl, six_slice (blkNew (by simp)), below_step (below_alloc _ _) (below_alloc _ _)⟩

set_option maxRecDepth 100000 in
set_option maxHeartbeats 4000000 in
theorem refIssue_bad (ka kb : BitVec 64) (b r d f t n : Int) (g : BitVec 64) (w : World) (hbad : Hid (Tok.chk ⟨b, r, d, f, t, n⟩ = 1)) : Calls Try.prog 19 #[.agg #[u64 ka, u64 kb], .agg #[.int .i64 b, .int .i64 r, .int .i64 d, .int .i64 f, .int .i64 t, .int .i64 n, u64 g]] w (RetB (.tuple #[.agg #[.int .i64 0, .int .i64 0, .int .i64 0, .int .i64 0, .int .i64 0, .int .i64 0, .int .u64 0], .int .i64 1]) w) := by
  have HQ := Lib.hid (IssW.mk0 w ka kb #[.int .i64 b, .int .i64 r, .int .i64 d, .int .i64 f, .int .i64 t, .int .i64 n, u64 g] #[.int .i64 0, .int .i64 0, .int .i64 0, .int .i64 0, .int .i64 0, .int .i64 0, .int .u64 0] 32 36 36)
  have hck := fun w => refCheck_tok b r d f t n g w
  rw [hbad.out] at hck
  have HCK := Lib.hid hck
  clear hck
  go_enter Try.func19, Try.ntmps19
  go_wp2_with fail
  refine (HCK.out _).mono ?_
  rintro e w1 ⟨rfl, hb1⟩
  have HQ1 := Lib.hid (HQ.out.step hb1)
  clear hb1 HQ
  obtain ⟨z0, z1, z2, z3, z4, z5, z6⟩ := tok_cells (w := w) (E := 0) HQ1.out.r
  have e0 := blkX_frozen (i := 0) HQ1.out.r
  have e1 := blkX_frozen (i := 1) HQ1.out.r
  have e2 := blkX_frozen (i := 2) HQ1.out.r
  have e3 := blkX_frozen (i := 3) HQ1.out.r
  have e4 := blkX_frozen (i := 4) HQ1.out.r
  have e5 := blkX_frozen (i := 5) HQ1.out.r
  have e6 := blkX_frozen (i := 6) HQ1.out.r
  go_wp2
  refine bodyPost_ret (v := .tuple #[.agg #[.int .i64 0, .int .i64 0, .int .i64 0, .int .i64 0, .int .i64 0, .int .i64 0, .int .u64 0], .int .i64 1]) ?_ rfl ⟨rfl, ?_⟩
  · rw [results_cell_tmp rfl]
    go_simp
  · exact belowR HQ1.out.b

set_option maxRecDepth 100000 in
set_option maxHeartbeats 4000000 in
theorem refIssue_ok (ka kb : BitVec 64) (b r d f t n : Int) (g : BitVec 64) (w : World) (hok : ¬ Tok.bad ⟨b, r, d, f, t, n⟩) : Calls Try.prog 19 #[.agg #[u64 ka, u64 kb], .agg #[.int .i64 b, .int .i64 r, .int .i64 d, .int .i64 f, .int .i64 t, .int .i64 n, u64 g]] w (RetB (.tuple #[.agg #[.int .i64 b, .int .i64 r, .int .i64 d, .int .i64 f, .int .i64 t, .int .i64 n, u64 (tagOf ka kb b r d f t n)], .int .i64 0]) w) := by
  have HQ := Lib.hid (IssW.mk0 w ka kb #[.int .i64 b, .int .i64 r, .int .i64 d, .int .i64 f, .int .i64 t, .int .i64 n, u64 g] #[.int .i64 0, .int .i64 0, .int .i64 0, .int .i64 0, .int .i64 0, .int .i64 0, .int .u64 0] 32 36 36)
  have hck := fun w => refCheck_tok b r d f t n g w
  rw [chk_ok hok] at hck
  have HCK := Lib.hid hck
  have HOK := Lib.hid hok
  have HDER := Lib.hid (fun w => refDerive_any ka kb b w (by have := HOK.out; unfold Tok.bad at this; dsimp only at this; omega))
  have HTAG := Lib.hid (fun (W : World) (a : Option Addr) (hs : Hid (Sl W 1 a 6 6 (cs i64v [b, r, d, f, t, n]))) => refTag_any (dKA ka kb b) (dKB ka kb b) [b, r, d, f, t, n] a 6 6 W hs.out (six_small hok) (by decide))
  have HDER' : Hid (∀ w, Calls Try.prog 41 #[.agg #[u64 ka, u64 kb], .int .i64 b] w (RetB (.agg #[u64 (dKA ka kb b), u64 (dKB ka kb b)]) w)) := HDER.out
  have HTAG' : Hid (∀ (W : World) (a : Option Addr) (hs : Hid (Sl W 1 a 6 6 (cs i64v [b, r, d, f, t, n]))), Calls Try.prog 40 #[.agg #[u64 (dKA ka kb b), u64 (dKB ka kb b)], .slice a 6 6] W (RetB (u64 (tagOf ka kb b r d f t n)) W)) := HTAG.out
  clear hck hok HDER HTAG
  generalize tagOf ka kb b r d f t n = G at *
  generalize dKA ka kb b = DA at *
  generalize dKB ka kb b = DB at *
  go_enter Try.func19, Try.ntmps19
  go_wp2_with fail
  refine (HCK.out _).mono ?_
  rintro e w1 ⟨rfl, hb1⟩
  have HQ1 := Lib.hid (HQ.out.step hb1)
  clear hb1 HQ
  obtain ⟨k0, k1⟩ := key_cells2 HQ1.out.k
  obtain ⟨c0, c1, c2, c3, c4, c5, c6⟩ := tok_cells (w := w) (E := 0) HQ1.out.t
  go_wp2_with fail
  go_cut [] (fun wx => Hid (IssW w ka kb #[.int .i64 b, .int .i64 r, .int .i64 d, .int .i64 f, .int .i64 t, .int .i64 n, u64 G] #[.int .i64 0, .int .i64 0, .int .i64 0, .int .i64 0, .int .i64 0, .int .i64 0, .int .u64 0] wx))
  case first =>
    go_region_with (first
      | (go_at_call 41; (with_reducible refine (HDER'.out _).mono ?_); rintro e w2 ⟨rfl, hb2⟩; have HQ2 := Lib.hid (HQ1.out.drew.step hb2); clear hb2; obtain ⟨c0, c1, c2, c3, c4, c5, c6⟩ := tok_cells (w := w) (E := 0) HQ2.out.t)
      | (go_at_call 42; (with_reducible refine (refNumbers_any b r d f t n g _).mono ?_); rintro e w3 ⟨k3, rfl, S3, hb3⟩; have HQ3 := Lib.hid (HQ2.out.step hb3); clear hb3; obtain ⟨c0, c1, c2, c3, c4, c5, c6⟩ := tok_cells (w := w) (E := 0) HQ3.out.t; have fz := blkX_frozen (i := 6) HQ3.out.t)
      | (go_at_call 40; (with_reducible refine (HTAG'.out _ _ S3).mono ?_); rintro e w4 ⟨rfl, hb4⟩; have HQ4 := Lib.hid (HQ3.out.step hb4); clear hb4; obtain ⟨c0, c1, c2, c3, c4, c5, c6⟩ := tok_cells (w := w) (E := 0) HQ4.out.t; have fz := blkX_frozen (i := 6) HQ4.out.t))
    all_goals
      go_wp2_with fail
      go_meet
      first
        | exact Lib.hid (HQ4.out.setT 6 (u64 G))
        | exact Lib.hid (HQ4.out.setT 6 (u64 G)).drew
        | exact Lib.hid (HQ4.out.drew.setT 6 (u64 G))
  case rest =>
    obtain ⟨c0, c1, c2, c3, c4, c5, c6⟩ := tok_cells (w := w) (E := 0) hcut.out.t
    obtain ⟨z0, z1, z2, z3, z4, z5, z6⟩ := tok_cells (w := w) (E := 0) hcut.out.r
    have e0 := blkX_frozen (i := 0) hcut.out.r
    have e1 := blkX_frozen (i := 1) hcut.out.r
    have e2 := blkX_frozen (i := 2) hcut.out.r
    have e3 := blkX_frozen (i := 3) hcut.out.r
    have e4 := blkX_frozen (i := 4) hcut.out.r
    have e5 := blkX_frozen (i := 5) hcut.out.r
    have e6 := blkX_frozen (i := 6) hcut.out.r
    go_wp2
    refine bodyPost_ret (v := .tuple #[.agg #[.int .i64 b, .int .i64 r, .int .i64 d, .int .i64 f, .int .i64 t, .int .i64 n, u64 G], .int .i64 0]) ?_ rfl ⟨rfl, ?_⟩
    · rw [results_cell_tmp rfl]
      go_simp
    · exact belowR hcut.out.b
end Go.Proofs.Ytomilmaeiokaaaa
