/-
  TOKENS, THE LAWS: TokenTexts.
-/
import Derived.Test.YtomilmaeiokaaaaProg
import Derived.Test.YtomilmaeiokaaaaTkK
import Derived.Test.YtomilmaeiokaaaaTkT2
import Derived.Test.YtomilmaeiokaaaaTkP5
import Derived.BigQuiet
import Derived.Laws.StructEq
import Derived.StillTailTactics
import Derived.RegionTactic
import Derived.Deep.DeepCutAuto
import Derived.Deep.QuietTactic
import Derived.WalkSpells
import Derived.WalkLawsBesides
namespace Go.Proofs.Ytomilmaeiokaaaa
open Go.RowKit
set_option linter.unusedVariables false

theorem texts_any (b r d f t n : Int) (g : BitVec 64) : ∃ (A : ByteArray) (er : Int), (∀ W, Calls Try.prog 29 #[.agg #[.int .i64 b, .int .i64 r, .int .i64 d, .int .i64 f, .int .i64 t, .int .i64 n, Ytomilmaeiokaaaa.u64 g]] W (RetB (.tuple #[.string A, .int .i64 er]) W)) ∧ (∀ W, Calls Try.prog 30 #[.agg #[.int .i64 b, .int .i64 r, .int .i64 d, .int .i64 f, .int .i64 t, .int .i64 n, Ytomilmaeiokaaaa.u64 g]] W (RetB (.tuple #[.string A, .int .i64 er]) W)) := by
  by_cases h : Tok.bad ⟨b, r, d, f, t, n⟩
  · exact ⟨_, _, fun W => text_bad b r d f t n g W (chk_bad h), fun W => refText_bad b r d f t n g W (chk_bad h)⟩
  · exact ⟨_, _, fun W => text_ok b r d f t n g W h, fun W => refText_ok b r d f t n g W h⟩
theorem parses_any (s : ByteArray) (hs : s.data.toList.length ≤ 200) : ∃ (yb yr yd yf yt yn : Int) (yg : BitVec 64) (er : Int), (∀ W, Calls Try.prog 31 #[.string s] W (RetB (.tuple #[.agg #[.int .i64 yb, .int .i64 yr, .int .i64 yd, .int .i64 yf, .int .i64 yt, .int .i64 yn, Ytomilmaeiokaaaa.u64 yg], .int .i64 er]) W)) ∧ (∀ W, Calls Try.prog 32 #[.string s] W (RetB (.tuple #[.agg #[.int .i64 yb, .int .i64 yr, .int .i64 yd, .int .i64 yf, .int .i64 yt, .int .i64 yn, Ytomilmaeiokaaaa.u64 yg], .int .i64 er]) W)) := by
  by_cases hy : ∃ yb yr yd yf yt yn yg, TextOf s.data.toList yb yr yd yf yt yn yg
  · obtain ⟨yb, yr, yd, yf, yt, yn, yg, hy⟩ := hy
    exact ⟨_, _, _, _, _, _, _, _, fun W => parse_yes s W hy, fun W => refParse_yes s W hy⟩
  · have hn : ∀ b r d f t n g, ¬ TextOf s.data.toList b r d f t n g := fun b r d f t n g e => hy ⟨b, r, d, f, t, n, g, e⟩
    exact ⟨0, 0, 0, 0, 0, 0, 0#64, 3, fun W => parse_no s W hn, fun W => refParse_no s W hs hn⟩
theorem tok_same (b r d f t n : Int) (g : BitVec 64) (w : World) : (binOp .eql 36 (.agg #[.int .i64 b, .int .i64 r, .int .i64 d, .int .i64 f, .int .i64 t, .int .i64 n, Ytomilmaeiokaaaa.u64 g]) (.agg #[.int .i64 b, .int .i64 r, .int .i64 d, .int .i64 f, .int .i64 t, .int .i64 n, Ytomilmaeiokaaaa.u64 g])).run Try.prog w = .ok (.bool true) w := by
  have := tok_eql b r d f t n g g w
  rw [decide_eq_true rfl] at this
  exact this
set_option maxRecDepth 100000 in
set_option maxHeartbeats 1000000 in
theorem tokenTexts_long (b r d f t n : Int) (g : BitVec 64) (s : ByteArray) (w : World) (h : (200 : Int) < (s.size : Int)) : Calls Try.prog 8 #[.agg #[.int .i64 b, .int .i64 r, .int .i64 d, .int .i64 f, .int .i64 t, .int .i64 n, Ytomilmaeiokaaaa.u64 g], .string s] w (RetB (.bool true) w) := by
  have HQ := Lib.hid (below_alloc w (.cells #[.int .i64 b, .int .i64 r, .int .i64 d, .int .i64 f, .int .i64 t, .int .i64 n, Ytomilmaeiokaaaa.u64 g] 36))
  go_enter Try.func8, Try.ntmps8
  go_wp2_with fail
  refine (awake15_any _).mono ?_
  rintro e wz ⟨rfl, hbz⟩
  have HBZ := Lib.hid (below_step HQ.out hbz)
  clear hbz
  go_wp2
  go_ret
  exact ⟨rfl, HBZ.out⟩
set_option maxRecDepth 100000 in
set_option maxHeartbeats 2000000 in
theorem tokenTexts_short (b r d f t n : Int) (g : BitVec 64) (s : ByteArray) (w : World) (h : ¬ (200 : Int) < (s.size : Int)) : Calls Try.prog 8 #[.agg #[.int .i64 b, .int .i64 r, .int .i64 d, .int .i64 f, .int .i64 t, .int .i64 n, Ytomilmaeiokaaaa.u64 g], .string s] w (RetB (.bool true) w) := by
  obtain ⟨A, er, hT, hR⟩ := texts_any b r d f t n g
  obtain ⟨yb, yr, yd, yf, yt, yn, yg, es, hP, hQ⟩ := parses_any s (by rw [Array.length_toList]; have : s.data.size = s.size := rfl; omega)
  have HT := Lib.hid hT
  have HR := Lib.hid hR
  have HP := Lib.hid hP
  have HPR := Lib.hid hQ
  clear hT hR hP hQ
  have hze := fun w' => tok_same yb yr yd yf yt yn yg w'
  have HQ := Lib.hid (bk_mk0 w #[.int .i64 b, .int .i64 r, .int .i64 d, .int .i64 f, .int .i64 t, .int .i64 n, Ytomilmaeiokaaaa.u64 g] 36)
  go_enter Try.func8, Try.ntmps8
  go_wp2_with fail
  refine (HT.out _).mono ?_
  rintro e w1 ⟨rfl, hb1⟩
  have HQ1 := bk_step HQ hb1
  clear hb1 HQ HT
  obtain ⟨c0, c1, c2, c3, c4, c5, c6⟩ := tok_cells (w := w) (E := 0) HQ1.out.t
  go_wp2_with fail
  refine (HR.out _).mono ?_
  rintro e w2 ⟨rfl, hb2⟩
  have HQ2 := bk_step HQ1 hb2
  clear hb2 HQ1 HR c0 c1 c2 c3 c4 c5 c6
  go_wp2_with fail
  refine (HP.out _).mono ?_
  rintro e w3 ⟨rfl, hb3⟩
  have HX3 : Hid (BlkAt (w3.alloc (.cells #[.int .i64 yb, .int .i64 yr, .int .i64 yd, .int .i64 yf, .int .i64 yt, .int .i64 yn, Ytomilmaeiokaaaa.u64 yg] 36)) w3.heap.size #[.int .i64 yb, .int .i64 yr, .int .i64 yd, .int .i64 yf, .int .i64 yt, .int .i64 yn, Ytomilmaeiokaaaa.u64 yg]) := blkNew rfl
  have HQ3 := bk_step (bk_step HQ2 hb3) (below_alloc w3 (.cells #[.int .i64 yb, .int .i64 yr, .int .i64 yd, .int .i64 yf, .int .i64 yt, .int .i64 yn, Ytomilmaeiokaaaa.u64 yg] 36))
  clear hb3 HQ2 HP
  go_upto_region 6 with (fail)
  generalize w3.alloc (.cells #[.int .i64 yb, .int .i64 yr, .int .i64 yd, .int .i64 yf, .int .i64 yt, .int .i64 yn, Ytomilmaeiokaaaa.u64 yg] 36) = W3 at *
  generalize w3.heap.size = xb at *
  go_wp2_with fail
  refine (HPR.out _).mono ?_
  rintro e w4 ⟨rfl, hb4⟩
  have HX4 : Hid (BlkAt (w4.alloc (.cells #[.int .i64 yb, .int .i64 yr, .int .i64 yd, .int .i64 yf, .int .i64 yt, .int .i64 yn, Ytomilmaeiokaaaa.u64 yg] 36)) xb #[.int .i64 yb, .int .i64 yr, .int .i64 yd, .int .i64 yf, .int .i64 yt, .int .i64 yn, Ytomilmaeiokaaaa.u64 yg]) := blkBelow (below_alloc _ _) (blkBelow hb4 HX3.out)
  have HY4 : Hid (BlkAt (w4.alloc (.cells #[.int .i64 yb, .int .i64 yr, .int .i64 yd, .int .i64 yf, .int .i64 yt, .int .i64 yn, Ytomilmaeiokaaaa.u64 yg] 36)) w4.heap.size #[.int .i64 yb, .int .i64 yr, .int .i64 yd, .int .i64 yf, .int .i64 yt, .int .i64 yn, Ytomilmaeiokaaaa.u64 yg]) := blkNew rfl
  have HQ4 := bk_step (bk_step HQ3 hb4) (below_alloc w4 (.cells #[.int .i64 yb, .int .i64 yr, .int .i64 yd, .int .i64 yf, .int .i64 yt, .int .i64 yn, Ytomilmaeiokaaaa.u64 yg] 36))
  clear hb4 HQ3 HPR HX3
  go_upto_region 7 with (fail)
  generalize w4.alloc (.cells #[.int .i64 yb, .int .i64 yr, .int .i64 yd, .int .i64 yf, .int .i64 yt, .int .i64 yn, Ytomilmaeiokaaaa.u64 yg] 36) = W4 at *
  generalize w4.heap.size = yq at *
  obtain ⟨c0, c1, c2, c3, c4, c5, c6⟩ := tok_cells (w := w) (E := 0) HX4.out
  obtain ⟨d0, d1, d2, d3, d4, d5, d6⟩ := tok_cells (w := w) (E := 0) HY4.out
  go_wp2_with fail
  refine (awake15_any _).mono ?_
  rintro e wz ⟨rfl, hbz⟩
  have HBZ := Lib.hid (below_step HQ4.out.lo hbz)
  clear hbz
  go_wp2
  go_ret
  exact ⟨rfl, HBZ.out⟩
theorem tokenTexts_walk (b r d f t n : Int) (g : BitVec 64) (s : ByteArray) (w : World) : Calls Try.prog 8 #[.agg #[.int .i64 b, .int .i64 r, .int .i64 d, .int .i64 f, .int .i64 t, .int .i64 n, Ytomilmaeiokaaaa.u64 g], .string s] w (RetB (.bool true) w) := by
  by_cases h : (200 : Int) < (s.size : Int)
  · exact tokenTexts_long b r d f t n g s w h
  · exact tokenTexts_short b r d f t n g s w h
end Go.Proofs.Ytomilmaeiokaaaa
