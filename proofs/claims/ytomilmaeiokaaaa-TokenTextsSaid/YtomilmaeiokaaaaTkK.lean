/-
  TOKENS, THE LAWS: TokenBack.
-/
import Derived.Test.YtomilmaeiokaaaaProg
import Derived.Test.YtomilmaeiokaaaaBase15
import Derived.Test.YtomilmaeiokaaaaMacP
import Derived.Test.YtomilmaeiokaaaaTokP
import Derived.Test.YtomilmaeiokaaaaTkP
import Derived.Test.YtomilmaeiokaaaaTok1
import Derived.Test.YtomilmaeiokaaaaTok2
import Derived.Test.YtomilmaeiokaaaaBase14
import Derived.Test.YtomilmaeiokaaaaTok3
import Derived.Test.YtomilmaeiokaaaaTkT
import Derived.Test.YtomilmaeiokaaaaTkS
import Derived.Test.YtomilmaeiokaaaaTkA
import Derived.Test.YtomilmaeiokaaaaTkC2
import Derived.Test.YtomilmaeiokaaaaHeld
import Derived.BigQuiet
import Derived.Laws.StructEq
import Derived.StillTailTactics
import Derived.RegionTactic
import Derived.Deep.DeepCutAuto
import Derived.Deep.QuietTactic
import Derived.WalkSpells
import Derived.WalkLawsBesides
namespace Go.Proofs.Ytomilmaeiokaaaa
open Go.RowKit
set_option linter.unusedVariables false

theorem tok_neq (b r d f t n : Int) (g : BitVec 64) (w' : World) : (binOp .neq 36 (.agg #[.int .i64 b, .int .i64 r, .int .i64 d, .int .i64 f, .int .i64 t, .int .i64 n, Ytomilmaeiokaaaa.u64 g]) (.agg #[.int .i64 b, .int .i64 r, .int .i64 d, .int .i64 f, .int .i64 t, .int .i64 n, Ytomilmaeiokaaaa.u64 g])).run Try.prog w' = .ok (.bool false) w' := by
  have h1 : Try.prog.underlying 36 = some (.struct (Try.prog.fieldsOf 36)) := by kernel_rfl
  have h2 : Try.prog.stoodInHeld 36 = false := by kernel_rfl
  have hw := fun w' => win_eql 9997 f t w'
  rw [run_neq_struct, run_equalIn_agg _ _ _ _ _ h1 h2]
  unfold u64
  simp only [Program.fieldsOf, Try.underlying36]
  clear h1 h2
  go_simp
theorem tok_zero (w : World) : (binOp .eql 36 (.agg #[.int .i64 0, .int .i64 0, .int .i64 0, .int .i64 0, .int .i64 0, .int .i64 0, .int .u64 0]) (.agg #[.int .i64 0, .int .i64 0, .int .i64 0, .int .i64 0, .int .i64 0, .int .i64 0, .int .u64 0])).run Try.prog w = .ok (.bool true) w := by
  have := tok_eql 0 0 0 0 0 0 0#64 0#64 w
  rw [decide_eq_true rfl] at this
  exact this
structure BkW (w : World) (T : Array Value) (W : World) : Prop where
  t : BlkAt W w.heap.size T
  lo : Below w.heap.size w W
theorem bk_mk0 (w : World) (T : Array Value) (E : TypeId) : BkW w T (w.alloc (.cells T E)) := ⟨blkNew rfl, below_alloc _ _⟩
theorem bk_step {w W W' : World} {T : Array Value} (h : Hid (BkW w T W)) (hb : Below W.heap.size W W') : Hid (BkW w T W') := ⟨blkBelow hb h.out.t, below_step h.out.lo hb⟩
set_option maxRecDepth 100000 in
set_option maxHeartbeats 1000000 in
theorem tokenBack_long (b r d f t n : Int) (g : BitVec 64) (s : ByteArray) (w : World) (h : (200 : Int) < (s.size : Int)) : Calls Try.prog 9 #[.agg #[.int .i64 b, .int .i64 r, .int .i64 d, .int .i64 f, .int .i64 t, .int .i64 n, Ytomilmaeiokaaaa.u64 g], .string s] w (RetB (.bool true) w) := by
  have HQ := Lib.hid (below_alloc w (.cells #[.int .i64 b, .int .i64 r, .int .i64 d, .int .i64 f, .int .i64 t, .int .i64 n, Ytomilmaeiokaaaa.u64 g] 36))
  go_enter Try.func9, Try.ntmps9
  go_wp2_with fail
  refine (awake15_any _).mono ?_
  rintro e wz ⟨rfl, hbz⟩
  have HBZ := Lib.hid (below_step HQ.out hbz)
  clear hbz
  go_wp2
  go_ret
  exact ⟨rfl, HBZ.out⟩
set_option maxRecDepth 100000 in
set_option maxHeartbeats 2000000 in
theorem tokenBack_bad_no (b r d f t n : Int) (g : BitVec 64) (s : ByteArray) (w : World) (h : ¬ (200 : Int) < (s.size : Int)) (hbad : Tok.bad ⟨b, r, d, f, t, n⟩) (hy : ∀ b r d f t n g, ¬ TextOf s.data.toList b r d f t n g) : Calls Try.prog 9 #[.agg #[.int .i64 b, .int .i64 r, .int .i64 d, .int .i64 f, .int .i64 t, .int .i64 n, Ytomilmaeiokaaaa.u64 g], .string s] w (RetB (.bool true) w) := by
  have HTX : Hid (∀ W, Calls Try.prog 29 #[.agg #[.int .i64 b, .int .i64 r, .int .i64 d, .int .i64 f, .int .i64 t, .int .i64 n, Ytomilmaeiokaaaa.u64 g]] W (RetB (.tuple #[.string ⟨#[]⟩, .int .i64 1]) W)) := fun W => text_bad b r d f t n g W (chk_bad hbad)
  have HCK : Hid (∀ W, Calls Try.prog 20 #[.agg #[.int .i64 b, .int .i64 r, .int .i64 d, .int .i64 f, .int .i64 t, .int .i64 n, Ytomilmaeiokaaaa.u64 g]] W (RetB (.int .i64 1) W)) := fun W => by have := check_any b r d f t n g W; rw [chk_bad hbad] at this; exact this
  clear hbad
  have HPS := Lib.hid (fun W => parse_no s W hy)
  clear hy
  have hne := fun w' => tok_neq b r d f t n g w'
  have hze := fun w' => tok_zero w'
  have HQ := Lib.hid (bk_mk0 w #[.int .i64 b, .int .i64 r, .int .i64 d, .int .i64 f, .int .i64 t, .int .i64 n, Ytomilmaeiokaaaa.u64 g] 36)
  go_enter Try.func9, Try.ntmps9
  go_wp2_with fail
  refine (HTX.out _).mono ?_
  rintro e w1 ⟨rfl, hb1⟩
  have HQ1 := bk_step HQ hb1
  clear hb1 HQ HTX
  obtain ⟨c0, c1, c2, c3, c4, c5, c6⟩ := tok_cells (w := w) (E := 0) HQ1.out.t
  go_wp2_with fail
  refine (HCK.out _).mono ?_
  rintro e w2 ⟨rfl, hb2⟩
  have HQ2 := bk_step HQ1 hb2
  clear hb2 HQ1 HCK c0 c1 c2 c3 c4 c5 c6
  go_wp2_with fail
  refine (HPS.out _).mono ?_
  rintro e w4 ⟨rfl, hb4⟩
  have HQ4 := bk_step (bk_step HQ2 hb4) (below_alloc w4 (.cells #[.int .i64 0, .int .i64 0, .int .i64 0, .int .i64 0, .int .i64 0, .int .i64 0, .int .u64 0] 36))
  have HX4 : Hid (BlkAt (w4.alloc (.cells #[.int .i64 0, .int .i64 0, .int .i64 0, .int .i64 0, .int .i64 0, .int .i64 0, .int .u64 0] 36)) w4.heap.size #[.int .i64 0, .int .i64 0, .int .i64 0, .int .i64 0, .int .i64 0, .int .i64 0, .int .u64 0]) := blkNew rfl
  clear hb4 HQ2 HPS
  go_upto_region 11 with (fail)
  generalize w4.alloc (.cells #[.int .i64 0, .int .i64 0, .int .i64 0, .int .i64 0, .int .i64 0, .int .i64 0, .int .u64 0] 36) = W4 at *
  generalize w4.heap.size = yq at *
  obtain ⟨d0, d1, d2, d3, d4, d5, d6⟩ := tok_cells (w := w) (E := 0) HX4.out
  go_wp2_with fail
  refine (awake15_any _).mono ?_
  rintro e wz ⟨rfl, hbz⟩
  have HBZ := Lib.hid (below_step HQ4.out.lo hbz)
  clear hbz
  go_wp2
  go_ret
  exact ⟨rfl, HBZ.out⟩
set_option maxRecDepth 100000 in
set_option maxHeartbeats 2000000 in
theorem tokenBack_bad_yes (b r d f t n : Int) (g : BitVec 64) (s : ByteArray) (w : World) (h : ¬ (200 : Int) < (s.size : Int)) (hbad : Tok.bad ⟨b, r, d, f, t, n⟩) (yb yr yd yf yt yn : Int) (yg : BitVec 64) (hy : TextOf s.data.toList yb yr yd yf yt yn yg) : Calls Try.prog 9 #[.agg #[.int .i64 b, .int .i64 r, .int .i64 d, .int .i64 f, .int .i64 t, .int .i64 n, Ytomilmaeiokaaaa.u64 g], .string s] w (RetB (.bool true) w) := by
  have HTX : Hid (∀ W, Calls Try.prog 29 #[.agg #[.int .i64 b, .int .i64 r, .int .i64 d, .int .i64 f, .int .i64 t, .int .i64 n, Ytomilmaeiokaaaa.u64 g]] W (RetB (.tuple #[.string ⟨#[]⟩, .int .i64 1]) W)) := fun W => text_bad b r d f t n g W (chk_bad hbad)
  have HCK : Hid (∀ W, Calls Try.prog 20 #[.agg #[.int .i64 b, .int .i64 r, .int .i64 d, .int .i64 f, .int .i64 t, .int .i64 n, Ytomilmaeiokaaaa.u64 g]] W (RetB (.int .i64 1) W)) := fun W => by have := check_any b r d f t n g W; rw [chk_bad hbad] at this; exact this
  clear hbad
  have HPS := Lib.hid (fun W => parse_yes s W hy)
  have HTY : Hid (∀ W, Calls Try.prog 29 #[.agg #[.int .i64 yb, .int .i64 yr, .int .i64 yd, .int .i64 yf, .int .i64 yt, .int .i64 yn, Ytomilmaeiokaaaa.u64 yg]] W (RetB (.tuple #[.string s, .int .i64 0]) W)) := fun W => by
    have := text_ok yb yr yd yf yt yn yg W hy.1
    rw [hy.2] at this
    exact this
  clear hy
  have hne := fun w' => tok_neq b r d f t n g w'
  have hze := fun w' => tok_zero w'
  have HQ := Lib.hid (bk_mk0 w #[.int .i64 b, .int .i64 r, .int .i64 d, .int .i64 f, .int .i64 t, .int .i64 n, Ytomilmaeiokaaaa.u64 g] 36)
  go_enter Try.func9, Try.ntmps9
  go_wp2_with fail
  refine (HTX.out _).mono ?_
  rintro e w1 ⟨rfl, hb1⟩
  have HQ1 := bk_step HQ hb1
  clear hb1 HQ HTX
  obtain ⟨c0, c1, c2, c3, c4, c5, c6⟩ := tok_cells (w := w) (E := 0) HQ1.out.t
  go_wp2_with fail
  refine (HCK.out _).mono ?_
  rintro e w2 ⟨rfl, hb2⟩
  have HQ2 := bk_step HQ1 hb2
  clear hb2 HQ1 HCK c0 c1 c2 c3 c4 c5 c6
  go_wp2_with fail
  refine (HPS.out _).mono ?_
  rintro e w4 ⟨rfl, hb4⟩
  have HQ4 := bk_step (bk_step HQ2 hb4) (below_alloc w4 (.cells #[.int .i64 yb, .int .i64 yr, .int .i64 yd, .int .i64 yf, .int .i64 yt, .int .i64 yn, Ytomilmaeiokaaaa.u64 yg] 36))
  have HX4 : Hid (BlkAt (w4.alloc (.cells #[.int .i64 yb, .int .i64 yr, .int .i64 yd, .int .i64 yf, .int .i64 yt, .int .i64 yn, Ytomilmaeiokaaaa.u64 yg] 36)) w4.heap.size #[.int .i64 yb, .int .i64 yr, .int .i64 yd, .int .i64 yf, .int .i64 yt, .int .i64 yn, Ytomilmaeiokaaaa.u64 yg]) := blkNew rfl
  clear hb4 HQ2 HPS
  go_upto_region 11 with (fail)
  generalize w4.alloc (.cells #[.int .i64 yb, .int .i64 yr, .int .i64 yd, .int .i64 yf, .int .i64 yt, .int .i64 yn, Ytomilmaeiokaaaa.u64 yg] 36) = W4 at *
  generalize w4.heap.size = yq at *
  obtain ⟨d0, d1, d2, d3, d4, d5, d6⟩ := tok_cells (w := w) (E := 0) HX4.out
  go_wp2_with fail
  refine (HTY.out _).mono ?_
  rintro e w5 ⟨rfl, hb5⟩
  have HQ5 := bk_step HQ4 hb5
  clear hb5 HQ4 d0 d1 d2 d3 d4 d5 d6 HX4 HTY
  go_wp2_with fail
  refine (awake15_any _).mono ?_
  rintro e wz ⟨rfl, hbz⟩
  have HBZ := Lib.hid (below_step HQ5.out.lo hbz)
  clear hbz
  go_wp2
  go_ret
  exact ⟨rfl, HBZ.out⟩
set_option maxRecDepth 100000 in
set_option maxHeartbeats 2000000 in
theorem tokenBack_ok_no (b r d f t n : Int) (g : BitVec 64) (s : ByteArray) (w : World) (h : ¬ (200 : Int) < (s.size : Int)) (hok : ¬ Tok.bad ⟨b, r, d, f, t, n⟩) (hy : ∀ b r d f t n g, ¬ TextOf s.data.toList b r d f t n g) : Calls Try.prog 9 #[.agg #[.int .i64 b, .int .i64 r, .int .i64 d, .int .i64 f, .int .i64 t, .int .i64 n, Ytomilmaeiokaaaa.u64 g], .string s] w (RetB (.bool true) w) := by
  obtain ⟨A, hA⟩ : ∃ A : ByteArray, A = ⟨(txtB (encB b r d f t n g)).toArray⟩ := ⟨_, rfl⟩
  have hAT : TextOf A.data.toList b r d f t n g := by rw [hA]; exact ⟨hok, rfl⟩
  have HTX : Hid (∀ W, Calls Try.prog 29 #[.agg #[.int .i64 b, .int .i64 r, .int .i64 d, .int .i64 f, .int .i64 t, .int .i64 n, Ytomilmaeiokaaaa.u64 g]] W (RetB (.tuple #[.string A, .int .i64 0]) W)) := fun W => by rw [hA]; exact text_ok b r d f t n g W hok
  have HPA := Lib.hid (fun W => parse_yes A W hAT)
  have HCK : Hid (∀ W, Calls Try.prog 20 #[.agg #[.int .i64 b, .int .i64 r, .int .i64 d, .int .i64 f, .int .i64 t, .int .i64 n, Ytomilmaeiokaaaa.u64 g]] W (RetB (.int .i64 0) W)) := fun W => by have := check_any b r d f t n g W; rw [chk_ok hok] at this; exact this
  clear hok hAT hA
  have HPS := Lib.hid (fun W => parse_no s W hy)
  clear hy
  have hne := fun w' => tok_neq b r d f t n g w'
  have hze := fun w' => tok_zero w'
  have HQ := Lib.hid (bk_mk0 w #[.int .i64 b, .int .i64 r, .int .i64 d, .int .i64 f, .int .i64 t, .int .i64 n, Ytomilmaeiokaaaa.u64 g] 36)
  go_enter Try.func9, Try.ntmps9
  go_wp2_with fail
  refine (HTX.out _).mono ?_
  rintro e w1 ⟨rfl, hb1⟩
  have HQ1 := bk_step HQ hb1
  clear hb1 HQ HTX
  obtain ⟨c0, c1, c2, c3, c4, c5, c6⟩ := tok_cells (w := w) (E := 0) HQ1.out.t
  go_wp2_with fail
  refine (HCK.out _).mono ?_
  rintro e w2 ⟨rfl, hb2⟩
  have HQ2 := bk_step HQ1 hb2
  clear hb2 HQ1 HCK c0 c1 c2 c3 c4 c5 c6
  go_wp2_with fail
  refine (HPA.out _).mono ?_
  rintro e w3 ⟨rfl, hb3⟩
  have HQ3 := bk_step (bk_step HQ2 hb3) (below_alloc w3 (.cells #[.int .i64 b, .int .i64 r, .int .i64 d, .int .i64 f, .int .i64 t, .int .i64 n, Ytomilmaeiokaaaa.u64 g] 36))
  have HX3 : Hid (BlkAt (w3.alloc (.cells #[.int .i64 b, .int .i64 r, .int .i64 d, .int .i64 f, .int .i64 t, .int .i64 n, Ytomilmaeiokaaaa.u64 g] 36)) w3.heap.size #[.int .i64 b, .int .i64 r, .int .i64 d, .int .i64 f, .int .i64 t, .int .i64 n, Ytomilmaeiokaaaa.u64 g]) := blkNew rfl
  clear hb3 HQ2 HPA
  go_upto_region 8 with (fail)
  generalize w3.alloc (.cells #[.int .i64 b, .int .i64 r, .int .i64 d, .int .i64 f, .int .i64 t, .int .i64 n, Ytomilmaeiokaaaa.u64 g] 36) = W3 at *
  generalize w3.heap.size = xb at *
  obtain ⟨c0, c1, c2, c3, c4, c5, c6⟩ := tok_cells (w := w) (E := 0) HQ3.out.t
  obtain ⟨d0, d1, d2, d3, d4, d5, d6⟩ := tok_cells (w := w) (E := 0) HX3.out
  go_upto_region 10 with (fail)
  clear c0 c1 c2 c3 c4 c5 c6 d0 d1 d2 d3 d4 d5 d6 HX3
  go_wp2_with fail
  refine (HPS.out _).mono ?_
  rintro e w4 ⟨rfl, hb4⟩
  have HQ4 := bk_step (bk_step HQ3 hb4) (below_alloc w4 (.cells #[.int .i64 0, .int .i64 0, .int .i64 0, .int .i64 0, .int .i64 0, .int .i64 0, .int .u64 0] 36))
  have HX4 : Hid (BlkAt (w4.alloc (.cells #[.int .i64 0, .int .i64 0, .int .i64 0, .int .i64 0, .int .i64 0, .int .i64 0, .int .u64 0] 36)) w4.heap.size #[.int .i64 0, .int .i64 0, .int .i64 0, .int .i64 0, .int .i64 0, .int .i64 0, .int .u64 0]) := blkNew rfl
  clear hb4 HQ3 HPS
  go_upto_region 11 with (fail)
  generalize w4.alloc (.cells #[.int .i64 0, .int .i64 0, .int .i64 0, .int .i64 0, .int .i64 0, .int .i64 0, .int .u64 0] 36) = W4 at *
  generalize w4.heap.size = yq at *
  obtain ⟨d0, d1, d2, d3, d4, d5, d6⟩ := tok_cells (w := w) (E := 0) HX4.out
  go_wp2_with fail
  refine (awake15_any _).mono ?_
  rintro e wz ⟨rfl, hbz⟩
  have HBZ := Lib.hid (below_step HQ4.out.lo hbz)
  clear hbz
  go_wp2
  go_ret
  exact ⟨rfl, HBZ.out⟩
set_option maxRecDepth 100000 in
set_option maxHeartbeats 2000000 in
theorem tokenBack_ok_yes (b r d f t n : Int) (g : BitVec 64) (s : ByteArray) (w : World) (h : ¬ (200 : Int) < (s.size : Int)) (hok : ¬ Tok.bad ⟨b, r, d, f, t, n⟩) (yb yr yd yf yt yn : Int) (yg : BitVec 64) (hy : TextOf s.data.toList yb yr yd yf yt yn yg) : Calls Try.prog 9 #[.agg #[.int .i64 b, .int .i64 r, .int .i64 d, .int .i64 f, .int .i64 t, .int .i64 n, Ytomilmaeiokaaaa.u64 g], .string s] w (RetB (.bool true) w) := by
  obtain ⟨A, hA⟩ : ∃ A : ByteArray, A = ⟨(txtB (encB b r d f t n g)).toArray⟩ := ⟨_, rfl⟩
  have hAT : TextOf A.data.toList b r d f t n g := by rw [hA]; exact ⟨hok, rfl⟩
  have HTX : Hid (∀ W, Calls Try.prog 29 #[.agg #[.int .i64 b, .int .i64 r, .int .i64 d, .int .i64 f, .int .i64 t, .int .i64 n, Ytomilmaeiokaaaa.u64 g]] W (RetB (.tuple #[.string A, .int .i64 0]) W)) := fun W => by rw [hA]; exact text_ok b r d f t n g W hok
  have HPA := Lib.hid (fun W => parse_yes A W hAT)
  have HCK : Hid (∀ W, Calls Try.prog 20 #[.agg #[.int .i64 b, .int .i64 r, .int .i64 d, .int .i64 f, .int .i64 t, .int .i64 n, Ytomilmaeiokaaaa.u64 g]] W (RetB (.int .i64 0) W)) := fun W => by have := check_any b r d f t n g W; rw [chk_ok hok] at this; exact this
  clear hok hAT hA
  have HPS := Lib.hid (fun W => parse_yes s W hy)
  have HTY : Hid (∀ W, Calls Try.prog 29 #[.agg #[.int .i64 yb, .int .i64 yr, .int .i64 yd, .int .i64 yf, .int .i64 yt, .int .i64 yn, Ytomilmaeiokaaaa.u64 yg]] W (RetB (.tuple #[.string s, .int .i64 0]) W)) := fun W => by
    have := text_ok yb yr yd yf yt yn yg W hy.1
    rw [hy.2] at this
    exact this
  clear hy
  have hne := fun w' => tok_neq b r d f t n g w'
  have hze := fun w' => tok_zero w'
  have HQ := Lib.hid (bk_mk0 w #[.int .i64 b, .int .i64 r, .int .i64 d, .int .i64 f, .int .i64 t, .int .i64 n, Ytomilmaeiokaaaa.u64 g] 36)
  go_enter Try.func9, Try.ntmps9
  go_wp2_with fail
  refine (HTX.out _).mono ?_
  rintro e w1 ⟨rfl, hb1⟩
  have HQ1 := bk_step HQ hb1
  clear hb1 HQ HTX
  obtain ⟨c0, c1, c2, c3, c4, c5, c6⟩ := tok_cells (w := w) (E := 0) HQ1.out.t
  go_wp2_with fail
  refine (HCK.out _).mono ?_
  rintro e w2 ⟨rfl, hb2⟩
  have HQ2 := bk_step HQ1 hb2
  clear hb2 HQ1 HCK c0 c1 c2 c3 c4 c5 c6
  go_wp2_with fail
  refine (HPA.out _).mono ?_
  rintro e w3 ⟨rfl, hb3⟩
  have HQ3 := bk_step (bk_step HQ2 hb3) (below_alloc w3 (.cells #[.int .i64 b, .int .i64 r, .int .i64 d, .int .i64 f, .int .i64 t, .int .i64 n, Ytomilmaeiokaaaa.u64 g] 36))
  have HX3 : Hid (BlkAt (w3.alloc (.cells #[.int .i64 b, .int .i64 r, .int .i64 d, .int .i64 f, .int .i64 t, .int .i64 n, Ytomilmaeiokaaaa.u64 g] 36)) w3.heap.size #[.int .i64 b, .int .i64 r, .int .i64 d, .int .i64 f, .int .i64 t, .int .i64 n, Ytomilmaeiokaaaa.u64 g]) := blkNew rfl
  clear hb3 HQ2 HPA
  go_upto_region 8 with (fail)
  generalize w3.alloc (.cells #[.int .i64 b, .int .i64 r, .int .i64 d, .int .i64 f, .int .i64 t, .int .i64 n, Ytomilmaeiokaaaa.u64 g] 36) = W3 at *
  generalize w3.heap.size = xb at *
  obtain ⟨c0, c1, c2, c3, c4, c5, c6⟩ := tok_cells (w := w) (E := 0) HQ3.out.t
  obtain ⟨d0, d1, d2, d3, d4, d5, d6⟩ := tok_cells (w := w) (E := 0) HX3.out
  go_upto_region 10 with (fail)
  clear c0 c1 c2 c3 c4 c5 c6 d0 d1 d2 d3 d4 d5 d6 HX3
  go_wp2_with fail
  refine (HPS.out _).mono ?_
  rintro e w4 ⟨rfl, hb4⟩
  have HQ4 := bk_step (bk_step HQ3 hb4) (below_alloc w4 (.cells #[.int .i64 yb, .int .i64 yr, .int .i64 yd, .int .i64 yf, .int .i64 yt, .int .i64 yn, Ytomilmaeiokaaaa.u64 yg] 36))
  have HX4 : Hid (BlkAt (w4.alloc (.cells #[.int .i64 yb, .int .i64 yr, .int .i64 yd, .int .i64 yf, .int .i64 yt, .int .i64 yn, Ytomilmaeiokaaaa.u64 yg] 36)) w4.heap.size #[.int .i64 yb, .int .i64 yr, .int .i64 yd, .int .i64 yf, .int .i64 yt, .int .i64 yn, Ytomilmaeiokaaaa.u64 yg]) := blkNew rfl
  clear hb4 HQ3 HPS
  go_upto_region 11 with (fail)
  generalize w4.alloc (.cells #[.int .i64 yb, .int .i64 yr, .int .i64 yd, .int .i64 yf, .int .i64 yt, .int .i64 yn, Ytomilmaeiokaaaa.u64 yg] 36) = W4 at *
  generalize w4.heap.size = yq at *
  obtain ⟨d0, d1, d2, d3, d4, d5, d6⟩ := tok_cells (w := w) (E := 0) HX4.out
  go_wp2_with fail
  refine (HTY.out _).mono ?_
  rintro e w5 ⟨rfl, hb5⟩
  have HQ5 := bk_step HQ4 hb5
  clear hb5 HQ4 d0 d1 d2 d3 d4 d5 d6 HX4 HTY
  go_wp2_with fail
  refine (awake15_any _).mono ?_
  rintro e wz ⟨rfl, hbz⟩
  have HBZ := Lib.hid (below_step HQ5.out.lo hbz)
  clear hbz
  go_wp2
  go_ret
  exact ⟨rfl, HBZ.out⟩
theorem tokenBack_walk (b r d f t n : Int) (g : BitVec 64) (s : ByteArray) (w : World) : Calls Try.prog 9 #[.agg #[.int .i64 b, .int .i64 r, .int .i64 d, .int .i64 f, .int .i64 t, .int .i64 n, Ytomilmaeiokaaaa.u64 g], .string s] w (RetB (.bool true) w) := by
  by_cases h : (200 : Int) < (s.size : Int)
  · exact tokenBack_long b r d f t n g s w h
  · by_cases hy : ∃ yb yr yd yf yt yn yg, TextOf s.data.toList yb yr yd yf yt yn yg
    · obtain ⟨yb, yr, yd, yf, yt, yn, yg, hy⟩ := hy
      by_cases hb : Tok.bad ⟨b, r, d, f, t, n⟩
      · exact tokenBack_bad_yes b r d f t n g s w h hb yb yr yd yf yt yn yg hy
      · exact tokenBack_ok_yes b r d f t n g s w h hb yb yr yd yf yt yn yg hy
    · have hn : ∀ b r d f t n g, ¬ TextOf s.data.toList b r d f t n g := fun b r d f t n g e => hy ⟨b, r, d, f, t, n, g, e⟩
      by_cases hb : Tok.bad ⟨b, r, d, f, t, n⟩
      · exact tokenBack_bad_no b r d f t n g s w h hb hn
      · exact tokenBack_ok_no b r d f t n g s w h hb hn
end Go.Proofs.Ytomilmaeiokaaaa
