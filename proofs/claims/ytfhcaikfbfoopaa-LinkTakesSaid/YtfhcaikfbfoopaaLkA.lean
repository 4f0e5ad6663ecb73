/-
  LINK, THE LAWS: awake.
-/
import Derived.Test.YtfhcaikfbfoopaaProg
import Derived.Test.YtfhcaikfbfoopaaBase1
import Derived.Test.YtfhcaikfbfoopaaBase2
import Derived.Test.YtfhcaikfbfoopaaBase3
import Derived.Test.YtfhcaikfbfoopaaBase5
import Derived.Test.YtfhcaikfbfoopaaBase6
import Derived.Test.YtfhcaikfbfoopaaBase11
import Derived.Test.YtfhcaikfbfoopaaBase14
import Derived.Test.YtfhcaikfbfoopaaHeld
import Derived.Test.YtfhcaikfbfoopaaFlat
import Derived.Test.YtfhcaikfbfoopaaLkP
import Derived.Test.YtfhcaikfbfoopaaLk1
import Derived.Test.YtfhcaikfbfoopaaLk2
import Derived.Test.YtfhcaikfbfoopaaLk3
import Derived.Test.YtfhcaikfbfoopaaLk4
import Derived.Test.YtfhcaikfbfoopaaLk5
import Derived.Test.YtfhcaikfbfoopaaLk6
import Derived.Test.YtfhcaikfbfoopaaLk7
import Derived.Test.YtfhcaikfbfoopaaLk8
import Derived.Test.YtfhcaikfbfoopaaLk9
import Derived.BigQuiet
import Derived.Laws.StructEq
import Derived.StillTailTactics
import Derived.RegionTactic
import Derived.Deep.DeepCutAuto
import Derived.Deep.QuietTactic
import Derived.WalkSpells
import Derived.WalkLawsBesides
namespace Go.Proofs.Ytfhcaikfbfoopaa
open Go.RowKit Go.Maps
set_option linter.unusedVariables false

def q12 : Qf := fun j => if j = 1 then some [8] else none
def q12b : Qf := (drain 17 [] (fun j => if j = 0 then some [7] else q12 j)).2
theorem tk12a : takeA ([].map Bv.bs) (absF fun _ => none) 1 [8] = ([], q12, 0) := by rfl
theorem tk12b : takeA [] q12 0 [7] = ([[7], [8]], q12b, 0) := by rfl
theorem q12b_key : ∀ k x, q12b k = some x → k < 2 := by
  intro k x h
  have e : q12b = fun j => if j = 1 then none else if j = 0 then none else if j = 0 then some [7] else q12 j := by
    rfl
  rw [e] at h
  by_cases h1 : k = 1
  · omega
  · by_cases h0 : k = 0
    · omega
    · simp [h1, h0, q12] at h
theorem tk12c : takeA [[7], [8]] q12b 0 [8] = ([[7], [8]], q12b, 21) := by rfl
theorem tk12d : takeA [[7], [8]] q12b 18 [] = ([[7], [8]], q12b, 8) := by rfl
theorem q12_key : ∀ k x, q12 k = some x → k < 16 := by
  intro k x h
  unfold q12 at h
  by_cases h1 : k = 1
  · omega
  · simp [h1] at h
theorem frW_new {w W W' : World} {g k r b n k' : Nat} {v u fu : Value} {xs ys zs : List Bv} {D : DataW Value} {f : Kf} (h : Hid (LkW w g v k xs r b u n D ys f W)) (hf : FrsAt W.heap.size W' fu k' zs) : FrW W.heap.size fu k' zs (rF r b u) W' := ⟨hf, fun j hj hj' => absurd (h.out.rc.lt j hj').1 (Nat.not_lt.2 (own_ltF hf.row (mem_own.1 hj)).2.1)⟩
theorem fr2 {B fb fo fc c0 c1 : Nat} {a0 a1 : Option Addr} {b0 b1 : List UInt8} {L : List Nat} {W : World} (h : Hid (FrW B (.slice (some ⟨fb, fo, none⟩) 2 fc) 0 [⟨a0, c0, b0⟩, ⟨a1, c1, b1⟩] L W)) :
    W.cell? ⟨fb, fo, none⟩ = some (.int .i64 0) ∧ W.cell? ⟨fb, fo + 1, none⟩ = some (.slice a0 b0.length c0) ∧ W.cell? ⟨fb, fo + 2, none⟩ = some (.int .i64 1) ∧ W.cell? ⟨fb, fo + 2 + 1, none⟩ = some (.slice a1 b1.length c1) ∧ Hid (Sl W 1 a0 b0.length c0 (cs b8 b0)) ∧ Hid (Sl W 1 a1 b1.length c1 (cs b8 b1)) := by
  obtain ⟨fb1, fo1, e, hc0, hd0, hbd0⟩ := h.out.at_.cells (n := 2) rfl 0 (by decide)
  cases e
  obtain ⟨fb2, fo2, e, hc1, hd1, hbd1⟩ := h.out.at_.cells (n := 2) rfl 1 (by decide)
  cases e
  exact ⟨hc0, hd0, hc1, hd1, Lib.hid hbd0.sl, Lib.hid hbd1.sl⟩
set_option maxRecDepth 100000 in
set_option maxHeartbeats 4000000 in
theorem awake12_any (w : World) : Calls Try.prog 19 #[] w (RetB (.bool true) w) := by
  go_enter Try.func19, Try.ntmps19
  go_wp2_with fail
  refine (newSender_any _).mono ?_
  rintro e w1 ⟨rfl, hs1, hb1⟩
  go_wp2_with fail
  refine (newReceiver_any _).mono ?_
  rintro e w2 ⟨rfl, hr2, hb2⟩
  have HL := lkwStart hs1 hb1 hr2 hb2
  generalize w1.heap.size + 1 = r at *
  generalize w1.heap.size = b at *
  clear hs1 hb1 hr2 hb2
  obtain ⟨g, hg⟩ : ∃ g, g = w.heap.size := ⟨_, rfl⟩
  rw [← hg] at HL ⊢
  have HLa := lkwBelow (below_alloc w2 (.cells #[.int .u8 7] 5)) HL
  have HSa := Lib.hid (sl_lit (f := b8) w2 5 [7] #[.int .u8 7] rfl 1 rfl (by omega))
  clear hg
  go_wp2_with fail
  refine (lkwPut HLa _ 1 1 [7] HSa.out (by decide) (by decide) (by decide) 0 rfl).mono ?_
  rintro e w3 ⟨rfl, v3, x3, hx3, HL3, _⟩
  clear HLa HSa HL
  have HX3 := Lib.hid hx3
  have HLa := lkwBelow (below_alloc w3 (.cells #[.int .u8 8] 5)) HL3
  have HSa := Lib.hid (sl_lit (f := b8) w3 5 [8] #[.int .u8 8] rfl 1 rfl (by omega))
  clear hx3
  go_wp2_with fail
  refine (lkwPut HLa _ 1 1 [8] HSa.out (by simp) (by decide) (by simp) 1 (by simp)).mono ?_
  rintro e w4 ⟨rfl, v4, x4, hx4, HL4, _⟩
  clear HLa HSa HL3
  have HX4 := Lib.hid hx4
  have HLa : Hid (LkW w g v4 0 [x3, x4] r b (.slice none 0 0) 0 (.map []) [] (fun _ => none) w4) := HL4
  have HBL : Hid (∀ x ∈ [x3, x4], x.bs.length ≤ 256) := fun x hx => by
    simp at hx
    rcases hx with rfl | rfl
    · rw [HX3.out]; decide
    · rw [HX4.out]; decide
  clear HL4 hx4
  go_wp2_with fail
  refine (frames_any (lkwS HLa) (by decide) (by simp) HBL.out).mono ?_
  rintro e w5 ⟨fa, fc, zs, rfl, hzs, hf, hb5⟩
  obtain ⟨z0, z1, rfl, hz0, hz1⟩ : ∃ z0 z1, zs = [z0, z1] ∧ z0.bs = [7] ∧ z1.bs = [8] := by
    match zs, hzs with
    | [z0, z1], e => simp [HX3.out, HX4.out] at e; exact ⟨z0, z1, rfl, e⟩
    | [], e => simp at e
    | [z0], e => simp at e
    | z0 :: z1 :: z2 :: t, e => simp at e
  have HZ0 := Lib.hid hz0
  have HZ1 := Lib.hid hz1
  have HF := Lib.hid (frW_new HLa hf.out)
  have HL5 := lkwBelow hb5 HLa
  clear hzs hz0 hz1 hf hb5 HLa HBL
  obtain ⟨z0a, z0c, z0b⟩ := z0
  obtain ⟨z1a, z1c, z1b⟩ := z1
  dsimp only at HZ0 HZ1
  have hz0 := HZ0.out
  subst hz0
  have hz1 := HZ1.out
  subst hz1
  obtain ⟨fb, fo, e, _⟩ := HF.out.at_.cells (fa := fa) (n := 2) rfl 0 (by decide)
  subst e
  obtain ⟨c0, d0, c1, d1, S0, S1⟩ := fr2 HF
  clear HZ0 HZ1
  go_wp2_with fail
  refine (lkwTakeAny HL5 1 z1a 1 z1c [8] S1.out (by decide) (by decide) (fun k x e => by cases e) [] q12 0 (Lib.hid tk12a)).mono ?_
  rintro e w6 ⟨rfl, u6, n6, D6, ys6, f6, hn6, ha6, HL6, ht6⟩
  have HF6 := Lib.hid (HF.out.tr ht6.out)
  clear c0 d0 c1 d1 S0 S1 HL5 HF ht6
  obtain rfl : ys6 = [] := by simpa using ha6.out.1
  have HN6 := Lib.hid hn6
  clear hn6
  go_wp2_with fail
  refine (acked_any (lkwR HL6)).mono ?_
  rintro e w7 ⟨rfl, hw⟩
  subst w7
  obtain ⟨c0, d0, c1, d1, S0, S1⟩ := fr2 HF6
  go_wp2_with fail
  refine (lkwTakeAny HL6 0 z0a 1 z0c [7] S0.out (by decide) (by have := HN6.out; omega) (key_abs ha6.out.2 q12_key) [[7], [8]] q12b 0 (Lib.hid (by rw [ha6.out.2]; exact tk12b))).mono ?_
  rintro e w7 ⟨rfl, u7, n7, D7, ys7, f7, hn7, ha7, HL7, _⟩
  have HN7 := Lib.hid hn7
  have HLen7 : Hid (ys7.length = 2) := Lib.hid (by have := congrArg List.length ha7.out.1; simpa using this)
  have HAK : Hid (∀ W, Hid (RecAt w.heap.size W r u7 b n7 D7 ys7 f7) → Calls Try.prog 31 #[.pointer (some ⟨r, 0, none⟩)] W (fun e W' => e = .returned (.int .i64 2) ∧ W' = W)) := fun W h => by
    have := acked_any h
    rw [HLen7.out] at this
    exact this
  clear c0 d0 c1 d1 S0 S1 HL6 HF6 hn7
  go_wp2_with fail
  refine (HAK.out _ (lkwR HL7)).mono ?_
  rintro e w8 ⟨rfl, hw⟩
  subst w8
  have HLa := lkwBelow (below_alloc w7 (.cells #[.int .u8 8] 5)) HL7
  have HSa := Lib.hid (sl_lit (f := b8) w7 5 [8] #[.int .u8 8] rfl 1 rfl (by omega))
  go_wp2_with fail
  refine (lkwTakeAny HLa 0 _ 1 1 [8] HSa.out (by rw [HLen7.out]; decide) (by have := HN6.out; have := HN7.out; omega) (key_abs ha7.out.2 (fun k x e => by have := q12b_key k x e; omega)) [[7], [8]] q12b 21 (Lib.hid (by rw [ha7.out.1, ha7.out.2]; exact tk12c))).mono ?_
  rintro e w8 ⟨rfl, u8, n8, D8, ys8, f8, hn8, ha8, HL8, _⟩
  have HN8 := Lib.hid hn8
  have HLen8 : Hid (ys8.length = 2) := Lib.hid (by have := congrArg List.length ha8.out.1; simpa using this)
  clear HLa HSa HL7 HAK hn8
  go_wp2_with fail
  refine (lkwAck HL8 2 (by decide) (by simp) (by simp) 2 (by simp)).mono ?_
  rintro e w9 ⟨rfl, v9, HL9', _⟩
  have HL9 : Hid (LkW w g v9 2 [] r b u8 n8 D8 ys8 f8 w9) := HL9'
  clear HL9' HL8
  go_wp2_with fail
  refine (frames_any (lkwS HL9) (by decide) (by simp) (fun x hx => by simp at hx)).mono ?_
  rintro e w10 ⟨ga, gc, zs, rfl, _, _, hb10⟩
  have HL10 := lkwBelow hb10 HL9
  clear hb10 HL9
  go_wp2_with fail
  refine (ack_over (lkwS HL10) 3 (by decide) (by decide)).mono ?_
  rintro e w11 ⟨rfl, hb11⟩
  have HL11 := lkwBelow hb11 HL10
  clear hb11 HL10
  go_wp2_with fail
  refine (lkwTakeAny HL11 18 none 0 0 [] (Sl.nil w11 1) (by rw [HLen8.out]; decide) (by have := HN6.out; have := HN7.out; have := HN8.out; omega) (key_abs ha8.out.2 (fun k x e => by have := q12b_key k x e; omega)) [[7], [8]] q12b 8 (Lib.hid (by rw [ha8.out.1, ha8.out.2]; exact tk12d))).mono ?_
  rintro e w12 ⟨rfl, u12, n12, D12, ys12, f12, _, _, HL12, _⟩
  have HLO := Lib.hid HL12.out.lo
  clear HL12 HL11
  go_wp2
  go_ret
  exact ⟨rfl, HLO.out⟩
end Go.Proofs.Ytfhcaikfbfoopaa
