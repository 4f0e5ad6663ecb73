/-
  TOKENS, THE REFERENCE: Parse.
-/
import Derived.Test.YtomilmaeiokaaaaProg
import Derived.Test.YtomilmaeiokaaaaBase15
import Derived.Test.YtomilmaeiokaaaaMacP
import Derived.Test.YtomilmaeiokaaaaTokP
import Derived.Test.YtomilmaeiokaaaaTkP
import Derived.Test.YtomilmaeiokaaaaTkV
import Derived.Test.YtomilmaeiokaaaaTkT
import Derived.Test.YtomilmaeiokaaaaTkX
import Derived.Test.YtomilmaeiokaaaaTkY
import Derived.Test.YtomilmaeiokaaaaTkR
import Derived.Test.YtomilmaeiokaaaaTkC2
import Derived.Test.YtomilmaeiokaaaaTkP2
import Derived.Test.YtomilmaeiokaaaaTkT2
import Derived.Test.YtomilmaeiokaaaaWire6
import Derived.Test.YtomilmaeiokaaaaWire3R
import Derived.Test.YtomilmaeiokaaaaTok1
import Derived.Test.YtomilmaeiokaaaaTok2
import Derived.Test.YtomilmaeiokaaaaTok2R
import Derived.Test.YtomilmaeiokaaaaHeld
import Derived.BigQuiet
import Derived.Laws.StructEq
import Derived.StillTailTactics
import Derived.RegionTactic
import Derived.BigRegion
import Derived.Deep.DeepCutAuto
import Derived.Deep.QuietTactic
import Derived.WalkSpells
import Derived.WalkLawsBesides
namespace Go.Proofs.Ytomilmaeiokaaaa
open Go.RowKit
set_option linter.unusedVariables false

theorem results_cell_tmpP {fn : Func} {p q : Tmp} {ty : TypeId} (h : fn.results = #[.cell p ty, .tmp q]) (tmps : Array Value) (P : Program) (w : World) :
    (results fn tmps).run P w = ((asAddr (tmps.getD p undef)).run P w).andThen fun a w1 => ((loadVar ty a).run P w1).andThen fun v w2 => .ok (.tuple #[v, tmps.getD q undef]) w2 := by
  simp only [results, h]
  simp [Sem.run_bind, Result.andThen]
theorem infoIP : (Try.prog.info? 3).map (fun i => (i.zero, i.size, i.bytes)) = some (some (.int .i64 0), 1, 8) := by kernel_rfl
def lst6 (l : List Int) : List Int := l ++ List.replicate (6 - l.length) 0
theorem lst6_set (l : List Int) (n : Int) (h : l.length < 6) : (lst6 l).set l.length n = lst6 (l ++ [n]) := by
  unfold lst6
  obtain ⟨q, hq⟩ : ∃ q, 6 - l.length = q + 1 := ⟨6 - l.length - 1, by omega⟩
  rw [hq, List.length_append, show 6 - (l.length + [n].length) = q from by simp; omega, List.replicate_succ]
  rw [List.set_append_right _ _ (Nat.le_refl _)]
  simp
/-- The state while the numbers are read. -/
structure RfP (w w2 : World) (l : List Int) (W : World) : Prop where
  r : BlkAt W w.heap.size #[.int .i64 0, .int .i64 0, .int .i64 0, .int .i64 0, .int .i64 0, .int .i64 0, .int .u64 0]
  a : W.ownsRow w2.heap.size 3 1 (.slice (some ⟨w2.heap.size, 0, none⟩) 6 6) 6 (cs i64v (lst6 l))
  lo : Below w2.heap.size w2 W
  bw : Below w.heap.size w w2
  hlt : w.heap.size < w2.heap.size
theorem RfP.set {w w2 : World} {l : List Int} {W : World} (h : RfP w w2 l W) (hl : l.length < 6) (n : Int) : RfP w w2 (l ++ [n]) (W.setCell ⟨w2.heap.size, l.length, none⟩ (.int .i64 n)) := by
  have ho := own_set h.a l.length n
  rw [lst6_set l n hl] at ho
  have hlt := (own_cell h.a l.length hl 0)
  refine ⟨?_, ho, h.lo.setCell (p := ⟨w2.heap.size, l.length, none⟩) (Nat.le_refl _) _, h.bw, h.hlt⟩
  refine blkX_other h.r ?_
  have := h.hlt
  show w.heap.size ≠ w2.heap.size
  omega
set_option maxRecDepth 100000 in
set_option maxHeartbeats 1000000 in
theorem refParse_dec (s : ByteArray) (w : World) (hs : s.data.toList.length ≤ 200) (m : Nat) (hm : m < s.data.toList.length) (hall : ∀ j, j < m → idxA (s.data.toList.getD j 0) < 32) (hbad : ¬ idxA (s.data.toList.getD m 0) < 32) : Calls Try.prog 32 #[.string s] w (RetB (.tuple #[zeroTok, .int .i64 3]) w) := by
  have HD := Lib.hid (fun w => packed_bad s w hs m hm hall hbad)
  have HQ : Hid (BlkAt (w.alloc (.cells #[.int .i64 0, .int .i64 0, .int .i64 0, .int .i64 0, .int .i64 0, .int .i64 0, .int .u64 0] 36)) w.heap.size #[.int .i64 0, .int .i64 0, .int .i64 0, .int .i64 0, .int .i64 0, .int .i64 0, .int .u64 0] ∧ Below w.heap.size w (w.alloc (.cells #[.int .i64 0, .int .i64 0, .int .i64 0, .int .i64 0, .int .i64 0, .int .i64 0, .int .u64 0] 36))) := ⟨blkNew rfl, below_alloc _ _⟩
  clear hs hm hall hbad
  go_enter Try.func32, Try.ntmps32
  go_wp2_with fail
  refine (HD.out _).mono ?_
  rintro e w2 ⟨rfl, hb⟩
  have HQ2 := Lib.hid (And.intro (blkBelow hb HQ.out.1) (below_step HQ.out.2 hb))
  clear hb HQ
  obtain ⟨z0, z1, z2, z3, z4, z5, z6⟩ := tok_cells (w := w) (E := 0) HQ2.out.1
  have e0 := blkX_frozen (i := 0) HQ2.out.1
  have e1 := blkX_frozen (i := 1) HQ2.out.1
  have e2 := blkX_frozen (i := 2) HQ2.out.1
  have e3 := blkX_frozen (i := 3) HQ2.out.1
  have e4 := blkX_frozen (i := 4) HQ2.out.1
  have e5 := blkX_frozen (i := 5) HQ2.out.1
  have e6 := blkX_frozen (i := 6) HQ2.out.1
  go_wp2
  refine bodyPost_ret (v := .tuple #[zeroTok, .int .i64 3]) ?_ rfl ⟨rfl, ?_⟩
  · rw [results_cell_tmpP rfl]
    go_simp
  · exact belowR0 HQ2.out.2
set_option maxRecDepth 100000 in
set_option maxHeartbeats 2000000 in
theorem refParse_rd (s : ByteArray) (w : World) (hs : s.data.toList.length ≤ 200) (hall : ∀ j, j < s.data.toList.length → idxA (s.data.toList.getD j 0) < 32) (hbad : rdS (decB s.data.toList) 6 = none) : Calls Try.prog 32 #[.string s] w (RetB (.tuple #[zeroTok, .int .i64 3]) w) := by
  have HD := Lib.hid (fun w => packed_ok s w hs hall)
  have hdl := decB_len s.data.toList hs
  have HQ : Hid (BlkAt (w.alloc (.cells #[.int .i64 0, .int .i64 0, .int .i64 0, .int .i64 0, .int .i64 0, .int .i64 0, .int .u64 0] 36)) w.heap.size #[.int .i64 0, .int .i64 0, .int .i64 0, .int .i64 0, .int .i64 0, .int .i64 0, .int .u64 0] ∧ Below w.heap.size w (w.alloc (.cells #[.int .i64 0, .int .i64 0, .int .i64 0, .int .i64 0, .int .i64 0, .int .i64 0, .int .u64 0] 36))) := ⟨blkNew rfl, below_alloc _ _⟩
  clear hs hall
  obtain ⟨bs, hbs⟩ : ∃ bs, decB s.data.toList = bs := ⟨_, rfl⟩
  rw [hbs] at HD hdl hbad
  clear hbs
  have HBAD := Lib.hid hbad
  clear hbad
  obtain ⟨N, hN⟩ : ∃ N, bs.length = N := ⟨_, rfl⟩
  rw [hN] at HD hdl
  have HN := Lib.hid hN
  clear hN
  go_enter Try.func32, Try.ntmps32
  go_wp2_with fail
  refine (HD.out _).mono ?_
  rintro e w2 ⟨a2, c2, rfl, HS2, hb⟩
  have hblk2 := blkBelow hb HQ.out.1
  have hlt2 := blk_lt9 hblk2
  have hbw2 := below_step HQ.out.2 hb
  clear hb HQ
  go_wp2_with (refine wpList_make_typed i64v 0 _ rfl _ _ 23 rfl 3 (.int .i64 0) 8 Try.underlying23 infoIP rfl .i64 .i64 _ _ 6 rfl rfl rfl rfl (by omega) (by unfold maxLen; omega) ?_)
  intro w3 ho3 hb3
  have HP : Hid (RfP w w2 [] w3) := Lib.hid ⟨blkBelow (hb3.mono (Nat.le_refl _)) hblk2, ho3, hb3, hbw2, hlt2⟩
  clear ho3 hb3 hblk2 hbw2 hlt2
  go_upto_region 7 with (fail)
  go_loopw [7, 8, 9, 10, 11] (fun av i _ _ _ wr => ∃ (k : Nat) (l0 : List Int) (a0 : Int), k ≤ 6 ∧ i = .int .i64 k ∧ av = .int .i64 a0 ∧ Hid (rdS bs k = some (l0, a0)) ∧ Hid (RfP w w2 l0 wr)) (fun _ i _ _ _ _ => 6 - (intOf i).toNat)
  case atStart => exact ⟨0, [], 0, by omega, rfl, rfl, rfl, HP⟩
  case round =>
    obtain ⟨k, l0, a0, hk, rfl, rfl, HK, HR⟩ := hrel
    clear HP
    by_cases hk6 : k < 6
    · have hk6' : (k : Int) < 6 := by omega
      have hk0 : (0 : Int) ≤ (k : Int) := by omega
      obtain ⟨⟨n, nx, er⟩, hr⟩ : ∃ r, intRes bs a0 = r := ⟨_, rfl⟩
      have HR0 := Lib.hid hr
      have hl0 := (rdS_len k HK.out).1
      by_cases her : er = 0
      · subst her
        have HNX := Lib.hid (rdS_some HK.out hr)
        have HRS := Lib.hid (RfP.set HR.out (by omega) n)
        rw [hl0] at HRS
        obtain ⟨hc, hf, z1, z2⟩ := own_cell HR.out.a k hk6 0
        clear hr hl0 HK
        go_wp2_with fail
        refine (refInt_val (HS2.out.ext HR.out.lo) (by omega) HR0).mono ?_
        rintro e w1 ⟨rfl, hw⟩
        subst w1
        go_wp2
        go_roundw
        case rel => exact ⟨k + 1, l0 ++ [n], nx, by omega, by go_num, rfl, HNX, HRS⟩
        case measure => simp [intOf]; omega
      · clear hr hl0 HK
        obtain ⟨z0, z1, z2, z3, z4, z5, z6⟩ := tok_cells (w := w) (E := 0) HR.out.r
        have e0 := blkX_frozen (i := 0) HR.out.r
        have e1 := blkX_frozen (i := 1) HR.out.r
        have e2 := blkX_frozen (i := 2) HR.out.r
        have e3 := blkX_frozen (i := 3) HR.out.r
        have e4 := blkX_frozen (i := 4) HR.out.r
        have e5 := blkX_frozen (i := 5) HR.out.r
        have e6 := blkX_frozen (i := 6) HR.out.r
        have HBL := Lib.hid (below_step HR.out.bw HR.out.lo)
        go_wp2_with fail
        refine (refInt_val (HS2.out.ext HR.out.lo) (by omega) HR0).mono ?_
        rintro e w1 ⟨rfl, hw⟩
        subst w1
        go_wp2
        refine bodyPost_ret (v := .tuple #[zeroTok, .int .i64 3]) ?_ rfl ⟨rfl, ?_⟩
        · rw [results_cell_tmpP rfl]
          go_simp
        · exact belowR0 HBL.out
    · exfalso
      obtain rfl : k = 6 := by omega
      have := HK.out
      rw [HBAD.out] at this
      cases this
end Go.Proofs.Ytomilmaeiokaaaa
