/-
  MAC, THE WALKS: awake (chapter 06).
-/
import Derived.Test.YtmanoeimnipjjaaProg
import Derived.Test.YtmanoeimnipjjaaBase3
import Derived.Test.YtmanoeimnipjjaaBase5
import Derived.Test.YtmanoeimnipjjaaMac1
import Derived.Test.YtmanoeimnipjjaaMac4D
import Derived.Test.YtmanoeimnipjjaaHeld
import Derived.Test.YtmanoeimnipjjaaWire6
import Derived.Test.YtmanoeimnipjjaaBase6
import Derived.Test.YtmanoeimnipjjaaWire2
import Derived.BigQuiet
import Derived.StillTailTactics
import Derived.RegionTactic
import Derived.Deep.DeepCutAuto
import Derived.Deep.QuietTactic
import Derived.WalkSpells
import Derived.WalkLawsBesides
namespace Go.Proofs.Ytmanoeimnipjjaa
open Go.RowKit
set_option linter.unusedVariables false

def KA : BitVec 64 := 506097522914230528#64
def KB : BitVec 64 := 1084818905618843912#64
abbrev KEY : Value := .agg #[.int .u64 506097522914230528, .int .u64 1084818905618843912]
theorem key_eq : KEY = .agg #[u64 KA, u64 KB] := rfl
/-- The bytes 0, 1, ... -/
def cnt : Nat → List UInt8
  | 0 => []
  | k + 1 => cnt k ++ [UInt8.ofNat ((k : Int) % 256).toNat]

set_option maxRecDepth 100000 in
set_option maxHeartbeats 1000000 in
theorem counting_any (n : Nat) (w : World) (hn : n ≤ 1000000) : Calls Try.prog 69 #[.int .i64 (n : Int)] w (RetOwn w 5 n (cs b8 (cnt n))) := by
  go_enter Try.func69, Try.ntmps69
  go_wp2_with fail
  go_loopw [3, 4] (fun v i wr => ∃ k : Nat, k ≤ n ∧ i = .int .i64 k ∧ wr.ownsRow w.heap.size 5 1 v k (cs b8 (cnt k)) ∧ Below w.heap.size w wr) (fun _ i _ => n - (intOf i).toNat)
  case atStart => exact ⟨0, by omega, rfl, World.ownsRow_nil _ _ _ _, Below.refl _ _⟩
  case round =>
    obtain ⟨k, hk, rfl, hacc, hb⟩ := hrel
    have hz := hb.size
    by_cases hkn : k < n
    · go_wp2_with (at_builtin; refine wpList_append_one b8 (fun _ => rfl) _ rfl _ _ 22 rfl w.heap.size 5 _ (.int .u8 0) 1 Try.underlying22 Try.infoU8 rfl (.own hacc) rfl _ rfl (by unfold maxLen; omega) (by omega) (by omega) ?_)
      intro v' w' ho hg hb'
      go_wp2
      go_roundw
      case rel => exact ⟨k + 1, by omega, by go_num, ho, hb.trans hb'⟩
      case measure => simp [intOf]; omega
    · obtain rfl : k = n := by omega
      go_wp2
      go_ret
      exact ⟨_, rfl, hacc, hb⟩

theorem sl_blk {W : World} {g : Nat} {α : Type} {f : α → Value} {xs : List α} {C : Array Value} (h : BlkAt W g C) (hC : C = (cs f xs).toArray) (n : Nat) (hn : n = xs.length) (hm : n ≤ 1000000000) : Sl W 1 (some ⟨g, 0, none⟩) n n (cs f xs) := by
  obtain ⟨E, h⟩ := h
  subst hC; subst hn
  refine ⟨by rw [cs_length]; omega, Nat.le_refl _, by unfold maxLen; omega, (fun h => by cases h), fun j u hj => ⟨g, 0, rfl, ?_⟩⟩
  rw [Nat.zero_add, cell_of_row _ _ _ _ _ _ h]
  simpa using hj
theorem cnt15 (W : World) : Calls Try.prog 69 #[.int .i64 15] W (fun e w2 => ∃ N a c, e = .returned (.slice a N c) ∧ Hid (Sl w2 1 a N c (cs b8 (cnt 15)) ∧ N ≤ 1000000000) ∧ Below W.heap.size W w2) := by
  refine (counting_any 15 W (by decide)).mono ?_
  rintro e w2 ⟨v, rfl, ho, hb⟩
  obtain ⟨N, a, c, rfl, s⟩ := sl_own ho
  have := s.count
  have e15 : (cnt 15).length = 15 := by decide
  exact ⟨N, a, c, rfl, ⟨s, by omega⟩, hb⟩
theorem sumCnt {W : World} {a : Option Addr} {N c : Nat} (hs : Hid (Sl W 1 a N c (cs b8 (cnt 15)) ∧ N ≤ 1000000000)) : Calls Try.prog 31 #[KEY, .slice a N c] W (RetB (.int .u64 11613035633349379557) W) := by
  have h := sum_any KA KB (cnt 15) a N c W hs.out.1 hs.out.2
  rw [show sipSum KA KB (cnt 15) = 11613035633349379557#64 from by decide +kernel] at h
  exact h
theorem sumNil (W : World) : Calls Try.prog 31 #[KEY, .slice none 0 0] W (RetB (.int .u64 8246050544436514353) W) := by
  have h := sum_any KA KB [] none 0 0 W (Sl.nil _ _) (by decide)
  rw [show sipSum KA KB [] = 8246050544436514353#64 from by decide +kernel] at h
  exact h
theorem sum421 {W : World} {g : Nat} (h : BlkAt W g #[.int .u8 4, .int .u8 2, .int .u8 1]) : Calls Try.prog 31 #[KEY, .slice (some ⟨g, 0, none⟩) 3 3] W (RetB (u64 (sipSum KA KB [4, 2, 1])) W) :=
  sum_any KA KB [4, 2, 1] _ 3 3 W (sl_blk h rfl 3 rfl (by decide)) (by decide)
theorem sum0 {W : World} {g : Nat} (h : BlkAt W g #[.int .u8 0]) : Calls Try.prog 31 #[KEY, .slice (some ⟨g, 0, none⟩) 1 1] W (RetB (u64 (sipSum KA KB [0])) W) :=
  sum_any KA KB [0] _ 1 1 W (sl_blk h rfl 1 rfl (by decide)) (by decide)
theorem tag11 {W : World} {g : Nat} (h : BlkAt W g #[.int .i64 1, .int .i64 (-1)]) : Calls Try.prog 30 #[KEY, .slice (some ⟨g, 0, none⟩) 2 2] W (RetB (u64 (sipSum KA KB [4, 2, 1])) W) := by
  have := tag_s (x := 1) (y := -1) (ka := KA) (kb := KB) ⟨by decide, by decide⟩ (by decide) h
  rw [show putInts [1, -1] = [4, 2, 1] from by decide +kernel] at this
  exact this
theorem tag31 {W : World} {g : Nat} (h : BlkAt W g #[.int .i64 3, .int .i64 1]) : Calls Try.prog 30 #[KEY, .slice (some ⟨g, 0, none⟩) 2 2] W (RetB (u64 (sipSum KA KB (putInts [3, 1]))) W) :=
  tag_s (x := 3) (y := 1) (ka := KA) (kb := KB) ⟨by decide, by decide⟩ (by decide) h
theorem tagNil (W : World) : Calls Try.prog 30 #[KEY, .slice none 0 0] W (RetB (u64 (sipSum KA KB [0])) W) := by
  have := tag_any KA KB [] none 0 0 W (Sl.nil _ _) (by intro n hn; cases hn) (by decide)
  rw [show putInts [] = [0] from by decide +kernel] at this
  exact this
theorem der3 (W : World) : Calls Try.prog 70 #[KEY, .int .i64 3] W (RetB (.agg #[u64 (sipSum KA KB (putInts [3, 0])), u64 (sipSum KA KB (putInts [3, 1]))]) W) :=
  derive_any KA KB 3 W (by decide)

theorem field_A (x y : BitVec 64) (w' : World) : (Instr.field 32 (.agg #[u64 x, u64 y]) 0).run Try.prog w' = .ok (u64 x) w' := by
  kernel_rfl
theorem field_B (x y : BitVec 64) (w' : World) : (Instr.field 32 (.agg #[u64 x, u64 y]) 1).run Try.prog w' = .ok (u64 y) w' := by
  kernel_rfl

set_option maxRecDepth 100000 in
set_option maxHeartbeats 40000000 in
theorem awake06_any (w : World) : Calls Try.prog 28 #[] w (RetB (.bool true) w) := by
  have hfB := field_B
  go_enter Try.func28, Try.ntmps28
  go_wp2_with fail
  go_region_held3 (fun w' => w'.cell? ⟨w.heap.size, 0, none⟩ = some (.int .u64 506097522914230528) ∧ w'.cell? ⟨w.heap.size, 1, none⟩ = some (.int .u64 1084818905618843912) ∧ Below w.heap.size w w')
    (repeat (with_reducible first | exact keep3_0 _ _ _ _ | assumption | refine keep3D ?_ | refine keep3A _ ?_ | (apply keep3; focus assumption)))
    (first
      | (go_at_call 69; (with_reducible refine (cnt15 _).mono ?_); rintro e w1 ⟨N1, a1, c1, rfl, s1, hb1⟩)
      | (go_at_call 31; (with_reducible refine (sumCnt s1).mono ?_); rintro e w1 ⟨rfl, hb1⟩)
      | (go_at_call 31; (with_reducible refine (sumNil _).mono ?_); rintro e w1 ⟨rfl, hb1⟩)
      | (go_at_call 31; (with_reducible refine (sum421 ?_).mono ?_); (repeat (first | ((with_reducible refine blkNew ?_); focus (simp; done)) | (with_reducible assumption) | (with_reducible refine blkDrew ?_) | ((with_reducible apply blkBelow); focus (with_reducible assumption)) | (with_reducible refine blkOld ?_))); rintro e w1 ⟨rfl, hb1⟩)
      | (go_at_call 31; (with_reducible refine (sum0 ?_).mono ?_); (repeat (first | ((with_reducible refine blkNew ?_); focus (simp; done)) | (with_reducible assumption) | (with_reducible refine blkDrew ?_) | ((with_reducible apply blkBelow); focus (with_reducible assumption)) | (with_reducible refine blkOld ?_))); rintro e w1 ⟨rfl, hb1⟩)
      | (go_at_call 30; (with_reducible refine (tag11 ?_).mono ?_); (repeat (first | ((with_reducible refine blkNew ?_); focus (simp; done)) | (with_reducible assumption) | (with_reducible refine blkDrew ?_) | ((with_reducible apply blkBelow); focus (with_reducible assumption)) | (with_reducible refine blkOld ?_))); rintro e w1 ⟨rfl, hb1⟩)
      | (go_at_call 30; (with_reducible refine (tag31 ?_).mono ?_); (repeat (first | ((with_reducible refine blkNew ?_); focus (simp; done)) | (with_reducible assumption) | (with_reducible refine blkDrew ?_) | ((with_reducible apply blkBelow); focus (with_reducible assumption)) | (with_reducible refine blkOld ?_))); rintro e w1 ⟨rfl, hb1⟩)
      | (go_at_call 30; (with_reducible refine (tagNil _).mono ?_); rintro e w1 ⟨rfl, hb1⟩)
      | (go_at_call 70; (with_reducible refine (der3 _).mono ?_); rintro e w1 ⟨rfl, hb1⟩))
  all_goals
    go_wp2
    go_ret
    exact ⟨rfl, by go_split_ands; assumption⟩
end Go.Proofs.Ytmanoeimnipjjaa
