/-
  DRAW, THE LAWS' WALKS: DrawParts.
-/
import Derived.Test.YtfhmhkpplcbiiaaProg
import Derived.Test.YtfhmhkpplcbiiaaBase3
import Derived.Test.YtfhmhkpplcbiiaaBase5
import Derived.Test.YtfhmhkpplcbiiaaBase6
import Derived.Test.YtfhmhkpplcbiiaaBase7
import Derived.Test.YtfhmhkpplcbiiaaBase13
import Derived.Test.YtfhmhkpplcbiiaaDrawP
import Derived.Test.YtfhmhkpplcbiiaaDraw8
import Derived.Test.YtfhmhkpplcbiiaaDrawL1
import Derived.Test.YtfhmhkpplcbiiaaHeld
import Derived.BigQuiet
import Derived.Laws.StructEq
import Derived.StillTailTactics
import Derived.RegionTactic
import Derived.BigRegion
import Derived.Deep.RegionHeld3
import Derived.Deep.DeepCutAuto
import Derived.Deep.QuietTactic
import Derived.WalkSpells
import Derived.WalkLawsBesides
namespace Go.Proofs.Ytfhmhkpplcbiiaa
open Go.RowKit
set_option linter.unusedVariables false

theorem wordsL_add (ka kb : BitVec 64) (from_ : Int) (a b : Nat) : wordsL ka kb from_ (a + b) = wordsL ka kb from_ a ++ wordsL ka kb (from_ + a) b := by
  induction b with
  | zero => rw [Nat.add_zero, show wordsL ka kb (from_ + a) 0 = [] from rfl, List.append_nil]
  | succ b ih =>
    have h : wordAt ka kb from_ (a + b) = wordAt ka kb (from_ + a) b := by
      unfold wordAt
      rw [show from_ + ((a + b : Nat) : Int) = from_ + (a : Int) + (b : Int) from by omega]
    rw [← Nat.add_assoc, wordsL_succ, wordsL_succ, ih, List.append_assoc, h]
theorem words_n (ka kb : BitVec 64) (from_ n : Int) (N : Nat) (w : World) (hn : n = N) (h0 : 0 ≤ from_) (h1 : from_ ≤ 1125899906842624) (h2 : N ≤ 60) :
    Calls Try.prog 33 #[.agg #[u64 ka, u64 kb], .int .i64 from_, .int .i64 n] w (fun e w' => ∃ a c, e = .returned (.slice a N c) ∧ Hid (Sl w' 1 a N c (cs u64 (wordsL ka kb from_ N))) ∧ Below w.heap.size w w') := by
  subst hn
  refine (words_any ka kb from_ N w).mono ?_
  rintro e w' ⟨v, m, rfl, ho, hb⟩
  unfold words at ho
  rw [if_neg (by omega), Int.toNat_natCast] at ho
  obtain ⟨a, c, rfl, s⟩ := sl_of_own ho
  have hm := s.count
  rw [wordsL_len] at hm
  subst hm
  exact ⟨a, c, rfl, s, hb⟩
theorem slDrew {W : World} {a : Option Addr} {n c : Nat} {l : List (BitVec 64)} (h : Hid (Sl W 1 a n c (cs u64 l))) : Hid (Sl W.drew 1 a n c (cs u64 l)) := h.out.ext (Below.refl _ W).drew
theorem slAlloc {W : World} {o : Obj} {a : Option Addr} {n c : Nat} {l : List (BitVec 64)} (h : Hid (Sl W 1 a n c (cs u64 l))) : Hid (Sl (W.alloc o) 1 a n c (cs u64 l)) := h.out.ext (below_alloc _ _)
theorem owDrew {W : World} {B n : Nat} {v : Value} {l : List Value} (h : Hid (W.ownsRow B 35 1 v n l)) : Hid (W.drew.ownsRow B 35 1 v n l) := ⟨h.out.1, h.out.2⟩
theorem owAlloc {W : World} {o : Obj} {B n : Nat} {v : Value} {l : List Value} (h : Hid (W.ownsRow B 35 1 v n l)) : Hid ((W.alloc o).ownsRow B 35 1 v n l) := ownsRow_ext h.out (below_alloc _ _)
theorem owBelow {W W' : World} {B n : Nat} {v : Value} {l : List Value} (hb : Below W.heap.size W W') (h : Hid (W.ownsRow B 35 1 v n l)) : Hid (W'.ownsRow B 35 1 v n l) := ownsRow_ext h.out hb
theorem size_S3 {W w1 : World} {p q : Addr} {x y : Value} (hS : w1.cell? p = some x ∧ w1.cell? q = some y ∧ Below W.heap.size W w1) : W.heap.size ≤ w1.heap.size := hS.2.2.size
theorem sameW_n {W W0 : World} {a b : Option Addr} {n c d : Nat} {T : List (BitVec 64)} (hn : n ≤ 1000) (h1 : Hid (Sl W0 1 a n c (cs u64 T))) (hb : Below W0.heap.size W0 W) (h2 : Hid (Sl W 1 b n d (cs u64 T))) :
    Calls Try.prog 32 #[.slice a n c, .slice b n d] W (RetB (.bool true) W) :=
  (sameWords_any T T a b n c n d W (h1.out.ext hb) h2.out (by omega)).mono fun _ _ h => by rw [decide_eq_true rfl] at h; exact h

set_option maxRecDepth 100000 in
set_option maxHeartbeats 4000000 in
theorem drawParts_walk (ka kb : BitVec 64) (fr p q : Int) (w : World) :
    Calls Try.prog 11 #[.agg #[u64 ka, u64 kb], .int .i64 fr, .agg #[.int .i64 p, .int .i64 q]] w (RetB (.bool true) w) := by
  have HQ : Hid (BlkAt ((w.alloc (.cells #[u64 ka, u64 kb] 37)).alloc (.cells #[.int .i64 p, .int .i64 q] 52)) w.heap.size #[u64 ka, u64 kb] ∧ Below w.heap.size w ((w.alloc (.cells #[u64 ka, u64 kb] 37)).alloc (.cells #[.int .i64 p, .int .i64 q] 52))) := ⟨blkOld (blkNew rfl), below_step (below_alloc _ _) (below_alloc _ _)⟩
  by_cases hgo : 0 ≤ fr ∧ fr ≤ 1125899906842564 ∧ 0 ≤ p ∧ p ≤ 30 ∧ 0 ≤ q ∧ q ≤ 30
  · obtain ⟨f0, f1, p0, p1, q0, q1⟩ := hgo
    obtain ⟨P, rfl⟩ := Int.eq_ofNat_of_zero_le p0
    obtain ⟨Q, rfl⟩ := Int.eq_ofNat_of_zero_le q0
    have hw1 : IntKind.i64.wrap (fr + (P : Int)) = fr + (P : Int) := by rw [IntKind.wrap_i64]; omega
    have hs0 : 0 ≤ fr + (P : Int) := by omega
    have hs1 : fr + (P : Int) ≤ 1125899906842594 := by omega
    go_enter Try.func11, Try.ntmps11
    go_wp2
    go_quiet (fail)
    have HQ1 : Hid (BlkAt (((w.alloc (.cells #[u64 ka, u64 kb] 37)).alloc (.cells #[.int .i64 (P : Int), .int .i64 (Q : Int)] 52)).drewN nq) w.heap.size #[u64 ka, u64 kb] ∧ Below w.heap.size w (((w.alloc (.cells #[u64 ka, u64 kb] 37)).alloc (.cells #[.int .i64 (P : Int), .int .i64 (Q : Int)] 52)).drewN nq)) := ⟨HQ.out.1, below_drewN HQ.out.2 nq⟩
    clear HQ
    generalize ((w.alloc (.cells #[u64 ka, u64 kb] 37)).alloc (.cells #[.int .i64 (P : Int), .int .i64 (Q : Int)] 52)).drewN nq = W at *
    go_wp2_with fail
    obtain ⟨k0, k1, _, _⟩ := two_facts HQ1.out.1
    have hg : w.heap.size < W.heap.size := World.block_lt_of_cell? _ _ k0
    have KW : W.cell? ⟨w.heap.size, 0, none⟩ = some (u64 ka) ∧ W.cell? ⟨w.heap.size, 1, none⟩ = some (u64 kb) ∧ Below W.heap.size W W := ⟨k0, k1, Below.refl _ _⟩
    clear k0 k1
    go_cut [9] (fun v wx => ∃ a c, v = .slice a (P + Q) c ∧ Hid (Sl wx 1 a (P + Q) c (cs u64 (wordsL ka kb fr (P + Q))) ∧ Below W.heap.size W wx))
    case first =>
      go_region_held3 (fun w' => w'.cell? ⟨w.heap.size, 0, none⟩ = some (u64 ka) ∧ w'.cell? ⟨w.heap.size, 1, none⟩ = some (u64 kb) ∧ Below W.heap.size W w')
        (repeat (with_reducible first | assumption | refine keep3D ?_ | refine keep3A _ ?_ | (apply keep3; focus assumption) | (apply keep3B; (focus assumption); (focus assumption))))
        (first
          | (go_at_call 33; (with_reducible refine (words_n ka kb fr _ P _ rfl f0 (by omega) (by omega)).mono ?_); rintro e w3 ⟨ra, ca, rfl, SA, hb3⟩)
          | (go_at_call 33; (with_reducible refine (words_n ka kb (fr + (P : Int)) _ Q _ rfl hs0 (by omega) (by omega)).mono ?_); rintro e w4 ⟨rb, cb, rfl, SB, hb4⟩)
          | ((refine step_append_manyG u64 (fun _ => rfl) _ rfl (.tmp 37) (.tmp 41) 39 rfl W.heap.size 35 (.int .u64 0) 8 Try.underlying39 infoW rfl (v := .slice (some ⟨_, 0, none⟩) 0 0) (n := 0) (xs := []) (by rfl) (own_empty (by (repeat (first | ((with_reducible refine hp_new ?_); focus (simp; done)) | (with_reducible assumption) | (with_reducible refine hp_drew ?_) | ((with_reducible apply hp_below); focus (with_reducible assumption)) | (with_reducible refine hp_old ?_)))) (by first | (simp; done) | (have := hb3.size; simp at this ⊢; omega))) (ys := wordsL ka kb fr P) (ao := ra) (m := P) (c := ca) (by rfl) (Hid.out (by (repeat (first | (with_reducible assumption) | (with_reducible refine slDrew ?_) | (with_reducible refine slAlloc ?_))))) (by unfold maxLen; omega) (by omega) (size_S3 (by assumption)) ?_); intro v8 w8 ho8 hb8 hf8; clear hf8; rw [Nat.zero_add, List.nil_append] at ho8; obtain ⟨a8, c8, e8, s8⟩ := sl_of_own ho8; subst e8; have O8 := Lib.hid ho8; clear ho8 s8)
          | ((refine step_append_manyG u64 (fun _ => rfl) _ rfl (.tmp 42) (.tmp 48) 39 rfl W.heap.size 35 (.int .u64 0) 8 Try.underlying39 infoW rfl (v := .slice a8 P c8) (n := P) (xs := wordsL ka kb fr P) (by rfl) (Hid.out (by (repeat (first | (with_reducible assumption) | (with_reducible refine owDrew ?_) | (with_reducible refine owAlloc ?_) | ((with_reducible apply owBelow); focus (with_reducible assumption)))))) (ys := wordsL ka kb (fr + (P : Int)) Q) (ao := rb) (m := Q) (c := cb) (by rfl) (Hid.out (by (repeat (first | (with_reducible assumption) | (with_reducible refine slDrew ?_) | (with_reducible refine slAlloc ?_))))) (by unfold maxLen; omega) (by omega) (size_S3 (by assumption)) ?_); intro v9 w9 ho9 hb9 hf9; clear hf9; rw [← wordsL_add] at ho9; obtain ⟨a9, c9, e9, s9⟩ := sl_of_own ho9; subst e9; have S9 := Lib.hid s9; clear ho9 s9))
      all_goals
        go_wp2_with fail
        go_meet
        go_split_ands
        exact ⟨_, _, rfl, by first | exact S9.out | exact (slDrew S9).out, by assumption⟩
    case rest =>
      obtain ⟨r9, q9, rfl, hS⟩ := hcut
      obtain ⟨k0, k1, _, _⟩ := two_facts (blkBelow hS.out.2 HQ1.out.1)
      have S9 := Lib.hid hS.out.1
      have HB9 := Lib.hid (below_step HQ1.out.2 hS.out.2)
      have hPQ : ((P + Q : Nat) : Int) = (P : Int) + (Q : Int) := by omega
      have hn : P + Q ≤ 60 := by omega
      clear hS HQ1 KW hg
      generalize hN : P + Q = N at *
      clear hN
      have hwN : IntKind.i64.wrap ((P : Int) + (Q : Int)) = (N : Int) := by rw [IntKind.wrap_i64]; omega
      have hsN : (P : Int) + (Q : Int) = (N : Int) := by omega
      clear hPQ
      go_wp2_with fail
      refine (words_n ka kb fr _ N _ rfl f0 (by omega) (by omega)).mono ?_
      rintro er w3 ⟨ra, ca, rfl, SA, hb3⟩
      have HB3 := Lib.hid (below_step HB9.out hb3)
      have HB93 := Lib.hid hb3
      clear hb3
      go_wp2_with fail
      refine (sameW_n (by omega) S9 HB93.out SA).mono ?_
      rintro er w4 ⟨rfl, hb4⟩
      have HB4 := Lib.hid (below_step HB3.out hb4)
      clear hb4
      go_wp2_with fail
      refine (awake11_any _).mono ?_
      rintro er w5 ⟨rfl, hb5⟩
      have HB5 := Lib.hid (below_step HB4.out hb5)
      clear hb5
      go_wp2
      go_ret
      exact ⟨rfl, HB5.out⟩
  · have hcs : fr < 0 ∨ (¬ fr < 0 ∧ 1125899906842564 < fr) ∨ (¬ fr < 0 ∧ ¬ 1125899906842564 < fr ∧ p < 0) ∨ (¬ fr < 0 ∧ ¬ 1125899906842564 < fr ∧ ¬ p < 0 ∧ 30 < p) ∨ (¬ fr < 0 ∧ ¬ 1125899906842564 < fr ∧ ¬ p < 0 ∧ ¬ 30 < p ∧ q < 0) ∨ (¬ fr < 0 ∧ ¬ 1125899906842564 < fr ∧ ¬ p < 0 ∧ ¬ 30 < p ∧ ¬ q < 0 ∧ 30 < q) := by omega
    clear hgo
    rcases hcs with h0 | ⟨h0, h1⟩ | ⟨h0, h1, h2⟩ | ⟨h0, h1, h2, h3⟩ | ⟨h0, h1, h2, h3, h4⟩ | ⟨h0, h1, h2, h3, h4, h5⟩
    all_goals
      go_enter Try.func11, Try.ntmps11
      go_wp2
      go_quiet (fail)
      go_wp2_with fail
      refine (awake11_any _).mono ?_
      rintro er w5 ⟨rfl, hb5⟩
      have HB5 := Lib.hid (below_step (below_drewN HQ.out.2 nq) hb5)
      clear hb5
      go_wp2
      go_ret
      exact ⟨rfl, HB5.out⟩
end Go.Proofs.Ytfhmhkpplcbiiaa
