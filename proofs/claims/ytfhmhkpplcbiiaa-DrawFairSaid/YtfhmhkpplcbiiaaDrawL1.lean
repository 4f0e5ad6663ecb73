/-
  DRAW, THE LAWS' WALKS: DrawPicks, DrawBelow, DrawShuffles, DrawWords.
-/
import Derived.Test.YtfhmhkpplcbiiaaProg
import Derived.Test.YtfhmhkpplcbiiaaBase3
import Derived.Test.YtfhmhkpplcbiiaaBase5
import Derived.Test.YtfhmhkpplcbiiaaBase6
import Derived.Test.YtfhmhkpplcbiiaaBase7
import Derived.Test.YtfhmhkpplcbiiaaDrawP
import Derived.Test.YtfhmhkpplcbiiaaDraw2
import Derived.Test.YtfhmhkpplcbiiaaDraw6
import Derived.Test.YtfhmhkpplcbiiaaDraw8
import Derived.Test.YtfhmhkpplcbiiaaHeld
import Derived.Test.YtfhmhkpplcbiiaaDrawL0
import Derived.BigQuiet
import Derived.Laws.StructEq
import Derived.StillTailTactics
import Derived.RegionTactic
import Derived.Deep.DeepCutAuto
import Derived.Deep.QuietTactic
import Derived.WalkSpells
import Derived.WalkLawsBesides
namespace Go.Proofs.Ytfhmhkpplcbiiaa
open Go.RowKit
set_option linter.unusedVariables false

set_option maxRecDepth 100000 in
set_option maxHeartbeats 4000000 in
theorem drawPicks_walk (l : List Int) (x : Int) (ao : Option Addr) (len cap : Nat) (w : World) (hs : Sl w 1 ao len cap (cs i64v l)) :
    Calls Try.prog 4 #[.slice ao len cap, .int .i64 x] w (RetB (.bool true) w) := by
  by_cases hbig : (300 : Int) < (len : Int)
  · go_enter Try.func4, Try.ntmps4
    go_wp2_with fail
    refine (awake11_any _).mono ?_
    rintro e w1 ⟨rfl, hb1⟩
    go_wp2
    go_ret
    exact ⟨rfl, hb1⟩
  · obtain ⟨⟨n, er⟩, hr⟩ : ∃ r, total l = r := ⟨_, rfl⟩
    obtain ⟨⟨i, ei⟩, hp⟩ : ∃ r, pick l x = r := ⟨_, rfl⟩
    have hpick := pick_any l x ao len cap w hs
    have hrpick := refPick_any l x ao len cap w hs
    rw [hp] at hpick hrpick
    have HR := Lib.hid hr
    have HS := Lib.hid hs
    clear hr hp hs
    go_enter Try.func4, Try.ntmps4
    go_wp2_with fail
    refine (total_val HS.out HR).mono ?_
    rintro e w1 ⟨rfl, rfl⟩
    go_wp2_with fail
    refine (refTotal_val HS.out HR).mono ?_
    rintro e w1 ⟨rfl, rfl⟩
    go_wp2_with fail
    refine hpick.mono ?_
    rintro e w1 ⟨rfl, rfl⟩
    go_wp2_with fail
    refine hrpick.mono ?_
    rintro e w1 ⟨rfl, rfl⟩
    go_wp2_with fail
    refine (awake11_any _).mono ?_
    rintro e w1 ⟨rfl, hb1⟩
    go_wp2
    go_ret
    exact ⟨rfl, hb1⟩

set_option maxRecDepth 100000 in
set_option maxHeartbeats 4000000 in
theorem drawBelow_walk (ws : List (BitVec 64)) (n : Int) (ao : Option Addr) (len cap : Nat) (w : World) (hs : Sl w 1 ao len cap (cs u64 ws)) :
    Calls Try.prog 6 #[.slice ao len cap, .int .i64 n] w (RetB (.bool true) w) := by
  by_cases hbig : (100 : Int) < (len : Int)
  · go_enter Try.func6, Try.ntmps6
    go_wp2_with fail
    refine (awake11_any _).mono ?_
    rintro e w1 ⟨rfl, hb1⟩
    go_wp2
    go_ret
    exact ⟨rfl, hb1⟩
  · obtain ⟨⟨x, u, er⟩, hr⟩ : ∃ r, below ws n = r := ⟨_, rfl⟩
    have HR := Lib.hid hr
    have HS := Lib.hid hs
    clear hr hs
    go_enter Try.func6, Try.ntmps6
    go_wp2_with fail
    refine (below_val HS.out (by omega) HR).mono ?_
    rintro e w1 ⟨rfl, hb1⟩
    go_wp2_with fail
    refine (refBelow_val (HS.out.ext hb1) (by omega) HR).mono ?_
    rintro e w2 ⟨rfl, hb2⟩
    go_wp2_with fail
    refine (awake11_any _).mono ?_
    rintro e w3 ⟨rfl, hb3⟩
    go_wp2
    go_ret
    exact ⟨rfl, below_step (below_step hb1 hb2) hb3⟩

set_option maxRecDepth 100000 in
set_option maxHeartbeats 4000000 in
theorem drawShuffles_walk (ws : List (BitVec 64)) (n : Int) (ao : Option Addr) (len cap : Nat) (w : World) (hs : Sl w 1 ao len cap (cs u64 ws)) :
    Calls Try.prog 7 #[.slice ao len cap, .int .i64 n] w (RetB (.bool true) w) := by
  by_cases hbig : (400 : Int) < (len : Int)
  · go_enter Try.func7, Try.ntmps7
    go_wp2_with fail
    refine (awake11_any _).mono ?_
    rintro e w1 ⟨rfl, hb1⟩
    go_wp2
    go_ret
    exact ⟨rfl, hb1⟩
  · obtain ⟨⟨L, er⟩, hr⟩ : ∃ r, shuffle ws n = r := ⟨_, rfl⟩
    have hL := (shuffle_len hr).1
    have HR := Lib.hid hr
    have HS := Lib.hid hs
    clear hr hs
    go_enter Try.func7, Try.ntmps7
    go_wp2_with fail
    refine (shuffle_val HS.out (by omega) HR).mono ?_
    rintro e w1 ⟨a1, m1, c1, rfl, s1, hm1, hb1⟩
    have S1 := Lib.hid s1
    have hm : m1 ≤ 1000000000000 := by omega
    clear s1 hm1
    go_wp2_with fail
    refine (refShuffle_val (HS.out.ext hb1) (by omega) HR).mono ?_
    rintro e w2 ⟨a2, m2, c2, rfl, s2, hm2, hb2⟩
    have S2 := Lib.hid s2
    have S12 := Lib.hid (S1.out.ext hb2)
    have B2 := Lib.hid (below_step hb1 hb2)
    clear s2 hm2 hb1 hb2
    go_wp2_with fail
    refine (same11_any L L _ _ _ _ _ _ _ S12.out S2.out hm).mono ?_
    rw [decide_eq_true rfl]
    rintro e w3 ⟨rfl, hb3⟩
    have B3 := Lib.hid (below_step B2.out hb3)
    clear hb3 B2
    go_wp2_with fail
    refine (awake11_any _).mono ?_
    rintro e w4 ⟨rfl, hb4⟩
    go_wp2
    go_ret
    exact ⟨rfl, below_step B3.out hb4⟩

/-- A slice of words, hidden. -/
abbrev Ws (W : World) (a : Option Addr) (n c : Nat) (T : List (BitVec 64)) : Prop := Hid (Sl W 1 a n c (cs u64 T) ∧ n ≤ 1000)
theorem wsBelow {W W' : World} {a : Option Addr} {n c : Nat} {T : List (BitVec 64)} (hb : Below W.heap.size W W') (h : Ws W a n c T) : Ws W' a n c T := ⟨h.out.1.ext hb, h.out.2⟩
theorem wsDrew {W : World} {a : Option Addr} {n c : Nat} {T : List (BitVec 64)} (h : Ws W a n c T) : Ws W.drew a n c T := ⟨h.out.1.ext (Below.refl _ W).drew, h.out.2⟩
theorem words_len (ka kb : BitVec 64) (from_ n : Int) : (words ka kb from_ n).length ≤ 512 := by
  unfold words
  split
  · simp
  · rw [wordsL_len]; omega
theorem words_s (ka kb : BitVec 64) (from_ n : Int) (w : World) : Calls Try.prog 33 #[.agg #[u64 ka, u64 kb], .int .i64 from_, .int .i64 n] w (fun e w' => ∃ a m c, e = .returned (.slice a m c) ∧ Ws w' a m c (words ka kb from_ n) ∧ Below w.heap.size w w') :=
  (words_any ka kb from_ n w).mono fun _ _ ⟨v, m, he, ho, hb⟩ => by
    obtain ⟨a, c, rfl, s⟩ := sl_of_own ho
    have h1 := s.count
    have h2 := words_len ka kb from_ n
    exact ⟨a, m, c, he, ⟨s, by omega⟩, hb⟩
theorem refWords_s (ka kb : BitVec 64) (from_ n : Int) (w : World) : Calls Try.prog 34 #[.agg #[u64 ka, u64 kb], .int .i64 from_, .int .i64 n] w (fun e w' => ∃ a m c, e = .returned (.slice a m c) ∧ Ws w' a m c (words ka kb from_ n) ∧ Below w.heap.size w w') :=
  (refWords_any ka kb from_ n w).mono fun _ _ ⟨v, m, he, ho, hb⟩ => by
    obtain ⟨a, c, rfl, s⟩ := sl_of_own ho
    have h1 := s.count
    have h2 := words_len ka kb from_ n
    exact ⟨a, m, c, he, ⟨s, by omega⟩, hb⟩
theorem sameWords_s {W : World} {a b : Option Addr} {n c m d : Nat} {T : List (BitVec 64)} (h1 : Ws W a n c T) (h2 : Ws W b m d T) :
    Calls Try.prog 32 #[.slice a n c, .slice b m d] W (RetB (.bool true) W) :=
  (sameWords_any T T a b n c m d W h1.out.1 h2.out.1 (by have := h1.out.2; omega)).mono fun _ _ h => by rw [decide_eq_true rfl] at h; exact h

set_option maxRecDepth 100000 in
set_option maxHeartbeats 4000000 in
theorem drawWords_walk (ka kb : BitVec 64) (from_ n : Int) (w : World) :
    Calls Try.prog 5 #[.agg #[u64 ka, u64 kb], .int .i64 from_, .int .i64 n] w (RetB (.bool true) w) := by
  have k0 := keep3_0 w (u64 ka) (u64 kb) 37
  by_cases h1 : 40 < n ∧ n ≤ 512
  · obtain ⟨h1, h2⟩ := h1
    clear k0
    go_enter Try.func5, Try.ntmps5
    go_wp2_with fail
    refine (awake11_any _).mono ?_
    rintro e w1 ⟨rfl, hb1⟩
    go_wp2
    go_ret
    exact ⟨rfl, below_step (below_alloc _ _) hb1⟩
  · by_cases h3 : 40 < n
    · have h4 : ¬ n ≤ 512 := fun h => h1 ⟨h3, h⟩
      clear h1
      go_enter Try.func5, Try.ntmps5
      go_wp2_with fail
      go_region_held3 (fun w' => w'.cell? ⟨w.heap.size, 0, none⟩ = some (u64 ka) ∧ w'.cell? ⟨w.heap.size, 1, none⟩ = some (u64 kb) ∧ Below w.heap.size w w')
        (repeat (with_reducible first | assumption | refine keep3D ?_ | refine keep3A _ ?_ | (apply keep3; focus assumption)))
        (first
          | (go_at_call 33; (with_reducible refine (words_s ka kb from_ n _).mono ?_); rintro e w1 ⟨a1, m1, c1, rfl, s1, hb1⟩)
          | (go_at_call 34; (with_reducible refine (refWords_s ka kb from_ n _).mono ?_); rintro e w1 ⟨a2, m2, c2, rfl, s2, hb1⟩)
          | (go_at_call 32; (with_reducible refine (sameWords_s (T := words ka kb from_ n) ?_ ?_).mono ?_); (repeat (first | (with_reducible assumption) | (with_reducible refine wsDrew ?_) | ((with_reducible apply wsBelow); focus (with_reducible assumption)))); rintro e w1 ⟨rfl, hb1⟩)
          | (go_at_call 27; (with_reducible refine (awake11_any _).mono ?_); rintro e w1 ⟨rfl, hb1⟩))
      all_goals
        go_wp2
        go_ret
        exact ⟨rfl, by go_split_ands; assumption⟩
    · clear h1
      go_enter Try.func5, Try.ntmps5
      go_wp2_with fail
      go_region_held3 (fun w' => w'.cell? ⟨w.heap.size, 0, none⟩ = some (u64 ka) ∧ w'.cell? ⟨w.heap.size, 1, none⟩ = some (u64 kb) ∧ Below w.heap.size w w')
        (repeat (with_reducible first | assumption | refine keep3D ?_ | refine keep3A _ ?_ | (apply keep3; focus assumption)))
        (first
          | (go_at_call 33; (with_reducible refine (words_s ka kb from_ n _).mono ?_); rintro e w1 ⟨a1, m1, c1, rfl, s1, hb1⟩)
          | (go_at_call 34; (with_reducible refine (refWords_s ka kb from_ n _).mono ?_); rintro e w1 ⟨a2, m2, c2, rfl, s2, hb1⟩)
          | (go_at_call 32; (with_reducible refine (sameWords_s (T := words ka kb from_ n) ?_ ?_).mono ?_); (repeat (first | (with_reducible assumption) | (with_reducible refine wsDrew ?_) | ((with_reducible apply wsBelow); focus (with_reducible assumption)))); rintro e w1 ⟨rfl, hb1⟩)
          | (go_at_call 27; (with_reducible refine (awake11_any _).mono ?_); rintro e w1 ⟨rfl, hb1⟩))
      all_goals
        go_wp2
        go_ret
        exact ⟨rfl, by go_split_ands; assumption⟩
end Go.Proofs.Ytfhmhkpplcbiiaa
