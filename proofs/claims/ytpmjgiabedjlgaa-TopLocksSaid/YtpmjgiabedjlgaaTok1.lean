/-
  TOKENS, THE WALKS: Check.
-/
import Derived.Test.YtpmjgiabedjlgaaProg
import Derived.Test.YtpmjgiabedjlgaaBase7
import Derived.Test.YtpmjgiabedjlgaaTokP
import Derived.Test.YtpmjgiabedjlgaaMac4
import Derived.Test.YtpmjgiabedjlgaaBase14
import Derived.BigQuiet
import Derived.Laws.StructEq
import Derived.StillTailTactics
import Derived.RegionTactic
import Derived.Deep.DeepCutAuto
import Derived.Deep.QuietTactic
import Derived.WalkSpells
import Derived.WalkLawsBesides
namespace Go.Proofs.Ytpmjgiabedjlgaa
open Go.RowKit
set_option linter.unusedVariables false


theorem in_yes (n lo hi : Int) (h : lo ≤ n ∧ n ≤ hi) (w : World) : Calls Try.prog 61 #[.int .i64 n, .int .i64 lo, .int .i64 hi] w (fun e w' => e = .returned (.bool true) ∧ w' = w) := by
  obtain ⟨h1, h2⟩ := h
  go_enter Try.func61, Try.ntmps61
  go_wp2
  go_ret
  exact ⟨rfl, rfl⟩
theorem in_no (n lo hi : Int) (h : ¬ (lo ≤ n ∧ n ≤ hi)) (w : World) : Calls Try.prog 61 #[.int .i64 n, .int .i64 lo, .int .i64 hi] w (fun e w' => e = .returned (.bool false) ∧ w' = w) := by
  by_cases h1 : lo ≤ n
  · have h2 : ¬ n ≤ hi := fun h' => h ⟨h1, h'⟩
    clear h
    go_enter Try.func61, Try.ntmps61
    go_wp2
    go_ret
    exact ⟨rfl, rfl⟩
  · clear h
    go_enter Try.func61, Try.ntmps61
    go_wp2
    go_ret
    exact ⟨rfl, rfl⟩
theorem tok_cells {w : World} {E : TypeId} {x0 x1 x2 x3 x4 x5 x6 : Value} {W : World} {k : Nat} (h : BlkAt W k #[x0, x1, x2, x3, x4, x5, x6]) : W.cell? ⟨k, 0, none⟩ = some x0 ∧ W.cell? ⟨k, 1, none⟩ = some x1 ∧ W.cell? ⟨k, 2, none⟩ = some x2 ∧ W.cell? ⟨k, 3, none⟩ = some x3 ∧ W.cell? ⟨k, 4, none⟩ = some x4 ∧ W.cell? ⟨k, 5, none⟩ = some x5 ∧ W.cell? ⟨k, 6, none⟩ = some x6 := by
  obtain ⟨E, h⟩ := h
  refine ⟨?_, ?_, ?_, ?_, ?_, ?_, ?_⟩ <;> rw [cell_of_row _ _ _ _ _ _ h] <;> rfl

set_option maxRecDepth 100000 in
set_option maxHeartbeats 4000000 in
theorem check_any (b r d f t n : Int) (g : BitVec 64) (w : World) : Calls Try.prog 44 #[.agg #[.int .i64 b, .int .i64 r, .int .i64 d, .int .i64 f, .int .i64 t, .int .i64 n, u64 g]] w (RetB (.int .i64 (Tok.chk ⟨b, r, d, f, t, n⟩)) w) := by
  by_cases c0 : 0 ≤ b ∧ b ≤ 127
  · skip
    by_cases c1 : 0 ≤ r ∧ r ≤ 127
    · skip
      by_cases c2 : 1 ≤ d ∧ d ≤ 1000000
      · skip
        by_cases c3 : 1 ≤ n ∧ n ≤ 1048576
        · skip
          by_cases c4 : f < 0
          · skip
            have hT : Tok.chk ⟨b, r, d, f, t, n⟩ = 1 := chk_bad (Or.inr (Or.inr (Or.inr (Or.inr (Or.inl (c4))))))
            rw [hT]
            clear hT
            have W0 := Lib.hid (below_alloc w (.cells #[.int .i64 b, .int .i64 r, .int .i64 d, .int .i64 f, .int .i64 t, .int .i64 n, u64 g] 69))
            go_enter Try.func44, Try.ntmps44
            go_wp2_with fail
            refine (in_yes b 0 127 c0 _).mono ?_
            rintro e w0 ⟨rfl, hw0⟩
            subst hw0
            go_wp2_with fail
            refine (in_yes r 0 127 c1 _).mono ?_
            rintro e w1 ⟨rfl, hw1⟩
            subst hw1
            go_wp2_with fail
            refine (in_yes d 1 1000000 c2 _).mono ?_
            rintro e w2 ⟨rfl, hw2⟩
            subst hw2
            go_wp2_with fail
            refine (in_yes n 1 1048576 c3 _).mono ?_
            rintro e w3 ⟨rfl, hw3⟩
            subst hw3
            go_wp2
            go_ret
            exact ⟨rfl, W0.out⟩
          · skip
            by_cases c5 : t ≤ f
            · skip
              have hT : Tok.chk ⟨b, r, d, f, t, n⟩ = 1 := chk_bad (Or.inr (Or.inr (Or.inr (Or.inr (Or.inr (Or.inl (c5)))))))
              rw [hT]
              clear hT
              have W0 := Lib.hid (below_alloc w (.cells #[.int .i64 b, .int .i64 r, .int .i64 d, .int .i64 f, .int .i64 t, .int .i64 n, u64 g] 69))
              go_enter Try.func44, Try.ntmps44
              go_wp2_with fail
              refine (in_yes b 0 127 c0 _).mono ?_
              rintro e w0 ⟨rfl, hw0⟩
              subst hw0
              go_wp2_with fail
              refine (in_yes r 0 127 c1 _).mono ?_
              rintro e w1 ⟨rfl, hw1⟩
              subst hw1
              go_wp2_with fail
              refine (in_yes d 1 1000000 c2 _).mono ?_
              rintro e w2 ⟨rfl, hw2⟩
              subst hw2
              go_wp2_with fail
              refine (in_yes n 1 1048576 c3 _).mono ?_
              rintro e w3 ⟨rfl, hw3⟩
              subst hw3
              go_wp2
              go_ret
              exact ⟨rfl, W0.out⟩
            · skip
              by_cases c6 : 4294944000 < t
              · skip
                have hT : Tok.chk ⟨b, r, d, f, t, n⟩ = 1 := chk_bad (Or.inr (Or.inr (Or.inr (Or.inr (Or.inr (Or.inr (c6)))))))
                rw [hT]
                clear hT
                have W0 := Lib.hid (below_alloc w (.cells #[.int .i64 b, .int .i64 r, .int .i64 d, .int .i64 f, .int .i64 t, .int .i64 n, u64 g] 69))
                go_enter Try.func44, Try.ntmps44
                go_wp2_with fail
                refine (in_yes b 0 127 c0 _).mono ?_
                rintro e w0 ⟨rfl, hw0⟩
                subst hw0
                go_wp2_with fail
                refine (in_yes r 0 127 c1 _).mono ?_
                rintro e w1 ⟨rfl, hw1⟩
                subst hw1
                go_wp2_with fail
                refine (in_yes d 1 1000000 c2 _).mono ?_
                rintro e w2 ⟨rfl, hw2⟩
                subst hw2
                go_wp2_with fail
                refine (in_yes n 1 1048576 c3 _).mono ?_
                rintro e w3 ⟨rfl, hw3⟩
                subst hw3
                go_wp2
                go_ret
                exact ⟨rfl, W0.out⟩
              · skip
                have hT : Tok.chk ⟨b, r, d, f, t, n⟩ = 0 := chk_ok (fun hb => by rcases hb with h | h | h | h | h | h | h <;> (dsimp only at h; omega))
                rw [hT]
                clear hT
                have W0 := Lib.hid (below_alloc w (.cells #[.int .i64 b, .int .i64 r, .int .i64 d, .int .i64 f, .int .i64 t, .int .i64 n, u64 g] 69))
                go_enter Try.func44, Try.ntmps44
                go_wp2_with fail
                refine (in_yes b 0 127 c0 _).mono ?_
                rintro e w0 ⟨rfl, hw0⟩
                subst hw0
                go_wp2_with fail
                refine (in_yes r 0 127 c1 _).mono ?_
                rintro e w1 ⟨rfl, hw1⟩
                subst hw1
                go_wp2_with fail
                refine (in_yes d 1 1000000 c2 _).mono ?_
                rintro e w2 ⟨rfl, hw2⟩
                subst hw2
                go_wp2_with fail
                refine (in_yes n 1 1048576 c3 _).mono ?_
                rintro e w3 ⟨rfl, hw3⟩
                subst hw3
                go_wp2
                go_ret
                exact ⟨rfl, W0.out⟩
        · skip
          have hT : Tok.chk ⟨b, r, d, f, t, n⟩ = 1 := chk_bad (Or.inr (Or.inr (Or.inr (Or.inl (c3)))))
          rw [hT]
          clear hT
          have W0 := Lib.hid (below_alloc w (.cells #[.int .i64 b, .int .i64 r, .int .i64 d, .int .i64 f, .int .i64 t, .int .i64 n, u64 g] 69))
          go_enter Try.func44, Try.ntmps44
          go_wp2_with fail
          refine (in_yes b 0 127 c0 _).mono ?_
          rintro e w0 ⟨rfl, hw0⟩
          subst hw0
          go_wp2_with fail
          refine (in_yes r 0 127 c1 _).mono ?_
          rintro e w1 ⟨rfl, hw1⟩
          subst hw1
          go_wp2_with fail
          refine (in_yes d 1 1000000 c2 _).mono ?_
          rintro e w2 ⟨rfl, hw2⟩
          subst hw2
          go_wp2_with fail
          refine (in_no n 1 1048576 c3 _).mono ?_
          rintro e w3 ⟨rfl, hw3⟩
          subst hw3
          go_wp2
          go_ret
          exact ⟨rfl, W0.out⟩
      · skip
        have hT : Tok.chk ⟨b, r, d, f, t, n⟩ = 1 := chk_bad (Or.inr (Or.inr (Or.inl (c2))))
        rw [hT]
        clear hT
        have W0 := Lib.hid (below_alloc w (.cells #[.int .i64 b, .int .i64 r, .int .i64 d, .int .i64 f, .int .i64 t, .int .i64 n, u64 g] 69))
        go_enter Try.func44, Try.ntmps44
        go_wp2_with fail
        refine (in_yes b 0 127 c0 _).mono ?_
        rintro e w0 ⟨rfl, hw0⟩
        subst hw0
        go_wp2_with fail
        refine (in_yes r 0 127 c1 _).mono ?_
        rintro e w1 ⟨rfl, hw1⟩
        subst hw1
        go_wp2_with fail
        refine (in_no d 1 1000000 c2 _).mono ?_
        rintro e w2 ⟨rfl, hw2⟩
        subst hw2
        go_wp2
        go_ret
        exact ⟨rfl, W0.out⟩
    · skip
      have hT : Tok.chk ⟨b, r, d, f, t, n⟩ = 1 := chk_bad (Or.inr (Or.inl (c1)))
      rw [hT]
      clear hT
      have W0 := Lib.hid (below_alloc w (.cells #[.int .i64 b, .int .i64 r, .int .i64 d, .int .i64 f, .int .i64 t, .int .i64 n, u64 g] 69))
      go_enter Try.func44, Try.ntmps44
      go_wp2_with fail
      refine (in_yes b 0 127 c0 _).mono ?_
      rintro e w0 ⟨rfl, hw0⟩
      subst hw0
      go_wp2_with fail
      refine (in_no r 0 127 c1 _).mono ?_
      rintro e w1 ⟨rfl, hw1⟩
      subst hw1
      go_wp2
      go_ret
      exact ⟨rfl, W0.out⟩
  · skip
    have hT : Tok.chk ⟨b, r, d, f, t, n⟩ = 1 := chk_bad (Or.inl (c0))
    rw [hT]
    clear hT
    have W0 := Lib.hid (below_alloc w (.cells #[.int .i64 b, .int .i64 r, .int .i64 d, .int .i64 f, .int .i64 t, .int .i64 n, u64 g] 69))
    go_enter Try.func44, Try.ntmps44
    go_wp2_with fail
    refine (in_no b 0 127 c0 _).mono ?_
    rintro e w0 ⟨rfl, hw0⟩
    subst hw0
    go_wp2
    go_ret
    exact ⟨rfl, W0.out⟩

end Go.Proofs.Ytpmjgiabedjlgaa
