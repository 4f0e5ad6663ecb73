/-
  LOCKS, THE WALKS: Unlock.
-/
import Derived.Test.YtpmjgiabedjlgaaProg
import Derived.Test.YtpmjgiabedjlgaaBase7
import Derived.Test.YtpmjgiabedjlgaaBase14
import Derived.Test.YtpmjgiabedjlgaaTokP
import Derived.Test.YtpmjgiabedjlgaaTok1
import Derived.Test.YtpmjgiabedjlgaaTok2
import Derived.Test.YtpmjgiabedjlgaaTok3
import Derived.Test.YtpmjgiabedjlgaaLockP
import Derived.Test.YtpmjgiabedjlgaaLock3
import Derived.BigQuiet
import Derived.Laws.StructEq
import Derived.StillTailTactics
import Derived.RegionTactic
import Derived.BigRegion
import Derived.Deep.RegionHeld3
import Derived.Deep.DeepCutAuto
import Derived.Deep.QuietTactic
import Derived.WalkSpells
import Derived.WalkLawsBesides
namespace Go.Proofs.Ytpmjgiabedjlgaa
open Go.RowKit
set_option linter.unusedVariables false


section
variable {W w1 w2 : World} {g p q : Nat} {x0 x1 x2 x3 x4 x5 x6 x7 x8 x9 x10 x11 x12 : Value}
theorem keep13 (hb : Below w1.heap.size w1 w2) (h : w1.cell? ⟨g, 0, none⟩ = some x0 ∧ w1.cell? ⟨g, 1, none⟩ = some x1 ∧ w1.cell? ⟨g, 2, none⟩ = some x2 ∧ w1.cell? ⟨g, 4, none⟩ = some x3 ∧ w1.cell? ⟨p, 0, none⟩ = some x4 ∧ w1.cell? ⟨p, 1, none⟩ = some x5 ∧ w1.cell? ⟨p, 2, none⟩ = some x6 ∧ w1.cell? ⟨p, 3, none⟩ = some x7 ∧ w1.cell? ⟨p, 4, none⟩ = some x8 ∧ w1.cell? ⟨p, 5, none⟩ = some x9 ∧ w1.cell? ⟨p, 6, none⟩ = some x10 ∧ w1.cell? ⟨q, 0, none⟩ = some x11 ∧ w1.cell? ⟨q, 1, none⟩ = some x12 ∧ Below W.heap.size W w1) : w2.cell? ⟨g, 0, none⟩ = some x0 ∧ w2.cell? ⟨g, 1, none⟩ = some x1 ∧ w2.cell? ⟨g, 2, none⟩ = some x2 ∧ w2.cell? ⟨g, 4, none⟩ = some x3 ∧ w2.cell? ⟨p, 0, none⟩ = some x4 ∧ w2.cell? ⟨p, 1, none⟩ = some x5 ∧ w2.cell? ⟨p, 2, none⟩ = some x6 ∧ w2.cell? ⟨p, 3, none⟩ = some x7 ∧ w2.cell? ⟨p, 4, none⟩ = some x8 ∧ w2.cell? ⟨p, 5, none⟩ = some x9 ∧ w2.cell? ⟨p, 6, none⟩ = some x10 ∧ w2.cell? ⟨q, 0, none⟩ = some x11 ∧ w2.cell? ⟨q, 1, none⟩ = some x12 ∧ Below W.heap.size W w2 := ⟨cell_keep hb h.1, cell_keep hb h.2.1, cell_keep hb h.2.2.1, cell_keep hb h.2.2.2.1, cell_keep hb h.2.2.2.2.1, cell_keep hb h.2.2.2.2.2.1, cell_keep hb h.2.2.2.2.2.2.1, cell_keep hb h.2.2.2.2.2.2.2.1, cell_keep hb h.2.2.2.2.2.2.2.2.1, cell_keep hb h.2.2.2.2.2.2.2.2.2.1, cell_keep hb h.2.2.2.2.2.2.2.2.2.2.1, cell_keep hb h.2.2.2.2.2.2.2.2.2.2.2.1, cell_keep hb h.2.2.2.2.2.2.2.2.2.2.2.2.1, below_step h.2.2.2.2.2.2.2.2.2.2.2.2.2 hb⟩
theorem keep13D (h : w1.cell? ⟨g, 0, none⟩ = some x0 ∧ w1.cell? ⟨g, 1, none⟩ = some x1 ∧ w1.cell? ⟨g, 2, none⟩ = some x2 ∧ w1.cell? ⟨g, 4, none⟩ = some x3 ∧ w1.cell? ⟨p, 0, none⟩ = some x4 ∧ w1.cell? ⟨p, 1, none⟩ = some x5 ∧ w1.cell? ⟨p, 2, none⟩ = some x6 ∧ w1.cell? ⟨p, 3, none⟩ = some x7 ∧ w1.cell? ⟨p, 4, none⟩ = some x8 ∧ w1.cell? ⟨p, 5, none⟩ = some x9 ∧ w1.cell? ⟨p, 6, none⟩ = some x10 ∧ w1.cell? ⟨q, 0, none⟩ = some x11 ∧ w1.cell? ⟨q, 1, none⟩ = some x12 ∧ Below W.heap.size W w1) : w1.drew.cell? ⟨g, 0, none⟩ = some x0 ∧ w1.drew.cell? ⟨g, 1, none⟩ = some x1 ∧ w1.drew.cell? ⟨g, 2, none⟩ = some x2 ∧ w1.drew.cell? ⟨g, 4, none⟩ = some x3 ∧ w1.drew.cell? ⟨p, 0, none⟩ = some x4 ∧ w1.drew.cell? ⟨p, 1, none⟩ = some x5 ∧ w1.drew.cell? ⟨p, 2, none⟩ = some x6 ∧ w1.drew.cell? ⟨p, 3, none⟩ = some x7 ∧ w1.drew.cell? ⟨p, 4, none⟩ = some x8 ∧ w1.drew.cell? ⟨p, 5, none⟩ = some x9 ∧ w1.drew.cell? ⟨p, 6, none⟩ = some x10 ∧ w1.drew.cell? ⟨q, 0, none⟩ = some x11 ∧ w1.drew.cell? ⟨q, 1, none⟩ = some x12 ∧ Below W.heap.size W w1.drew := ⟨h.1, h.2.1, h.2.2.1, h.2.2.2.1, h.2.2.2.2.1, h.2.2.2.2.2.1, h.2.2.2.2.2.2.1, h.2.2.2.2.2.2.2.1, h.2.2.2.2.2.2.2.2.1, h.2.2.2.2.2.2.2.2.2.1, h.2.2.2.2.2.2.2.2.2.2.1, h.2.2.2.2.2.2.2.2.2.2.2.1, h.2.2.2.2.2.2.2.2.2.2.2.2.1, below_drew h.2.2.2.2.2.2.2.2.2.2.2.2.2⟩
theorem keep13A (o : Obj) (h : w1.cell? ⟨g, 0, none⟩ = some x0 ∧ w1.cell? ⟨g, 1, none⟩ = some x1 ∧ w1.cell? ⟨g, 2, none⟩ = some x2 ∧ w1.cell? ⟨g, 4, none⟩ = some x3 ∧ w1.cell? ⟨p, 0, none⟩ = some x4 ∧ w1.cell? ⟨p, 1, none⟩ = some x5 ∧ w1.cell? ⟨p, 2, none⟩ = some x6 ∧ w1.cell? ⟨p, 3, none⟩ = some x7 ∧ w1.cell? ⟨p, 4, none⟩ = some x8 ∧ w1.cell? ⟨p, 5, none⟩ = some x9 ∧ w1.cell? ⟨p, 6, none⟩ = some x10 ∧ w1.cell? ⟨q, 0, none⟩ = some x11 ∧ w1.cell? ⟨q, 1, none⟩ = some x12 ∧ Below W.heap.size W w1) : (w1.alloc o).cell? ⟨g, 0, none⟩ = some x0 ∧ (w1.alloc o).cell? ⟨g, 1, none⟩ = some x1 ∧ (w1.alloc o).cell? ⟨g, 2, none⟩ = some x2 ∧ (w1.alloc o).cell? ⟨g, 4, none⟩ = some x3 ∧ (w1.alloc o).cell? ⟨p, 0, none⟩ = some x4 ∧ (w1.alloc o).cell? ⟨p, 1, none⟩ = some x5 ∧ (w1.alloc o).cell? ⟨p, 2, none⟩ = some x6 ∧ (w1.alloc o).cell? ⟨p, 3, none⟩ = some x7 ∧ (w1.alloc o).cell? ⟨p, 4, none⟩ = some x8 ∧ (w1.alloc o).cell? ⟨p, 5, none⟩ = some x9 ∧ (w1.alloc o).cell? ⟨p, 6, none⟩ = some x10 ∧ (w1.alloc o).cell? ⟨q, 0, none⟩ = some x11 ∧ (w1.alloc o).cell? ⟨q, 1, none⟩ = some x12 ∧ Below W.heap.size W (w1.alloc o) := keep13 (below_alloc _ _) h
end
/-- Unlock: the token's numbers b r d f t n and its tag; the moment lies from lo to hi. -/
def LS.unlock (s : LS) (b r d f t n : Int) (tag : BitVec 64) (lo hi local_ : Int) : LS × Int :=
  if s.state ≠ 1 then (s, 12) else if usable s.ka s.kb b r d f t n tag s.bike lo hi s.last ≠ 0 then (s, usable s.ka s.kb b r d f t n tag s.bike lo hi s.last)
  else if (s.report local_ 3 0 r d 2).2 ≠ 0 then (s, (s.report local_ 3 0 r d 2).2) else ({ (s.report local_ 3 0 r d 2).1 with last := n }, 0)
theorem report_err {s : LS} {a b c d e f : Int} (h : (s.report a b c d e f).2 ≠ 0) : (s.report a b c d e f).1 = s := by
  unfold LS.report at h ⊢
  split
  · rfl
  · rename_i h1
    rw [if_neg h1] at h
    split
    · rfl
    · rename_i h2
      rw [if_neg h2] at h
      split
      · rfl
      · rename_i h3
        rw [if_neg h3] at h
        exact absurd rfl h
theorem Fr.blk {g k : Nat} {v : Value} {W W' : World} {C : Array Value} (h : Fr g v W W') (hk : BlkAt W k C) (h1 : k ≠ g) (h2 : some k ≠ v.ownBlock) : BlkAt W' k C := hk.elim fun E hE => ⟨E, by rw [h.block k (Array.getElem?_eq_some_iff.1 hE).1 h1 h2]; exact hE⟩
theorem LockAt.lt {W : World} {g : Nat} {v : Value} {s : LS} (h : LockAt W g v s) : g < W.heap.size ∧ ∀ k, v.ownBlock = some k → k < W.heap.size := by
  refine ⟨h.1.elim fun E hE => (Array.getElem?_eq_some_iff.1 hE).1, fun k hk => ?_⟩
  rcases h.2.2 with ⟨hv, _⟩ | ⟨j, cap, cur, hv, hB, hj, _⟩
  · rw [hv] at hk; cases hk
  · rw [hv] at hk
    simp [Value.ownBlock] at hk
    subst hk
    exact (Array.getElem?_eq_some_iff.1 hj).1
theorem LockAt.setLast {W : World} {g : Nat} {v : Value} {s : LS} (h : LockAt W g v s) (n : Int) : LockAt (W.setCell ⟨g, 4, none⟩ (.int .i64 n)) g v { s with last := n } := by
  obtain ⟨⟨E, hE⟩, ho⟩ := h
  refine ⟨⟨E, heap_setCell_same W g 4 _ E (.int .i64 n) hE⟩, ho.1, ?_⟩
  rcases ho.2 with hn | ⟨k, cap, cur, hv, hB, hk, rest⟩
  · exact .inl hn
  · exact .inr ⟨k, cap, cur, hv, hB, by rw [heap_setCell_other _ _ _ _ (by show k ≠ g; omega)]; exact hk, rest⟩
theorem Fr.setG {g i : Nat} {v x : Value} {W W' : World} (h : Fr g v W W') : Fr g v W (W'.setCell ⟨g, i, none⟩ x) :=
  ⟨h.os, h.tape, h.output, by simpa [World.setCell] using h.size, fun k hk h1 h2 => by rw [heap_setCell_other _ _ _ _ (by show k ≠ g; exact h1)]; exact h.block k hk h1 h2⟩

set_option maxRecDepth 100000 in
set_option maxHeartbeats 4000000 in
theorem unlock_any {g : Nat} {v : Value} {s : LS} (b r d f t n : Int) (tag : BitVec 64) (lo hi local_ : Int) (w : World) (h : Hid (LockAt w g v s)) (hn : s.reps.length ≤ 512) :
    Calls Try.prog 27 #[.pointer (some ⟨g, 0, none⟩), .agg #[.int .i64 b, .int .i64 r, .int .i64 d, .int .i64 f, .int .i64 t, .int .i64 n, u64 tag], .agg #[.int .i64 lo, .int .i64 hi], .int .i64 local_] w (LkRet g v w (s.unlock b r d f t n tag lo hi local_)) := by
  obtain ⟨T, hT⟩ : ∃ T, s.unlock b r d f t n tag lo hi local_ = T := ⟨_, rfl⟩
  rw [hT]
  unfold LS.unlock at hT
  have HW : Hid (Below w.heap.size w ((w.alloc (.cells #[.int .i64 b, .int .i64 r, .int .i64 d, .int .i64 f, .int .i64 t, .int .i64 n, u64 tag] 69)).alloc (.cells #[.int .i64 lo, .int .i64 hi] 74)) ∧ BlkAt ((w.alloc (.cells #[.int .i64 b, .int .i64 r, .int .i64 d, .int .i64 f, .int .i64 t, .int .i64 n, u64 tag] 69)).alloc (.cells #[.int .i64 lo, .int .i64 hi] 74)) w.heap.size #[.int .i64 b, .int .i64 r, .int .i64 d, .int .i64 f, .int .i64 t, .int .i64 n, u64 tag] ∧ BlkAt ((w.alloc (.cells #[.int .i64 b, .int .i64 r, .int .i64 d, .int .i64 f, .int .i64 t, .int .i64 n, u64 tag] 69)).alloc (.cells #[.int .i64 lo, .int .i64 hi] 74)) (w.heap.size + 1) #[.int .i64 lo, .int .i64 hi]) := ⟨below_step (below_alloc _ _) (below_alloc _ _), blkOld (blkNew rfl), blkNew (by simp)⟩
  obtain ⟨hgw, hvw⟩ := h.out.lt
  have HVW := Lib.hid hvw
  clear hvw
  by_cases h1 : s.state = 1
  · rw [if_neg (fun h => h h1)] at hT
    have hcan := fun w' hw => can_yes (g := g) (v := v) (s := s) 1 w' hw h1
    have HCAN := Lib.hid hcan
    clear hcan h1
    obtain ⟨U, hU⟩ : ∃ U, usable s.ka s.kb b r d f t n tag s.bike lo hi s.last = U := ⟨_, rfl⟩
    rw [hU] at hT
    have huse := fun w => usable_any s.ka s.kb b r d f t n tag s.bike lo hi s.last w
    rw [hU] at huse
    have HUSE := Lib.hid huse
    clear huse hU
    obtain ⟨⟨s', e'⟩, hR⟩ : ∃ R, s.report local_ 3 0 r d 2 = R := ⟨_, rfl⟩
    rw [hR] at hT
    have HRP := Lib.hid hR
    have hse : e' ≠ 0 → s' = s := fun he => by have := report_err (s := s) (a := local_) (b := 3) (c := 0) (d := r) (e := d) (f := 2) (by rw [hR]; exact he); rw [hR] at this; exact this
    have HSE := Lib.hid hse
    have HT := Lib.hid hT
    clear hR hse hT
    go_enter Try.func27, Try.ntmps27
    go_wp2_with fail
    refine (HCAN.out _ (h.out.below HW.out.1)).mono ?_
    rintro e w1 ⟨rfl, hw1⟩
    have HL1 : Hid (LockAt w1 g v s ∧ BlkAt w1 w.heap.size #[.int .i64 b, .int .i64 r, .int .i64 d, .int .i64 f, .int .i64 t, .int .i64 n, u64 tag] ∧ BlkAt w1 (w.heap.size + 1) #[.int .i64 lo, .int .i64 hi] ∧ Below w.heap.size w w1) := by
      show _ ∧ _
      rw [hw1]
      exact ⟨h.out.below HW.out.1, HW.out.2.1, HW.out.2.2, HW.out.1⟩
    clear hw1 HW HCAN
    obtain ⟨c0, c1, c2, c3, c4, c5⟩ := six_cells HL1.out.1.1
    obtain ⟨k0, k1, k2, k3, k4, k5, k6⟩ := tok_cells (w := w) (E := 0) HL1.out.2.1
    obtain ⟨z0, z1⟩ := key_cells2 HL1.out.2.2.1
    go_wp2_with fail
    have hk0 : w1.cell? ⟨g, 0, none⟩ = some (.int .i64 s.bike) ∧ w1.cell? ⟨g, 1, none⟩ = some (u64 s.ka) ∧ w1.cell? ⟨g, 2, none⟩ = some (u64 s.kb) ∧ w1.cell? ⟨g, 4, none⟩ = some (.int .i64 s.last) ∧ w1.cell? ⟨w.heap.size, 0, none⟩ = some (.int .i64 b) ∧ w1.cell? ⟨w.heap.size, 1, none⟩ = some (.int .i64 r) ∧ w1.cell? ⟨w.heap.size, 2, none⟩ = some (.int .i64 d) ∧ w1.cell? ⟨w.heap.size, 3, none⟩ = some (.int .i64 f) ∧ w1.cell? ⟨w.heap.size, 4, none⟩ = some (.int .i64 t) ∧ w1.cell? ⟨w.heap.size, 5, none⟩ = some (.int .i64 n) ∧ w1.cell? ⟨w.heap.size, 6, none⟩ = some (u64 tag) ∧ w1.cell? ⟨w.heap.size + 1, 0, none⟩ = some (.int .i64 lo) ∧ w1.cell? ⟨w.heap.size + 1, 1, none⟩ = some (.int .i64 hi) ∧ Below w1.heap.size w1 w1 := ⟨c0, c1, c2, c4, k0, k1, k2, k3, k4, k5, k6, z0, z1, Below.refl _ _⟩
    go_cut [10] (fun a wx => a = .int .i64 U ∧ Hid (Below w1.heap.size w1 wx))
    case first =>
      clear c0 c1 c2 c3 c4 c5 k0 k1 k2 k3 k4 k5 k6 z0 z1
      go_region_held3 (fun w9 => w9.cell? ⟨g, 0, none⟩ = some (.int .i64 s.bike) ∧ w9.cell? ⟨g, 1, none⟩ = some (u64 s.ka) ∧ w9.cell? ⟨g, 2, none⟩ = some (u64 s.kb) ∧ w9.cell? ⟨g, 4, none⟩ = some (.int .i64 s.last) ∧ w9.cell? ⟨w.heap.size, 0, none⟩ = some (.int .i64 b) ∧ w9.cell? ⟨w.heap.size, 1, none⟩ = some (.int .i64 r) ∧ w9.cell? ⟨w.heap.size, 2, none⟩ = some (.int .i64 d) ∧ w9.cell? ⟨w.heap.size, 3, none⟩ = some (.int .i64 f) ∧ w9.cell? ⟨w.heap.size, 4, none⟩ = some (.int .i64 t) ∧ w9.cell? ⟨w.heap.size, 5, none⟩ = some (.int .i64 n) ∧ w9.cell? ⟨w.heap.size, 6, none⟩ = some (u64 tag) ∧ w9.cell? ⟨w.heap.size + 1, 0, none⟩ = some (.int .i64 lo) ∧ w9.cell? ⟨w.heap.size + 1, 1, none⟩ = some (.int .i64 hi) ∧ Below w1.heap.size w1 w9)
        (repeat (with_reducible first | assumption | refine keep13D ?_ | refine keep13A _ ?_ | (apply keep13; focus assumption)))
        (first
          | (go_at_call 49; (with_reducible refine (HUSE.out _).mono ?_); rintro e w2 ⟨rfl, hb2⟩))
      all_goals
        go_wp2_with fail
        go_meet
        exact ⟨rfl, by go_split_ands; assumption⟩
    case rest =>
      obtain ⟨rfl, hcut⟩ := hcut
      obtain ⟨W, hW⟩ : ∃ W, W = wc := ⟨_, rfl⟩
      subst hW
      have HL2 : Hid (LockAt W g v s ∧ BlkAt W w.heap.size #[.int .i64 b, .int .i64 r, .int .i64 d, .int .i64 f, .int .i64 t, .int .i64 n, u64 tag] ∧ Below w.heap.size w W) := ⟨HL1.out.1.below hcut.out, blkBelow hcut.out HL1.out.2.1, below_step HL1.out.2.2.2 hcut.out⟩
      clear hk0 c0 c1 c2 c3 c4 c5 k0 k1 k2 k3 k4 k5 k6 z0 z1 HL1 hcut
      by_cases hU0 : U = 0
      · subst hU0
        obtain ⟨k0, k1, k2, k3, k4, k5, k6⟩ := tok_cells (w := w) (E := 0) HL2.out.2.1
        go_wp2_with fail
        refine (report_s (Lib.hid HL2.out.1) hn HRP).mono ?_
        rintro e w3 ⟨rfl, v', hl3, hf3, hfr3, herr⟩
        by_cases he : e' = 0
        · subst he
          have hT' := HT.out
          rw [if_neg (fun h : (0 : Int) ≠ 0 => h rfl), if_neg (fun h : (0 : Int) ≠ 0 => h rfl)] at hT'
          have HT2 := Lib.hid hT'.symm
          have hblk := hf3.blk HL2.out.2.1 (by omega) (fun e => by have := HVW.out _ e.symm; omega)
          have HL3 := Lib.hid (And.intro hl3 (And.intro hf3 hfr3))
          clear k0 k1 k2 k3 k4 k5 k6 hT' hl3 hf3 hfr3 herr
          obtain ⟨k0, k1, k2, k3, k4, k5, k6⟩ := tok_cells (w := w) (E := 0) hblk
          obtain ⟨c0, c1, c2, c3, c4, c5⟩ := six_cells HL3.out.1.1
          have fz := frozen_blk (i := 4) HL3.out.1.1
          clear hblk
          go_wp2
          go_ret
          exact lkRet_ok HT2.out ⟨HL3.out.1.setLast n, (Fr.trans (Fr.of_below HL2.out.2.2) (Fresh.refl _ _) HL3.out.2.1).setG, Fresh.trans (Fresh.refl _ _) HL2.out.2.2.size HL3.out.2.2⟩
        · have hT' := HT.out
          rw [if_neg (fun h : (0 : Int) ≠ 0 => h rfl), if_pos he] at hT'
          have HT2 := Lib.hid hT'.symm
          have HB := Lib.hid (below_step HL2.out.2.2 (herr he).2)
          clear hT' hl3 hf3 hfr3 herr k0 k1 k2 k3 k4 k5 k6
          go_wp2
          go_ret
          exact lkRet_err HT2.out h HB.out
      · have hT' := HT.out
        rw [if_pos hU0] at hT'
        have HT2 := Lib.hid hT'.symm
        clear hT'
        go_wp2
        go_ret
        exact lkRet_err HT2.out h HL2.out.2.2
  · rw [if_pos h1] at hT
    have HT := Lib.hid hT
    clear hT
    have hcan := fun w' hw => can_no (g := g) (v := v) (s := s) 1 w' hw h1
    have HCAN := Lib.hid hcan
    clear hcan h1
    go_enter Try.func27, Try.ntmps27
    go_wp2_with fail
    refine (HCAN.out _ (h.out.below HW.out.1)).mono ?_
    rintro e w1 ⟨rfl, hw1⟩
    have HB : Hid (Below w.heap.size w w1) := by
      show Below _ _ _
      rw [hw1]
      exact HW.out.1
    clear hw1 HW
    go_wp2
    go_ret
    exact lkRet_err HT.out.symm h HB.out
end Go.Proofs.Ytpmjgiabedjlgaa
