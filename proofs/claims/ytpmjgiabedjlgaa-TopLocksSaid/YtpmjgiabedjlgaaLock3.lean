/-
  LOCKS, THE WALKS: New, can, State, Last.
-/
import Derived.Test.YtpmjgiabedjlgaaProg
import Derived.Test.YtpmjgiabedjlgaaBase7
import Derived.Test.YtpmjgiabedjlgaaBase14
import Derived.Test.YtpmjgiabedjlgaaTokP
import Derived.Test.YtpmjgiabedjlgaaTok1
import Derived.Test.YtpmjgiabedjlgaaTok2
import Derived.Test.YtpmjgiabedjlgaaTok3
import Derived.Test.YtpmjgiabedjlgaaLockP
import Derived.BigQuiet
import Derived.Laws.StructEq
import Derived.StillTailTactics
import Derived.RegionTactic
import Derived.Deep.DeepCutAuto
import Derived.Deep.QuietTactic
import Derived.WalkSpells
import Derived.WalkLawsBesides
import Derived.BigRegion
import Derived.Deep.RegionLaw
namespace Go.Proofs.Ytpmjgiabedjlgaa
open Go.RowKit
set_option linter.unusedVariables false

theorem six_cells {W : World} {k : Nat} {x0 x1 x2 x3 x4 x5 : Value} (h : BlkAt W k #[x0, x1, x2, x3, x4, x5]) : W.cell? ⟨k, 0, none⟩ = some x0 ∧ W.cell? ⟨k, 1, none⟩ = some x1 ∧ W.cell? ⟨k, 2, none⟩ = some x2 ∧ W.cell? ⟨k, 3, none⟩ = some x3 ∧ W.cell? ⟨k, 4, none⟩ = some x4 ∧ W.cell? ⟨k, 5, none⟩ = some x5 := by
  obtain ⟨E, h⟩ := h
  refine ⟨?_, ?_, ?_, ?_, ?_, ?_⟩ <;> rw [cell_of_row _ _ _ _ _ _ h] <;> rfl
theorem new_ok (bike : Int) (ka kb : BitVec 64) (w : World) (h0 : 0 ≤ bike) (h1 : bike < 128) : Calls Try.prog 25 #[.int .i64 bike, .agg #[u64 ka, u64 kb]] w (fun e w' => e = .returned (.tuple #[.pointer (some ⟨w.heap.size + 1, 0, none⟩), .int .i64 0]) ∧ Hid (LockAt w' (w.heap.size + 1) (.slice none 0 0) ⟨bike, ka, kb, 1, 0, []⟩) ∧ Below w.heap.size w w') := by
  have h0' : ¬ bike < 0 := by omega
  go_enter Try.func25, Try.ntmps25
  go_wp2
  go_ret2
  exact ⟨rfl, ⟨blkNew (by simp), World.ownsRow_nil _ _ _ _⟩, below_step (below_alloc _ _) (below_alloc _ _)⟩
theorem can_yes {g : Nat} {v : Value} {s : LS} (st : Int) (w : World) (h : Hid (LockAt w g v s)) (hs : s.state = st) : Calls Try.prog 48 #[.pointer (some ⟨g, 0, none⟩), .int .i64 st] w (fun e w' => e = .returned (.int .i64 0) ∧ w' = w) := by
  obtain ⟨c0, c1, c2, c3, c4, c5⟩ := six_cells h.out.1
  rw [hs] at c3
  clear hs
  go_enter Try.func48, Try.ntmps48
  go_wp2
  go_ret
  exact ⟨rfl, rfl⟩
theorem can_no {g : Nat} {v : Value} {s : LS} (st : Int) (w : World) (h : Hid (LockAt w g v s)) (hs : ¬ s.state = st) : Calls Try.prog 48 #[.pointer (some ⟨g, 0, none⟩), .int .i64 st] w (fun e w' => e = .returned (.int .i64 12) ∧ w' = w) := by
  obtain ⟨c0, c1, c2, c3, c4, c5⟩ := six_cells h.out.1
  generalize s.state = z at *
  go_enter Try.func48, Try.ntmps48
  go_wp2
  go_ret
  exact ⟨rfl, rfl⟩
end Go.Proofs.Ytpmjgiabedjlgaa

namespace Go.Proofs.Ytpmjgiabedjlgaa
open Go.RowKit
set_option linter.unusedVariables false

theorem infoR : (Try.prog.info? 45).map (fun i => (i.zero, i.size, i.bytes)) = some (some (.agg #[.int .i64 0, .int .i64 0, .int .i64 0, .int .i64 0, .int .i64 0, .int .i64 0]), 6, 48) := by kernel_rfl
theorem own_ne {W : World} {g n : Nat} {v : Value} {e : TypeId} {xs : List Value} (h : W.ownsRow (g + 1) e 6 v n xs) : some g ≠ v.ownBlock := by
  intro e'
  rcases h.2 with ⟨rfl, _⟩ | ⟨k, cap, cur, rfl, hB, _⟩
  · simp [Value.ownBlock] at e'
  · simp [Value.ownBlock] at e'
    omega
theorem blk_grown {C D : World} {g : Nat} {A : Array Value} {r : Option Nat} (h : BlkAt C g A) (hg : C.grownBy D r) (hr : some g ≠ r) : BlkAt D g A := h.elim fun E h => ⟨E, by rw [hg.block g (Array.getElem?_eq_some_iff.1 h).1 hr]; exact h⟩
theorem lkDrew {W : World} {g : Nat} {v : Value} {s : LS} (h : Hid (LockAt W g v s)) : Hid (LockAt W.drew g v s) := ⟨blkDrew h.out.1, ⟨h.out.2.1, h.out.2.2⟩⟩
theorem lkAlloc {W : World} {o : Obj} {g : Nat} {v : Value} {s : LS} (h : Hid (LockAt W g v s)) : Hid (LockAt (W.alloc o) g v s) := h.out.below (below_alloc _ _)
theorem frozen_blk {W : World} {k i : Nat} {C : Array Value} (h : BlkAt W k C) : W.frozen? ⟨k, i, none⟩ = false := h.elim fun E h => frozen_of_row _ _ _ _ _ h
/-- Behind the append and the two stores. -/
theorem lock_done {w C D : World} {g : Nat} {v v9 : Value} {s : LS} {st : Int} {x : Rep} (h : Hid (LockAt C g v s)) (ho : D.ownsRow (g + 1) 45 6 v9 (s.reps.length + 1) (rcs s.reps ++ (repA x).toList)) (hg : C.grownBy D v.ownBlock) (hf : Fresh C v v9) (hb : Below w.heap.size w C) :
    LockAt ((D.setCell ⟨g, 5, none⟩ v9).setCell ⟨g, 3, none⟩ (.int .i64 st)) g v9 { s with state := st, reps := s.reps ++ [x] } ∧ Fr g v w ((D.setCell ⟨g, 5, none⟩ v9).setCell ⟨g, 3, none⟩ (.int .i64 st)) ∧ Fresh w v v9 := by
  have h0 := blk_grown h.out.1 hg (own_ne h.out.2)
  obtain ⟨E, h1⟩ := h0
  refine ⟨⟨⟨E, ?_⟩, ?_⟩, ⟨?_, ?_, ?_, ?_, fun k hk h1 h2 => ?_⟩, fun k hk => ?_⟩
  · have a := heap_setCell_same D g 5 _ E v9 h1
    have b := heap_setCell_same _ g 3 _ E (.int .i64 st) a
    exact b
  · have hl : (s.reps ++ [x]).length = s.reps.length + 1 := by simp
    show World.ownsRow _ (g + 1) 45 6 v9 (s.reps ++ [x]).length (rcs (s.reps ++ [x]))
    rw [hl, rcs_append, rcs_one]
    refine ⟨ho.1, ?_⟩
    rcases ho.2 with hn | ⟨k, cap, cur, rfl, hB, hk, rest⟩
    · exact .inl hn
    · exact .inr ⟨k, cap, cur, rfl, hB, by rw [heap_setCell_other _ _ _ _ (by show k ≠ g; omega), heap_setCell_other _ _ _ _ (by show k ≠ g; omega)]; exact hk, rest⟩
  · exact hg.os.trans hb.os
  · exact hg.tape.trans hb.tape
  · exact hg.output.trans hb.output
  · have := hb.size; have := hg.size; simpa [World.setCell] using Nat.le_trans hb.size hg.size
  · rw [heap_setCell_other _ _ _ _ (by show k ≠ g; exact h1), heap_setCell_other _ _ _ _ (by show k ≠ g; exact h1), hg.block k (Nat.lt_of_lt_of_le hk hb.size) h2, hb.block k hk]
  · rcases hf k hk with h1 | h1
    · exact .inl h1
    · exact .inr (Nat.le_trans hb.size h1)
theorem blk_lock_grown {C D : World} {g : Nat} {v : Value} {s : LS} (h : Hid (LockAt C g v s)) (hg : C.grownBy D v.ownBlock) : BlkAt D g #[.int .i64 s.bike, u64 s.ka, u64 s.kb, .int .i64 s.state, .int .i64 s.last, v] := blk_grown h.out.1 hg (own_ne h.out.2)
theorem hown9 {W : World} {g n : Nat} {v : Value} {s : LS} (h : Hid (LockAt W g v s)) (hn : s.reps.length = n) : W.ownsRow (g + 1) 45 6 v n (rcs s.reps) := by subst hn; exact h.out.2
theorem repA_one (x : Rep) : ∀ u ∈ (repA x).toList, u.oneCell' = true := by
  intro u hu
  simp [repA] at hu
  rcases hu with rfl | rfl | rfl | rfl | rfl | rfl <;> rfl
theorem one_more {w : World} {a0 a1 a2 a3 a4 a5 x : Value} {E : TypeId} (nq : Nat) : BlkAt (((w.alloc (.cells #[a0, a1, a2, a3, a4, a5] E)).drewN nq).setCell ⟨w.heap.size, 0, none⟩ x) w.heap.size #[x, a1, a2, a3, a4, a5] := by
  have h : BlkAt ((w.alloc (.cells #[a0, a1, a2, a3, a4, a5] E)).drewN nq) w.heap.size #[a0, a1, a2, a3, a4, a5] := ⟨E, heap_alloc_new w _⟩
  obtain ⟨E', h⟩ := h
  exact ⟨E', heap_setCell_same _ w.heap.size 0 _ E' x h⟩
/-- What a call on a lock leaves. -/
def LkRet (g : Nat) (v : Value) (W : World) (r : LS × Int) (e : Ending) (W' : World) : Prop :=
  e = .returned (.int .i64 r.2) ∧ ∃ v', LockAt W' g v' r.1 ∧ Fr g v W W' ∧ Fresh W v v' ∧ (r.2 ≠ 0 → v' = v ∧ Below W.heap.size W W')
theorem lkRet_ok {g : Nat} {v v' : Value} {W W' : World} {s : LS} {r : LS × Int} (hr : r = (s, 0)) (h : Hid (LockAt W' g v' s ∧ Fr g v W W' ∧ Fresh W v v')) : LkRet g v W r (.returned (.int .i64 0)) W' := by
  subst hr
  exact ⟨rfl, v', h.out.1, h.out.2.1, h.out.2.2, fun h => absurd rfl h⟩
theorem lkRet_err {g : Nat} {v : Value} {W W' : World} {s : LS} {r : LS × Int} {e : Int} (hr : r = (s, e)) (h : Hid (LockAt W g v s)) (hb : Below W.heap.size W W') : LkRet g v W r (.returned (.int .i64 e)) W' := by
  subst hr
  exact ⟨rfl, v, h.out.below hb, Fr.of_below hb, Fresh.refl _ _, fun _ => ⟨rfl, hb⟩⟩

set_option maxRecDepth 100000 in
set_option maxHeartbeats 4000000 in
theorem report_any {g : Nat} {v : Value} {s : LS} (q0 local_ kind place rider ride st : Int) (w : World) (h : Hid (LockAt w g v s)) (hn : s.reps.length ≤ 512) :
    Calls Try.prog 50 #[.pointer (some ⟨g, 0, none⟩), .agg #[.int .i64 q0, .int .i64 local_, .int .i64 kind, .int .i64 place, .int .i64 rider, .int .i64 ride], .int .i64 st] w (LkRet g v w (s.report local_ kind place rider ride st)) := by
  obtain ⟨T, hT⟩ : ∃ T, s.report local_ kind place rider ride st = T := ⟨_, rfl⟩
  rw [hT]
  unfold LS.report at hT
  obtain ⟨ao, cap, hv, hsl⟩ := sl_of_own h.out.2
  subst hv
  have hb0 := below_alloc w (.cells #[.int .i64 q0, .int .i64 local_, .int .i64 kind, .int .i64 place, .int .i64 rider, .int .i64 ride] 45)
  have HB0 := Lib.hid hb0
  obtain ⟨c0, c1, c2, c3, c4, c5⟩ := six_cells (h.out.below hb0).1
  generalize hN : s.reps.length = N at *
  clear hb0
  by_cases h1 : local_ < 0
  · rw [if_pos (.inl h1)] at hT
    have HT := Lib.hid hT
    clear hT hsl hN
    go_enter Try.func50, Try.ntmps50
    go_wp2
    go_ret
    exact lkRet_err HT.out.symm h HB0.out
  · by_cases h2 : 4294943999 < local_
    · rw [if_pos (.inr h2)] at hT
      have HT := Lib.hid hT
      clear hT hsl hN
      go_enter Try.func50, Try.ntmps50
      go_wp2
      go_ret
      exact lkRet_err HT.out.symm h HB0.out
    · rw [if_neg (fun h => h.elim h1 h2)] at hT
      obtain ⟨xl, hxl⟩ : ∃ xl, lastLocal s.reps = xl := ⟨_, rfl⟩
      rw [hxl] at hT
      rcases Nat.eq_zero_or_pos N with h3 | h3
      · subst h3
        rw [if_neg (fun h => absurd h.1 (by omega)), if_neg (by omega)] at hT
        have h5' : ¬ (512 : Int) ≤ ((0 : Nat) : Int) := by omega
        have HT := Lib.hid hT
        have HNN := Lib.hid hN
        clear hT hsl hN hxl
        go_enter Try.func50, Try.ntmps50
        go_wp2
        go_quiet (fail)
        go_wp2
        have hworld : Hid (LockAt (((w.alloc (.cells #[.int .i64 q0, .int .i64 local_, .int .i64 kind, .int .i64 place, .int .i64 rider, .int .i64 ride] 45)).drewN nq).setCell ⟨w.heap.size, 0, none⟩ (.int .i64 1)) g (.slice ao 0 cap) s ∧ BlkAt (((w.alloc (.cells #[.int .i64 q0, .int .i64 local_, .int .i64 kind, .int .i64 place, .int .i64 rider, .int .i64 ride] 45)).drewN nq).setCell ⟨w.heap.size, 0, none⟩ (.int .i64 1)) w.heap.size #[.int .i64 1, .int .i64 local_, .int .i64 kind, .int .i64 place, .int .i64 rider, .int .i64 ride] ∧ Below w.heap.size w (((w.alloc (.cells #[.int .i64 q0, .int .i64 local_, .int .i64 kind, .int .i64 place, .int .i64 rider, .int .i64 ride] 45)).drewN nq).setCell ⟨w.heap.size, 0, none⟩ (.int .i64 1))) := by
          have hl := h.out.below (below_drewN HB0.out nq)
          have hgl : g < w.heap.size := by obtain ⟨E, hE⟩ := h.out.1; exact (Array.getElem?_eq_some_iff.1 hE).1
          have hb9 : Below w.heap.size w (((w.alloc (.cells #[.int .i64 q0, .int .i64 local_, .int .i64 kind, .int .i64 place, .int .i64 rider, .int .i64 ride] 45)).drewN nq).setCell ⟨w.heap.size, 0, none⟩ (.int .i64 1)) := (below_drewN HB0.out nq).setCell (p := ⟨w.heap.size, 0, none⟩) (Nat.le_refl _) _
          exact ⟨h.out.below hb9, one_more (x := .int .i64 1) _, hb9⟩
        generalize ((w.alloc (.cells #[.int .i64 q0, .int .i64 local_, .int .i64 kind, .int .i64 place, .int .i64 rider, .int .i64 ride] 45)).drewN nq).setCell ⟨w.heap.size, 0, none⟩ (.int .i64 1) = W at *
        clear c0 c1 c2 c3 c4 c5
        have HA : Hid (LockAt W g (.slice ao 0 cap) s) := hworld.out.1
        obtain ⟨c0, c1, c2, c3, c4, c5⟩ := six_cells hworld.out.1.1
        obtain ⟨r0, r1, r2, r3, r4, r5⟩ := six_cells hworld.out.2.1
        have hgW : g + 1 ≤ W.heap.size := by obtain ⟨E, hE⟩ := hworld.out.1.1; exact (Array.getElem?_eq_some_iff.1 hE).1
        have hgW2 : g < W.heap.size := hgW
        have hgW3 : ¬ g = W.heap.size := by omega
        have c5a : ∀ o, (W.alloc o).cell? ⟨g, 5, none⟩ = some (.slice ao 0 cap) := fun o => cell_keep (below_alloc W o) c5
        go_region_law (go_loud ((refine step_append_row _ rfl (.tmp 50) (.tmp 52) 34 rfl (g + 1) 45 (.agg #[.int .i64 0, .int .i64 0, .int .i64 0, .int .i64 0, .int .i64 0, .int .i64 0]) 6 48 Try.underlying34 infoR rfl (by decide) (v := .slice ao 0 cap) (n := 0) (xs := rcs s.reps) (by rfl) (hown9 (by (repeat (first | (with_reducible assumption) | (with_reducible refine lkDrew ?_) | (with_reducible refine lkAlloc ?_)))) HNN.out) (k := W.heap.size) (C := #[.int .i64 1, .int .i64 local_, .int .i64 kind, .int .i64 place, .int .i64 rider, .int .i64 ride]) (by rfl) (by (repeat (first | ((with_reducible refine blkNew ?_); focus (simp; done)) | (with_reducible refine blkDrew ?_) | (with_reducible refine blkOld ?_)))) rfl (repA_one (1, local_, kind, place, rider, ride)) (by unfold maxLen; omega) (by omega) (by first | (simp; done) | (simp; omega)) ?_); intro v9 w9 ho9 hg9 hf9; obtain ⟨a9, n9, e9, s9⟩ := sl_of_own ho9; subst e9; clear s9; have HD := Lib.hid (And.intro ho9 (And.intro hg9 hf9)); have hL9 := blk_lock_grown (g := g) (s := s) (v := .slice ao 0 cap) (by (repeat (first | (with_reducible assumption) | (with_reducible refine lkDrew ?_) | (with_reducible refine lkAlloc ?_)))) hg9; obtain ⟨k0, k1, k2, k3, k4, k5⟩ := six_cells hL9; have fz3 := frozen_blk (i := 3) hL9; have fz5 := frozen_blk (i := 5) hL9; clear ho9 hg9 hf9 hL9))
        all_goals
          have e1 : (1 : Int) = (((0 : Nat) : Int) + 1) := by omega
          have ho9 : w9.ownsRow (g + 1) 45 6 (.slice a9 (0 + 1) n9) (s.reps.length + 1) (rcs s.reps ++ (repA ((((0 : Nat) : Int) + 1), local_, kind, place, rider, ride)).toList) := by
            rw [HNN.out, ← e1]
            exact HD.out.1
          have hd := lock_done (w := w) (st := st) (s := s) (g := g) (by (repeat (first | (with_reducible assumption) | (with_reducible refine lkDrew ?_) | (with_reducible refine lkAlloc ?_)))) ho9 HD.out.2.1 HD.out.2.2 (by (repeat (first | exact hworld.out.2.2 | refine below_drew ?_ | refine below_step ?_ (below_alloc _ _))))
          have HE := Lib.hid hd
          clear hd e1 ho9 HD
          go_wp2
          go_ret
          exact lkRet_ok HT.out.symm HE
      · obtain ⟨M, rfl⟩ : ∃ M, N = M + 1 := ⟨N - 1, by omega⟩
        obtain ⟨b, off, e0, hcell⟩ : ∃ b off, ao = some ⟨b, off, none⟩ ∧ (w.alloc (.cells #[.int .i64 q0, .int .i64 local_, .int .i64 kind, .int .i64 place, .int .i64 rider, .int .i64 ride] 45)).cell? ⟨b, off + M * 6 + 1, none⟩ = some (.int .i64 xl) := by
          have hg := rcs_get s.reps M 1 (by omega) (by omega)
          obtain ⟨b, off, e, hc⟩ := (hsl.ext HB0.out).hcell (M * 6 + 1) _ hg
          refine ⟨b, off, e, ?_⟩
          rw [Nat.add_assoc, hc, ← hxl]
          unfold lastLocal
          rw [hN]
          rfl
        subst e0
        have hM1 : ((M + 1 : Nat) : Int) - 1 = (M : Int) := by omega
        have hM2 : IntKind.i64.wrap (M : Int) = (M : Int) := by rw [IntKind.wrap_i64]; omega
        have hM0 : (0 : Int) ≤ (M : Int) := by omega
        have hM3 : (M : Int) < ((M + 1 : Nat) : Int) := by omega
        have hM4 : (0 : Int) < ((M + 1 : Nat) : Int) := by omega
        by_cases h4 : local_ < xl
        · rw [if_pos ⟨by omega, h4⟩] at hT
          have HT := Lib.hid hT
          clear hT hsl hN hxl
          go_enter Try.func50, Try.ntmps50
          go_wp2
          go_quiet (fail)
          go_wp2
          go_ret
          exact lkRet_err HT.out.symm h (below_drewN HB0.out _)
        · rw [if_neg (fun h => h4 h.2)] at hT
          by_cases h5 : 512 ≤ M + 1
          · rw [if_pos h5] at hT
            have h5' : (512 : Int) ≤ ((M + 1 : Nat) : Int) := by omega
            have HT := Lib.hid hT
            clear hT hsl hN hxl
            go_enter Try.func50, Try.ntmps50
            go_wp2
            go_quiet (fail)
            go_wp2
            go_ret
            exact lkRet_err HT.out.symm h (below_drewN HB0.out _)
          · rw [if_neg h5] at hT
            have h5' : ¬ (512 : Int) ≤ ((M + 1 : Nat) : Int) := by omega
            have HT := Lib.hid hT
            have HNN := Lib.hid hN
            clear hT hsl hN hxl
            go_enter Try.func50, Try.ntmps50
            go_wp2
            go_quiet (fail)
            go_wp2
            have hworld : Hid (LockAt (((w.alloc (.cells #[.int .i64 q0, .int .i64 local_, .int .i64 kind, .int .i64 place, .int .i64 rider, .int .i64 ride] 45)).drewN nq).setCell ⟨w.heap.size, 0, none⟩ (.int .i64 (((M : Int) + 1) + 1))) g (.slice (some ⟨b, off, none⟩) (M + 1) cap) s ∧ BlkAt (((w.alloc (.cells #[.int .i64 q0, .int .i64 local_, .int .i64 kind, .int .i64 place, .int .i64 rider, .int .i64 ride] 45)).drewN nq).setCell ⟨w.heap.size, 0, none⟩ (.int .i64 (((M : Int) + 1) + 1))) w.heap.size #[.int .i64 (((M : Int) + 1) + 1), .int .i64 local_, .int .i64 kind, .int .i64 place, .int .i64 rider, .int .i64 ride] ∧ Below w.heap.size w (((w.alloc (.cells #[.int .i64 q0, .int .i64 local_, .int .i64 kind, .int .i64 place, .int .i64 rider, .int .i64 ride] 45)).drewN nq).setCell ⟨w.heap.size, 0, none⟩ (.int .i64 (((M : Int) + 1) + 1)))) := by
              have hl := h.out.below (below_drewN HB0.out nq)
              have hgl : g < w.heap.size := by obtain ⟨E, hE⟩ := h.out.1; exact (Array.getElem?_eq_some_iff.1 hE).1
              have hb9 : Below w.heap.size w (((w.alloc (.cells #[.int .i64 q0, .int .i64 local_, .int .i64 kind, .int .i64 place, .int .i64 rider, .int .i64 ride] 45)).drewN nq).setCell ⟨w.heap.size, 0, none⟩ (.int .i64 (((M : Int) + 1) + 1))) := (below_drewN HB0.out nq).setCell (p := ⟨w.heap.size, 0, none⟩) (Nat.le_refl _) _
              exact ⟨h.out.below hb9, one_more (x := .int .i64 (((M : Int) + 1) + 1)) _, hb9⟩
            generalize ((w.alloc (.cells #[.int .i64 q0, .int .i64 local_, .int .i64 kind, .int .i64 place, .int .i64 rider, .int .i64 ride] 45)).drewN nq).setCell ⟨w.heap.size, 0, none⟩ (.int .i64 (((M : Int) + 1) + 1)) = W at *
            clear c0 c1 c2 c3 c4 c5 hcell
            have HA : Hid (LockAt W g (.slice (some ⟨b, off, none⟩) (M + 1) cap) s) := hworld.out.1
            obtain ⟨c0, c1, c2, c3, c4, c5⟩ := six_cells hworld.out.1.1
            obtain ⟨r0, r1, r2, r3, r4, r5⟩ := six_cells hworld.out.2.1
            have hgW : g + 1 ≤ W.heap.size := by obtain ⟨E, hE⟩ := hworld.out.1.1; exact (Array.getElem?_eq_some_iff.1 hE).1
            have hgW2 : g < W.heap.size := hgW
            have hgW3 : ¬ g = W.heap.size := by omega
            have c5a : ∀ o, (W.alloc o).cell? ⟨g, 5, none⟩ = some (.slice (some ⟨b, off, none⟩) (M + 1) cap) := fun o => cell_keep (below_alloc W o) c5
            go_region_law (go_loud ((refine step_append_row _ rfl (.tmp 50) (.tmp 52) 34 rfl (g + 1) 45 (.agg #[.int .i64 0, .int .i64 0, .int .i64 0, .int .i64 0, .int .i64 0, .int .i64 0]) 6 48 Try.underlying34 infoR rfl (by decide) (v := .slice (some ⟨b, off, none⟩) (M + 1) cap) (n := M + 1) (xs := rcs s.reps) (by rfl) (hown9 (by (repeat (first | (with_reducible assumption) | (with_reducible refine lkDrew ?_) | (with_reducible refine lkAlloc ?_)))) HNN.out) (k := W.heap.size) (C := #[.int .i64 (((M : Int) + 1) + 1), .int .i64 local_, .int .i64 kind, .int .i64 place, .int .i64 rider, .int .i64 ride]) (by rfl) (by (repeat (first | ((with_reducible refine blkNew ?_); focus (simp; done)) | (with_reducible refine blkDrew ?_) | (with_reducible refine blkOld ?_)))) rfl (repA_one ((((M : Int) + 1) + 1), local_, kind, place, rider, ride)) (by unfold maxLen; omega) (by omega) (by first | (simp; done) | (simp; omega)) ?_); intro v9 w9 ho9 hg9 hf9; obtain ⟨a9, n9, e9, s9⟩ := sl_of_own ho9; subst e9; clear s9; have HD := Lib.hid (And.intro ho9 (And.intro hg9 hf9)); have hL9 := blk_lock_grown (g := g) (s := s) (v := .slice (some ⟨b, off, none⟩) (M + 1) cap) (by (repeat (first | (with_reducible assumption) | (with_reducible refine lkDrew ?_) | (with_reducible refine lkAlloc ?_)))) hg9; obtain ⟨k0, k1, k2, k3, k4, k5⟩ := six_cells hL9; have fz3 := frozen_blk (i := 3) hL9; have fz5 := frozen_blk (i := 5) hL9; clear ho9 hg9 hf9 hL9))
            all_goals
              have e1 : ((M : Int) + 1 + 1) = (((M + 1 : Nat) : Int) + 1) := by omega
              have ho9 : w9.ownsRow (g + 1) 45 6 (.slice a9 (M + 1 + 1) n9) (s.reps.length + 1) (rcs s.reps ++ (repA ((((M + 1 : Nat) : Int) + 1), local_, kind, place, rider, ride)).toList) := by
                rw [HNN.out, ← e1]
                exact HD.out.1
              have hd := lock_done (w := w) (st := st) (s := s) (g := g) (by (repeat (first | (with_reducible assumption) | (with_reducible refine lkDrew ?_) | (with_reducible refine lkAlloc ?_)))) ho9 HD.out.2.1 HD.out.2.2 (by (repeat (first | exact hworld.out.2.2 | refine below_drew ?_ | refine below_step ?_ (below_alloc _ _))))
              have HE := Lib.hid hd
              clear hd e1 ho9 HD
              go_wp2
              go_ret
              exact lkRet_ok HT.out.symm HE
end Go.Proofs.Ytpmjgiabedjlgaa

namespace Go.Proofs.Ytpmjgiabedjlgaa
open Go.RowKit
set_option linter.unusedVariables false

def LS.pause (s : LS) (local_ : Int) : LS × Int := if s.state ≠ 2 then (s, 12) else s.report local_ 5 0 0 0 3
def LS.resume (s : LS) (local_ : Int) : LS × Int := if s.state ≠ 3 then (s, 12) else s.report local_ 6 0 0 0 2
def LS.close (s : LS) (place local_ : Int) : LS × Int := if s.state ≠ 2 then (s, 12) else if place < 0 ∨ 64 ≤ place then (s, 1) else s.report local_ 2 place 0 0 1
/-- A report as the walk spells it. -/
theorem report_s {g : Nat} {v : Value} {s : LS} {local_ kind place rider ride st : Int} {w : World} {T : LS × Int} (h : Hid (LockAt w g v s)) (hn : s.reps.length ≤ 512) (hT : Hid (s.report local_ kind place rider ride st = T)) :
    Calls Try.prog 50 #[.pointer (some ⟨g, 0, none⟩), .agg #[.int .i64 0, .int .i64 local_, .int .i64 kind, .int .i64 place, .int .i64 rider, .int .i64 ride], .int .i64 st] w (LkRet g v w T) := by
  have := report_any (g := g) (v := v) (s := s) 0 local_ kind place rider ride st w h hn
  rw [hT.out] at this
  exact this

set_option maxRecDepth 100000 in
set_option maxHeartbeats 2000000 in
theorem pause_any {g : Nat} {v : Value} {s : LS} (local_ : Int) (w : World) (h : Hid (LockAt w g v s)) (hn : s.reps.length ≤ 512) :
    Calls Try.prog 28 #[.pointer (some ⟨g, 0, none⟩), .int .i64 local_] w (LkRet g v w (s.pause local_)) := by
  obtain ⟨T, hT⟩ : ∃ T, s.pause local_ = T := ⟨_, rfl⟩
  rw [hT]
  unfold LS.pause at hT
  by_cases h1 : s.state = 2
  · rw [if_neg (fun h => h h1)] at hT
    have HT := Lib.hid hT
    clear hT
    have hcan := fun w' hw => can_yes (g := g) (v := v) (s := s) 2 w' hw h1
    have HCAN := Lib.hid hcan
    clear hcan h1
    go_enter Try.func28, Try.ntmps28
    go_wp2_with fail
    refine (HCAN.out _ h).mono ?_
    rintro e w1 ⟨rfl, rfl⟩
    go_wp2_with fail
    refine (report_s h hn HT).mono ?_
    rintro e w2 ⟨rfl, hr⟩
    have HR := Lib.hid hr
    clear hr
    go_wp2
    go_ret
    exact ⟨rfl, HR.out⟩
  · rw [if_pos h1] at hT
    have HT := Lib.hid hT
    clear hT
    have hcan := fun w' hw => can_no (g := g) (v := v) (s := s) 2 w' hw h1
    have HCAN := Lib.hid hcan
    clear hcan h1
    go_enter Try.func28, Try.ntmps28
    go_wp2_with fail
    refine (HCAN.out _ h).mono ?_
    rintro e w1 ⟨rfl, rfl⟩
    go_wp2
    go_ret
    exact lkRet_err HT.out.symm h (Below.refl _ _)

set_option maxRecDepth 100000 in
set_option maxHeartbeats 2000000 in
theorem resume_any {g : Nat} {v : Value} {s : LS} (local_ : Int) (w : World) (h : Hid (LockAt w g v s)) (hn : s.reps.length ≤ 512) :
    Calls Try.prog 29 #[.pointer (some ⟨g, 0, none⟩), .int .i64 local_] w (LkRet g v w (s.resume local_)) := by
  obtain ⟨T, hT⟩ : ∃ T, s.resume local_ = T := ⟨_, rfl⟩
  rw [hT]
  unfold LS.resume at hT
  by_cases h1 : s.state = 3
  · rw [if_neg (fun h => h h1)] at hT
    have HT := Lib.hid hT
    clear hT
    have hcan := fun w' hw => can_yes (g := g) (v := v) (s := s) 3 w' hw h1
    have HCAN := Lib.hid hcan
    clear hcan h1
    go_enter Try.func29, Try.ntmps29
    go_wp2_with fail
    refine (HCAN.out _ h).mono ?_
    rintro e w1 ⟨rfl, rfl⟩
    go_wp2_with fail
    refine (report_s h hn HT).mono ?_
    rintro e w2 ⟨rfl, hr⟩
    have HR := Lib.hid hr
    clear hr
    go_wp2
    go_ret
    exact ⟨rfl, HR.out⟩
  · rw [if_pos h1] at hT
    have HT := Lib.hid hT
    clear hT
    have hcan := fun w' hw => can_no (g := g) (v := v) (s := s) 3 w' hw h1
    have HCAN := Lib.hid hcan
    clear hcan h1
    go_enter Try.func29, Try.ntmps29
    go_wp2_with fail
    refine (HCAN.out _ h).mono ?_
    rintro e w1 ⟨rfl, rfl⟩
    go_wp2
    go_ret
    exact lkRet_err HT.out.symm h (Below.refl _ _)

set_option maxRecDepth 100000 in
set_option maxHeartbeats 2000000 in
theorem close_any {g : Nat} {v : Value} {s : LS} (place local_ : Int) (w : World) (h : Hid (LockAt w g v s)) (hn : s.reps.length ≤ 512) :
    Calls Try.prog 30 #[.pointer (some ⟨g, 0, none⟩), .int .i64 place, .int .i64 local_] w (LkRet g v w (s.close place local_)) := by
  obtain ⟨T, hT⟩ : ∃ T, s.close place local_ = T := ⟨_, rfl⟩
  rw [hT]
  unfold LS.close at hT
  by_cases h1 : s.state = 2
  · rw [if_neg (fun h => h h1)] at hT
    have hcan := fun w' hw => can_yes (g := g) (v := v) (s := s) 2 w' hw h1
    have HCAN := Lib.hid hcan
    clear hcan h1
    by_cases q1 : place < 0
    · rw [if_pos (.inl q1)] at hT
      have HT := Lib.hid hT
      clear hT
      go_enter Try.func30, Try.ntmps30
      go_wp2_with fail
      refine (HCAN.out _ h).mono ?_
      rintro e w1 ⟨rfl, rfl⟩
      go_wp2
      go_ret
      exact lkRet_err HT.out.symm h (Below.refl _ _)
    · by_cases q2 : 64 ≤ place
      · rw [if_pos (.inr q2)] at hT
        have HT := Lib.hid hT
        clear hT
        go_enter Try.func30, Try.ntmps30
        go_wp2_with fail
        refine (HCAN.out _ h).mono ?_
        rintro e w1 ⟨rfl, rfl⟩
        go_wp2
        go_ret
        exact lkRet_err HT.out.symm h (Below.refl _ _)
      · rw [if_neg (fun h => h.elim q1 q2)] at hT
        have HT := Lib.hid hT
        clear hT
        go_enter Try.func30, Try.ntmps30
        go_wp2_with fail
        refine (HCAN.out _ h).mono ?_
        rintro e w1 ⟨rfl, rfl⟩
        go_wp2_with fail
        refine (report_s h hn HT).mono ?_
        rintro e w2 ⟨rfl, hr⟩
        have HR := Lib.hid hr
        clear hr
        go_wp2
        go_ret
        exact ⟨rfl, HR.out⟩
  · rw [if_pos h1] at hT
    have HT := Lib.hid hT
    clear hT
    have hcan := fun w' hw => can_no (g := g) (v := v) (s := s) 2 w' hw h1
    have HCAN := Lib.hid hcan
    clear hcan h1
    go_enter Try.func30, Try.ntmps30
    go_wp2_with fail
    refine (HCAN.out _ h).mono ?_
    rintro e w1 ⟨rfl, rfl⟩
    go_wp2
    go_ret
    exact lkRet_err HT.out.symm h (Below.refl _ _)
end Go.Proofs.Ytpmjgiabedjlgaa
