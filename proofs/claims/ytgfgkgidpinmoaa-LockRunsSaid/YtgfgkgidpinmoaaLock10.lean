/-
  LOCKS, THE WALKS: the reference's report.
-/
import Derived.Test.YtgfgkgidpinmoaaProg
import Derived.Test.YtgfgkgidpinmoaaBase3
import Derived.Test.YtgfgkgidpinmoaaBase5
import Derived.Test.YtgfgkgidpinmoaaBase6
import Derived.Test.YtgfgkgidpinmoaaBase7
import Derived.Test.YtgfgkgidpinmoaaBase14
import Derived.Test.YtgfgkgidpinmoaaTok2
import Derived.Test.YtgfgkgidpinmoaaLockP
import Derived.Test.YtgfgkgidpinmoaaLock1
import Derived.Test.YtgfgkgidpinmoaaLock2
import Derived.Test.YtgfgkgidpinmoaaLock5
import Derived.Test.YtgfgkgidpinmoaaLockQ
import Derived.Test.YtgfgkgidpinmoaaHeld
import Derived.BigQuiet
import Derived.Laws.StructEq
import Derived.StillTailTactics
import Derived.RegionTactic
import Derived.BigRegion
import Derived.Deep.DeepCutAuto
import Derived.Deep.QuietTactic
import Derived.WalkSpells
import Derived.WalkLawsBesides
namespace Go.Proofs.Ytgfgkgidpinmoaa
open Go.RowKit
set_option linter.unusedVariables false

structure RefW (w : World) (A B C : Array Value) (W : World) : Prop where
  a : BlkAt W w.heap.size A
  b : BlkAt W (w.heap.size + 1) B
  c : BlkAt W (w.heap.size + 1 + 1) C
  lo : Below w.heap.size w W
  sz : w.heap.size + 3 ≤ W.heap.size
theorem blk_belowB {W W' : World} {k B : Nat} {C : Array Value} (h : BlkAt W k C) (hk : k < B) (hb : Below B W W') : BlkAt W' k C := h.elim fun E h => ⟨E, by rw [hb.block k hk]; exact h⟩
theorem below_loB {w W W' : World} {B : Nat} (h : Below w.heap.size w W) (hB : w.heap.size ≤ B) (hb : Below B W W') : Below w.heap.size w W' := h.trans ⟨hb.os, hb.tape, hb.output, hb.size, fun k hk => hb.block k (by omega)⟩
theorem RefW.step {w W W' : World} {A B C : Array Value} (h : RefW w A B C W) (hb : Below (w.heap.size + 3) W W') : RefW w A B C W' :=
  ⟨blk_belowB h.a (by omega) hb, blk_belowB h.b (by omega) hb, blk_belowB h.c (by omega) hb, below_loB h.lo (by omega) hb, Nat.le_trans h.sz hb.size⟩
theorem RefW.alloc {w W : World} {A B C : Array Value} {o : Obj} (h : RefW w A B C W) : RefW w A B C (W.alloc o) :=
  ⟨blkOld h.a, blkOld h.b, blkOld h.c, below_step h.lo (below_alloc _ _), Nat.le_trans h.sz (below_alloc W o).size⟩
theorem RefW.mk0 (w : World) (A B C : Array Value) (E F G : TypeId) : RefW w A B C (((w.alloc (.cells A E)).alloc (.cells B F)).alloc (.cells C G)) :=
  ⟨blkOld (blkOld (blkNew rfl)), blkOld (blkNew (by simp)), blkNew (by simp), below_step (below_step (below_alloc _ _) (below_alloc _ _)) (below_alloc _ _), by simp⟩
theorem RefW.drewN {w W : World} {A B C : Array Value} (h : RefW w A B C W) (n : Nat) : RefW w A B C (W.drewN n) :=
  ⟨h.a.elim fun E e => ⟨E, e⟩, h.b.elim fun E e => ⟨E, e⟩, h.c.elim fun E e => ⟨E, e⟩, below_drewN h.lo n, h.sz⟩
theorem RefW.setB {w W : World} {A B C : Array Value} (h : RefW w A B C W) (i : Nat) (v : Value) : RefW w A (B.setIfInBounds i v) C (W.setCell ⟨w.heap.size + 1, i, none⟩ v) :=
  ⟨blkX_other h.a (by simp), blkX_set h.b, blkX_other h.c (by simp), h.lo.setCell (p := ⟨w.heap.size + 1, i, none⟩) (by simp) v, by have := h.sz; simpa [World.setCell] using this⟩
theorem belowC {w W : World} {x0 x1 x2 x3 x4 x5 : Value} (h : Below w.heap.size w W) : Below w.heap.size w ((((((W.setCell ⟨w.heap.size + 1 + 1, 0, none⟩ x0).setCell ⟨w.heap.size + 1 + 1, 1, none⟩ x1).setCell ⟨w.heap.size + 1 + 1, 2, none⟩ x2).setCell ⟨w.heap.size + 1 + 1, 3, none⟩ x3).setCell ⟨w.heap.size + 1 + 1, 4, none⟩ x4).setCell ⟨w.heap.size + 1 + 1, 5, none⟩ x5) :=
  (((((h.setCell (by simp; omega) _).setCell (by simp; omega) _).setCell (by simp; omega) _).setCell (by simp; omega) _).setCell (by simp; omega) _).setCell (by simp; omega) _
theorem rfRet_err {ra : Option Addr} {rn rc : Nat} {s : LS} {W W' : World} {r : LS × Int} {e : Int} (hr : (s, e) = r) (he : e ≠ 0) (hb : Below W.heap.size W W') : RfRet (.slice ra rn rc) s W r (.returned (.tuple #[rlkV s (.slice ra rn rc), .int .i64 e])) W' := by
  subst hr
  exact ⟨ra, rn, rc, rfl, hb, fun h => absurd h he, fun _ => ⟨rfl, rfl⟩⟩
theorem rfRet_ok {rv : Value} {ra : Option Addr} {rn rc : Nat} {s s' : LS} {W W' : World} {r : LS × Int} (hr : (s', 0) = r) (hb : Below W.heap.size W W') (ho : W'.ownsRow W.heap.size 79 6 (.slice ra rn rc) s'.reps.length (rcs s'.reps)) : RfRet rv s W r (.returned (.tuple #[rlkV s' (.slice ra rn rc), .int .i64 0])) W' := by
  subst hr
  exact ⟨ra, rn, rc, rfl, hb, fun _ => ho, fun h => absurd rfl h⟩
theorem own_fin {w w2 W' : World} {v : Value} {l : List Rep} {x : Rep} {n : Nat} (h : w2.ownsRow (w.heap.size + 3) 79 6 v (n + 1) (rcs l ++ (repA x).toList)) (hl : l.length = n) (hk : ∀ k, w.heap.size + 3 ≤ k → W'.heap[k]? = w2.heap[k]?) : W'.ownsRow w.heap.size 79 6 v (l ++ [x]).length (rcs (l ++ [x])) := by
  subst hl
  rw [rcs_append, rcs_one, List.length_append, List.length_singleton]
  refine ⟨h.1, ?_⟩
  rcases h.2 with hn | ⟨g, cap, cur, rfl, hB, hgb, rest⟩
  · exact .inl hn
  · exact .inr ⟨g, cap, cur, rfl, by omega, by rw [hk g hB]; exact hgb, rest⟩
theorem set8_heap {W : World} {a c k : Nat} {y z x0 x1 x2 x3 x4 x5 : Value} (h : k ≠ a) (h2 : k ≠ c) : ((((((((W.setCell ⟨c, 5, none⟩ y).setCell ⟨c, 3, none⟩ z).setCell ⟨a, 0, none⟩ x0).setCell ⟨a, 1, none⟩ x1).setCell ⟨a, 2, none⟩ x2).setCell ⟨a, 3, none⟩ x3).setCell ⟨a, 4, none⟩ x4).setCell ⟨a, 5, none⟩ x5).heap[k]? = W.heap[k]? := by
  rw [heap_setCell_other _ _ _ _ (by exact h), heap_setCell_other _ _ _ _ (by exact h), heap_setCell_other _ _ _ _ (by exact h), heap_setCell_other _ _ _ _ (by exact h), heap_setCell_other _ _ _ _ (by exact h), heap_setCell_other _ _ _ _ (by exact h), heap_setCell_other _ _ _ _ (by exact h2), heap_setCell_other _ _ _ _ (by exact h2)]
theorem stop_here {p : Prop} (h : Hid p) : p := h.out
theorem sl_one6 {W : World} {k : Nat} {x0 x1 x2 x3 x4 x5 : Value} (h : BlkAt W k #[x0, x1, x2, x3, x4, x5]) : Sl W 6 (some ⟨k, 0, none⟩) 1 1 [x0, x1, x2, x3, x4, x5] := by
  obtain ⟨E, h⟩ := h
  refine ⟨rfl, Nat.le_refl _, by unfold maxLen; omega, (fun h => by cases h), fun j u hj => ⟨k, 0, rfl, ?_⟩⟩
  rw [Nat.zero_add, cell_of_row _ _ _ _ _ _ h]
  simpa using hj

set_option maxRecDepth 100000 in
set_option maxHeartbeats 600000 in
theorem refReport_any {v : Value} {s : LS} (q0 local_ kind place rider ride st : Int) (w : World) (B0 : Nat) (h : Hid (w.ownsRow B0 79 6 v s.reps.length (rcs s.reps))) (hn : s.reps.length ≤ 512) :
    Calls Try.prog 94 #[rlkV s v, .int .i64 st, .agg #[.int .i64 q0, .int .i64 local_, .int .i64 kind, .int .i64 place, .int .i64 rider, .int .i64 ride]] w (RfRet v s w (s.report local_ kind place rider ride st)) := by
  obtain ⟨T, hT⟩ : ∃ T, s.report local_ kind place rider ride st = T := ⟨_, rfl⟩
  rw [hT]
  unfold LS.report at hT
  obtain ⟨ao, cap, hv, hsl⟩ := sl_of_own h.out
  subst hv
  clear h
  generalize hN : s.reps.length = N at *
  have HQ := Lib.hid (RefW.mk0 w #[.int .i64 s.bike, u64 s.ka, u64 s.kb, .int .i64 s.state, .int .i64 s.last, .slice ao N cap] #[.int .i64 q0, .int .i64 local_, .int .i64 kind, .int .i64 place, .int .i64 rider, .int .i64 ride] #[.int .i64 0, .int .u64 0, .int .u64 0, .int .i64 0, .int .i64 0, .slice none 0 0] 63 79 63)
  by_cases h1 : local_ < 0
  · rw [if_pos (.inl h1)] at hT
    have HT := Lib.hid hT
    clear hT hsl hN
    go_enter Try.func94, Try.ntmps94
    go_wp2
    refine bodyPost_ret (v := .tuple #[rlkV s (.slice ao N cap), .int .i64 1]) ?_ rfl (rfRet_err HT.out (by decide) ?_)
    · rw [results_cell_tmp rfl]
      go_simp
    · exact below_step (below_step (below_alloc _ _) (below_alloc _ _)) (below_alloc _ _)
  · by_cases h2 : 4294943999 < local_
    · rw [if_pos (.inr h2)] at hT
      have HT := Lib.hid hT
      clear hT hsl hN
      go_enter Try.func94, Try.ntmps94
      go_wp2
      refine bodyPost_ret (v := .tuple #[rlkV s (.slice ao N cap), .int .i64 1]) ?_ rfl (rfRet_err HT.out (by decide) ?_)
      · rw [results_cell_tmp rfl]
        go_simp
      · exact below_step (below_step (below_alloc _ _) (below_alloc _ _)) (below_alloc _ _)
    · rw [if_neg (fun h => h.elim h1 h2)] at hT
      obtain ⟨xl, hxl⟩ : ∃ xl, lastLocal s.reps = xl := ⟨_, rfl⟩
      rw [hxl] at hT
      rcases Nat.eq_zero_or_pos N with h3 | h3
      · subst h3
        rw [if_neg (fun h => absurd h.1 (by omega)), if_neg (by omega)] at hT
        clear hxl
        have HT := Lib.hid hT
        have HNN := Lib.hid hN
        clear hT hN
        go_enter Try.func94, Try.ntmps94
        go_wp2
        go_quiet (fail)
        go_wp2_with (at_builtin; refine stop_here ?_)
        have hworld : Hid (RefW w #[.int .i64 s.bike, u64 s.ka, u64 s.kb, .int .i64 s.state, .int .i64 s.last, .slice ao 0 cap] #[.int .i64 1, .int .i64 local_, .int .i64 kind, .int .i64 place, .int .i64 rider, .int .i64 ride] #[.int .i64 0, .int .u64 0, .int .u64 0, .int .i64 0, .int .i64 0, .slice none 0 0] (((((w.alloc (.cells #[.int .i64 s.bike, u64 s.ka, u64 s.kb, .int .i64 s.state, .int .i64 s.last, .slice ao 0 cap] 63)).alloc (.cells #[.int .i64 q0, .int .i64 local_, .int .i64 kind, .int .i64 place, .int .i64 rider, .int .i64 ride] 79)).alloc (.cells #[.int .i64 0, .int .u64 0, .int .u64 0, .int .i64 0, .int .i64 0, .slice none 0 0] 63)).drewN nq).setCell ⟨w.heap.size + 1, 0, none⟩ (.int .i64 1))) := (HQ.out.drewN nq).setB 0 (.int .i64 1)
        generalize ((((w.alloc (.cells #[.int .i64 s.bike, u64 s.ka, u64 s.kb, .int .i64 s.state, .int .i64 s.last, .slice ao 0 cap] 63)).alloc (.cells #[.int .i64 q0, .int .i64 local_, .int .i64 kind, .int .i64 place, .int .i64 rider, .int .i64 ride] 79)).alloc (.cells #[.int .i64 0, .int .u64 0, .int .u64 0, .int .i64 0, .int .i64 0, .slice none 0 0] 63)).drewN nq).setCell ⟨w.heap.size + 1, 0, none⟩ (.int .i64 1) = W at *
        have HS0 := Lib.hid (hsl.ext hworld.out.lo)
        obtain ⟨c0, c1, c2, c3, c4, c5⟩ := six_cells hworld.out.a
        clear hsl
        refine Lib.hid ?_
        at_builtin
        refine wpList_append_src W rfl _ _ 61 61 rfl (w.heap.size + 3) 79 (.agg #[.int .i64 0, .int .i64 0, .int .i64 0, .int .i64 0, .int .i64 0, .int .i64 0]) 6 48 Try.underlying61 infoR rfl (by decide) (n := 0) (xs := []) (World.ownsRow_nil _ _ _ _) rfl (src_sl _ Try.underlying61 HS0.out (rcs_one1 s.reps)) rfl (by unfold maxLen; omega) (by omega) hworld.out.sz ?_
        intro v1 w1 ho1 _ hb1
        have HW1 := Lib.hid (hworld.out.step hb1)
        rw [Nat.zero_add, List.nil_append] at ho1
        obtain ⟨a1, cap1, hv1, _⟩ := sl_of_own ho1
        subst hv1
        have HO1 := Lib.hid ho1
        obtain ⟨r0, r1, r2, r3, r4, r5⟩ := six_cells HW1.out.b
        clear ho1 hb1 c0 c1 c2 c3 c4 c5
        go_wp2_with (at_builtin; refine stop_here ?_)
        refine Lib.hid ?_
        at_builtin
        refine wpList_append_src _ rfl _ _ 61 61 rfl (w.heap.size + 3) 79 (.agg #[.int .i64 0, .int .i64 0, .int .i64 0, .int .i64 0, .int .i64 0, .int .i64 0]) 6 48 Try.underlying61 infoR rfl (by decide) (n := 0) (xs := rcs s.reps) (ownsRow_ext HO1.out (below_alloc w1 _)) rfl (src_sl _ Try.underlying61 (sl_one6 (blkNew rfl)) (repA_one (1, local_, kind, place, rider, ride))) rfl (by unfold maxLen; omega) (by omega) (HW1.out.alloc).sz ?_
        intro v2 w2 ho2 _ hb2
        have HW2 := Lib.hid (HW1.out.alloc.step hb2)
        obtain ⟨a2, cap2, hv2, _⟩ := sl_of_own ho2
        subst hv2
        have HO2 := Lib.hid ho2
        obtain ⟨c0, c1, c2, c3, c4, c5⟩ := six_cells HW2.out.a
        obtain ⟨z0, z1, z2, z3, z4, z5⟩ := six_cells HW2.out.c
        have fz5 := frozen_blk (i := 5) HW2.out.a
        have fz3 := frozen_blk (i := 3) HW2.out.a
        have e0 := blkX_frozen (i := 0) HW2.out.c
        have e1 := blkX_frozen (i := 1) HW2.out.c
        have e2 := blkX_frozen (i := 2) HW2.out.c
        have e3 := blkX_frozen (i := 3) HW2.out.c
        have e4 := blkX_frozen (i := 4) HW2.out.c
        have e5 := blkX_frozen (i := 5) HW2.out.c
        clear ho2 hb2
        have e1 : (1 : Int) = (((0 : Nat) : Int) + 1) := by omega
        have ho : w2.ownsRow (w.heap.size + 3) 79 6 (.slice a2 (0 + 1) cap2) (0 + 1) (rcs s.reps ++ (repA ((((0 : Nat) : Int) + 1), local_, kind, place, rider, ride)).toList) := by
          rw [← e1]
          exact HO2.out
        have HO := Lib.hid ho
        clear ho e1
        go_wp2
        refine bodyPost_ret (v := .tuple #[rlkV { s with state := st, reps := s.reps ++ [((((0 : Nat) : Int) + 1), local_, kind, place, rider, ride)] } (.slice a2 (0 + 1) cap2), .int .i64 0]) ?_ rfl (rfRet_ok HT.out ?_ (own_fin HO.out HNN.out ?_))
        · rw [results_cell_tmp rfl]
          go_simp
        · exact belowC ((HW2.out.lo.setCell (p := ⟨w.heap.size, 5, none⟩) (Nat.le_refl _) _).setCell (p := ⟨w.heap.size, 3, none⟩) (Nat.le_refl _) _)
        · exact fun k hk => set8_heap (by omega) (by omega)
      · obtain ⟨M, rfl⟩ : ∃ M, N = M + 1 := ⟨N - 1, by omega⟩
        obtain ⟨b, off, e0, hcell⟩ : ∃ b off, ao = some ⟨b, off, none⟩ ∧ w.cell? ⟨b, off + M * 6 + 1, none⟩ = some (.int .i64 xl) := by
          have hg := rcs_get s.reps M 1 (by omega) (by omega)
          obtain ⟨b, off, e, hc⟩ := hsl.hcell (M * 6 + 1) _ hg
          refine ⟨b, off, e, ?_⟩
          rw [Nat.add_assoc, hc, ← hxl]
          unfold lastLocal
          rw [hN]
          rfl
        subst e0
        have hcell := cell_keep HQ.out.lo hcell
        have hM1 : ((M + 1 : Nat) : Int) - 1 = (M : Int) := by omega
        have hM2 : IntKind.i64.wrap (M : Int) = (M : Int) := by rw [IntKind.wrap_i64]; omega
        have hM0 : (0 : Int) ≤ (M : Int) := by omega
        have hM3 : (M : Int) < ((M + 1 : Nat) : Int) := by omega
        have hM4 : (0 : Int) < ((M + 1 : Nat) : Int) := by omega
        by_cases h4 : local_ < xl
        · rw [if_pos ⟨by omega, h4⟩] at hT
          have HT := Lib.hid hT
          clear hT hsl hN hxl
          go_enter Try.func94, Try.ntmps94
          go_wp2
          go_quiet (fail)
          go_wp2
          refine bodyPost_ret (v := .tuple #[rlkV s (.slice (some ⟨b, off, none⟩) (M + 1) cap), .int .i64 9]) ?_ rfl (rfRet_err HT.out (by decide) ?_)
          · rw [results_cell_tmp rfl]
            go_simp
          · exact belowC (below_drewN HQ.out.lo _)
        · rw [if_neg (fun h => h4 h.2)] at hT
          by_cases h5 : 512 ≤ M + 1
          · rw [if_pos h5] at hT
            have h5' : (512 : Int) ≤ ((M + 1 : Nat) : Int) := by omega
            have HT := Lib.hid hT
            clear hT hsl hN hxl
            go_enter Try.func94, Try.ntmps94
            go_wp2
            go_quiet (fail)
            go_wp2
            refine bodyPost_ret (v := .tuple #[rlkV s (.slice (some ⟨b, off, none⟩) (M + 1) cap), .int .i64 8]) ?_ rfl (rfRet_err HT.out (by decide) ?_)
            · rw [results_cell_tmp rfl]
              go_simp
            · exact belowC (below_drewN HQ.out.lo _)
          · rw [if_neg h5] at hT
            have h5' : ¬ (512 : Int) ≤ ((M + 1 : Nat) : Int) := by omega
            have HT := Lib.hid hT
            have HNN := Lib.hid hN
            clear hT hN hxl
            go_enter Try.func94, Try.ntmps94
            go_wp2
            go_quiet (fail)
            go_wp2_with (at_builtin; refine stop_here ?_)
            have hworld : Hid (RefW w #[.int .i64 s.bike, u64 s.ka, u64 s.kb, .int .i64 s.state, .int .i64 s.last, .slice (some ⟨b, off, none⟩) (M + 1) cap] #[.int .i64 (((M : Int) + 1) + 1), .int .i64 local_, .int .i64 kind, .int .i64 place, .int .i64 rider, .int .i64 ride] #[.int .i64 0, .int .u64 0, .int .u64 0, .int .i64 0, .int .i64 0, .slice none 0 0] (((((w.alloc (.cells #[.int .i64 s.bike, u64 s.ka, u64 s.kb, .int .i64 s.state, .int .i64 s.last, .slice (some ⟨b, off, none⟩) (M + 1) cap] 63)).alloc (.cells #[.int .i64 q0, .int .i64 local_, .int .i64 kind, .int .i64 place, .int .i64 rider, .int .i64 ride] 79)).alloc (.cells #[.int .i64 0, .int .u64 0, .int .u64 0, .int .i64 0, .int .i64 0, .slice none 0 0] 63)).drewN nq).setCell ⟨w.heap.size + 1, 0, none⟩ (.int .i64 (((M : Int) + 1) + 1)))) := (HQ.out.drewN nq).setB 0 (.int .i64 (((M : Int) + 1) + 1))
            generalize ((((w.alloc (.cells #[.int .i64 s.bike, u64 s.ka, u64 s.kb, .int .i64 s.state, .int .i64 s.last, .slice (some ⟨b, off, none⟩) (M + 1) cap] 63)).alloc (.cells #[.int .i64 q0, .int .i64 local_, .int .i64 kind, .int .i64 place, .int .i64 rider, .int .i64 ride] 79)).alloc (.cells #[.int .i64 0, .int .u64 0, .int .u64 0, .int .i64 0, .int .i64 0, .slice none 0 0] 63)).drewN nq).setCell ⟨w.heap.size + 1, 0, none⟩ (.int .i64 (((M : Int) + 1) + 1)) = W at *
            have HS0 := Lib.hid (hsl.ext hworld.out.lo)
            obtain ⟨c0, c1, c2, c3, c4, c5⟩ := six_cells hworld.out.a
            clear hsl hcell
            refine Lib.hid ?_
            at_builtin
            refine wpList_append_src W rfl _ _ 61 61 rfl (w.heap.size + 3) 79 (.agg #[.int .i64 0, .int .i64 0, .int .i64 0, .int .i64 0, .int .i64 0, .int .i64 0]) 6 48 Try.underlying61 infoR rfl (by decide) (n := 0) (xs := []) (World.ownsRow_nil _ _ _ _) rfl (src_sl _ Try.underlying61 HS0.out (rcs_one1 s.reps)) rfl (by unfold maxLen; omega) (by omega) hworld.out.sz ?_
            intro v1 w1 ho1 _ hb1
            have HW1 := Lib.hid (hworld.out.step hb1)
            rw [Nat.zero_add, List.nil_append] at ho1
            obtain ⟨a1, cap1, hv1, _⟩ := sl_of_own ho1
            subst hv1
            have HO1 := Lib.hid ho1
            obtain ⟨r0, r1, r2, r3, r4, r5⟩ := six_cells HW1.out.b
            clear ho1 hb1 c0 c1 c2 c3 c4 c5
            go_wp2_with (at_builtin; refine stop_here ?_)
            refine Lib.hid ?_
            at_builtin
            refine wpList_append_src _ rfl _ _ 61 61 rfl (w.heap.size + 3) 79 (.agg #[.int .i64 0, .int .i64 0, .int .i64 0, .int .i64 0, .int .i64 0, .int .i64 0]) 6 48 Try.underlying61 infoR rfl (by decide) (n := (M + 1)) (xs := rcs s.reps) (ownsRow_ext HO1.out (below_alloc w1 _)) rfl (src_sl _ Try.underlying61 (sl_one6 (blkNew rfl)) (repA_one ((((M : Int) + 1) + 1), local_, kind, place, rider, ride))) rfl (by unfold maxLen; omega) (by omega) (HW1.out.alloc).sz ?_
            intro v2 w2 ho2 _ hb2
            have HW2 := Lib.hid (HW1.out.alloc.step hb2)
            obtain ⟨a2, cap2, hv2, _⟩ := sl_of_own ho2
            subst hv2
            have HO2 := Lib.hid ho2
            obtain ⟨c0, c1, c2, c3, c4, c5⟩ := six_cells HW2.out.a
            obtain ⟨z0, z1, z2, z3, z4, z5⟩ := six_cells HW2.out.c
            have fz5 := frozen_blk (i := 5) HW2.out.a
            have fz3 := frozen_blk (i := 3) HW2.out.a
            have e0 := blkX_frozen (i := 0) HW2.out.c
            have e1 := blkX_frozen (i := 1) HW2.out.c
            have e2 := blkX_frozen (i := 2) HW2.out.c
            have e3 := blkX_frozen (i := 3) HW2.out.c
            have e4 := blkX_frozen (i := 4) HW2.out.c
            have e5 := blkX_frozen (i := 5) HW2.out.c
            clear ho2 hb2
            have e1 : ((((M : Int) + 1) + 1) : Int) = ((((M + 1) : Nat) : Int) + 1) := by omega
            have ho : w2.ownsRow (w.heap.size + 3) 79 6 (.slice a2 ((M + 1) + 1) cap2) ((M + 1) + 1) (rcs s.reps ++ (repA (((((M + 1) : Nat) : Int) + 1), local_, kind, place, rider, ride)).toList) := by
              rw [← e1]
              exact HO2.out
            have HO := Lib.hid ho
            clear ho e1
            go_wp2
            refine bodyPost_ret (v := .tuple #[rlkV { s with state := st, reps := s.reps ++ [(((((M + 1) : Nat) : Int) + 1), local_, kind, place, rider, ride)] } (.slice a2 ((M + 1) + 1) cap2), .int .i64 0]) ?_ rfl (rfRet_ok HT.out ?_ (own_fin HO.out HNN.out ?_))
            · rw [results_cell_tmp rfl]
              go_simp
            · exact belowC ((HW2.out.lo.setCell (p := ⟨w.heap.size, 5, none⟩) (Nat.le_refl _) _).setCell (p := ⟨w.heap.size, 3, none⟩) (Nat.le_refl _) _)
            · exact fun k hk => set8_heap (by omega) (by omega)
end Go.Proofs.Ytgfgkgidpinmoaa
