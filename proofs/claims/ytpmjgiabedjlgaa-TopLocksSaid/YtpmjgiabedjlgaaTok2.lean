/-
  TOKENS, THE WALKS: Issue.
-/
import Derived.Test.YtpmjgiabedjlgaaProg
import Derived.Test.YtpmjgiabedjlgaaBase7
import Derived.Test.YtpmjgiabedjlgaaTokP
import Derived.Test.YtpmjgiabedjlgaaTok1
import Derived.Test.YtpmjgiabedjlgaaMac4
import Derived.Test.YtpmjgiabedjlgaaMac4D
import Derived.Test.YtpmjgiabedjlgaaBase14
import Derived.BigQuiet
import Derived.Laws.StructEq
import Derived.StillTailTactics
import Derived.RegionTactic
import Derived.BigRegion
import Derived.Deep.RegionHeld3
import Derived.Deep.DeepCutAuto
import Derived.Deep.QuietTactic
import Derived.WalkSpells
import Derived.WalkLawsBesides
namespace Go.Proofs.Ytpmjgiabedjlgaa
open Go.RowKit
set_option linter.unusedVariables false


/-- The key that belongs to a bicycle; the tag of a token. -/
def dKA (ka kb : BitVec 64) (b : Int) : BitVec 64 := sipSum ka kb (putInts [b, 0])
def dKB (ka kb : BitVec 64) (b : Int) : BitVec 64 := sipSum ka kb (putInts [b, 1])
def tagOf (ka kb : BitVec 64) (b r d f t n : Int) : BitVec 64 := sipSum (dKA ka kb b) (dKB ka kb b) (putInts [b, r, d, f, t, n])
/-- Two results, the first in a cell. -/
theorem results_cell_tmp {fn : Func} {p q : Tmp} {ty : TypeId} (h : fn.results = #[.cell p ty, .tmp q]) (tmps : Array Value) (P : Program) (w : World) :
    (results fn tmps).run P w = ((asAddr (tmps.getD p undef)).run P w).andThen fun a w1 => ((loadVar ty a).run P w1).andThen fun v w2 => .ok (.tuple #[v, tmps.getD q undef]) w2 := by
  simp only [results, h]
  simp [Sem.run_bind, Result.andThen]
  done
/-- What Issue keeps: the key's cells, the token's, the result's. -/
structure IssW (w : World) (ka kb : BitVec 64) (T R : Array Value) (W : World) : Prop where
  k : BlkAt W w.heap.size #[u64 ka, u64 kb]
  t : BlkAt W (w.heap.size + 1) T
  r : BlkAt W (w.heap.size + 1 + 1) R
  b : Below w.heap.size w W
theorem IssW.mk0 (w : World) (ka kb : BitVec 64) (T R : Array Value) (E F G : TypeId) : IssW w ka kb T R (((w.alloc (.cells #[u64 ka, u64 kb] E)).alloc (.cells T F)).alloc (.cells R G)) :=
  ⟨blkOld (blkOld (blkNew rfl)), blkOld (blkNew (by simp)), blkNew (by simp), below_step (below_step (below_alloc _ _) (below_alloc _ _)) (below_alloc _ _)⟩
theorem IssW.step {w W W' : World} {ka kb : BitVec 64} {T R : Array Value} (q : IssW w ka kb T R W) (hb : Below W.heap.size W W') : IssW w ka kb T R W' := ⟨blkBelow hb q.k, blkBelow hb q.t, blkBelow hb q.r, below_step q.b hb⟩
theorem IssW.drew {w W : World} {ka kb : BitVec 64} {T R : Array Value} (q : IssW w ka kb T R W) : IssW w ka kb T R W.drew := ⟨blkDrew q.k, blkDrew q.t, blkDrew q.r, below_drew q.b⟩
theorem blkX_other {W : World} {k : Nat} {C : Array Value} {a : Addr} {v : Value} (h : BlkAt W k C) (hk : k ≠ a.block) : BlkAt (W.setCell a v) k C := h.elim fun E h => ⟨E, by rw [heap_setCell_other _ _ _ _ hk]; exact h⟩
theorem blkX_set {W : World} {k i : Nat} {C : Array Value} {v : Value} (h : BlkAt W k C) : BlkAt (W.setCell ⟨k, i, none⟩ v) k (C.setIfInBounds i v) := h.elim fun E h => ⟨E, heap_setCell_same W k i _ E v h⟩
theorem blkX_frozen {W : World} {k i : Nat} {C : Array Value} (h : BlkAt W k C) : W.frozen? ⟨k, i, none⟩ = false := h.elim fun E h => frozen_of_row _ _ _ _ _ h
theorem IssW.setT {w W : World} {ka kb : BitVec 64} {T R : Array Value} (q : IssW w ka kb T R W) (i : Nat) (v : Value) : IssW w ka kb (T.setIfInBounds i v) R (W.setCell ⟨w.heap.size + 1, i, none⟩ v) :=
  ⟨blkX_other q.k (by simp), blkX_set q.t, blkX_other q.r (by simp), q.b.setCell (p := ⟨w.heap.size + 1, i, none⟩) (by simp) v⟩
theorem key_cells2 {W : World} {k : Nat} {x y : Value} (h : BlkAt W k #[x, y]) : W.cell? ⟨k, 0, none⟩ = some x ∧ W.cell? ⟨k, 1, none⟩ = some y := ⟨(two_facts h).1, (two_facts h).2.1⟩
theorem six_slice {W : World} {k : Nat} {b r d f t n : Int} (h : BlkAt W k #[.int .i64 b, .int .i64 r, .int .i64 d, .int .i64 f, .int .i64 t, .int .i64 n]) : Sl W 1 (some ⟨k, 0, none⟩) 6 6 (cs i64v [b, r, d, f, t, n]) := by
  obtain ⟨E, h⟩ := h
  refine ⟨rfl, Nat.le_refl _, by unfold maxLen; omega, (fun h => by cases h), fun j u hj => ⟨k, 0, rfl, ?_⟩⟩
  rw [Nat.zero_add, cell_of_row _ _ _ _ _ _ h]
  simpa [cs, i64v] using hj

/-- Behind stores of the result's seven cells. -/
theorem belowR {w W : World} {x0 x1 x2 x3 x4 x5 x6 : Value} (h : Below w.heap.size w W) : Below w.heap.size w (((((((W.setCell ⟨w.heap.size + 1 + 1, 0, none⟩ x0).setCell ⟨w.heap.size + 1 + 1, 1, none⟩ x1).setCell ⟨w.heap.size + 1 + 1, 2, none⟩ x2).setCell ⟨w.heap.size + 1 + 1, 3, none⟩ x3).setCell ⟨w.heap.size + 1 + 1, 4, none⟩ x4).setCell ⟨w.heap.size + 1 + 1, 5, none⟩ x5).setCell ⟨w.heap.size + 1 + 1, 6, none⟩ x6) :=
  ((((((h.setCell (by simp; omega) _).setCell (by simp; omega) _).setCell (by simp; omega) _).setCell (by simp; omega) _).setCell (by simp; omega) _).setCell (by simp; omega) _).setCell (by simp; omega) _
theorem six_small {b r d f t n : Int} (h : ¬ Tok.bad ⟨b, r, d, f, t, n⟩) : I64s [b, r, d, f, t, n] := by
  unfold Tok.bad at h
  dsimp only at h
  intro x hx
  simp at hx
  rcases hx with rfl | rfl | rfl | rfl | rfl | rfl <;> omega
set_option maxRecDepth 100000 in
set_option maxHeartbeats 4000000 in
theorem numbers_any (b r d f t n : Int) (g : BitVec 64) (w : World) : Calls Try.prog 47 #[.agg #[.int .i64 b, .int .i64 r, .int .i64 d, .int .i64 f, .int .i64 t, .int .i64 n, u64 g]] w (fun e w' => ∃ k, e = .returned (.slice (some ⟨k, 0, none⟩) 6 6) ∧ Hid (Sl w' 1 (some ⟨k, 0, none⟩) 6 6 (cs i64v [b, r, d, f, t, n])) ∧ Below w.heap.size w w') := by
  go_enter Try.func47, Try.ntmps47
  go_wp2
  go_ret
  exact ⟨_, rfl, six_slice (blkNew (by simp)), below_step (below_alloc _ _) (below_alloc _ _)⟩

set_option maxRecDepth 100000 in
set_option maxHeartbeats 4000000 in
theorem issue_bad (ka kb : BitVec 64) (b r d f t n : Int) (g : BitVec 64) (w : World) (hbad : Hid (Tok.chk ⟨b, r, d, f, t, n⟩ = 1)) : Calls Try.prog 26 #[.agg #[u64 ka, u64 kb], .agg #[.int .i64 b, .int .i64 r, .int .i64 d, .int .i64 f, .int .i64 t, .int .i64 n, u64 g]] w (RetB (.tuple #[.agg #[.int .i64 0, .int .i64 0, .int .i64 0, .int .i64 0, .int .i64 0, .int .i64 0, .int .u64 0], .int .i64 1]) w) := by
  have HQ := Lib.hid (IssW.mk0 w ka kb #[.int .i64 b, .int .i64 r, .int .i64 d, .int .i64 f, .int .i64 t, .int .i64 n, u64 g] #[.int .i64 0, .int .i64 0, .int .i64 0, .int .i64 0, .int .i64 0, .int .i64 0, .int .u64 0] 32 69 69)
  have hck := fun w => check_any b r d f t n g w
  rw [hbad.out] at hck
  have HCK := Lib.hid hck
  clear hck
  go_enter Try.func26, Try.ntmps26
  go_wp2_with fail
  refine (HCK.out _).mono ?_
  rintro e w1 ⟨rfl, hb1⟩
  have HQ1 := Lib.hid (HQ.out.step hb1)
  clear hb1 HQ
  obtain ⟨z0, z1, z2, z3, z4, z5, z6⟩ := tok_cells (w := w) (E := 0) HQ1.out.r
  have e0 := blkX_frozen (i := 0) HQ1.out.r
  have e1 := blkX_frozen (i := 1) HQ1.out.r
  have e2 := blkX_frozen (i := 2) HQ1.out.r
  have e3 := blkX_frozen (i := 3) HQ1.out.r
  have e4 := blkX_frozen (i := 4) HQ1.out.r
  have e5 := blkX_frozen (i := 5) HQ1.out.r
  have e6 := blkX_frozen (i := 6) HQ1.out.r
  go_wp2
  refine bodyPost_ret (v := .tuple #[.agg #[.int .i64 0, .int .i64 0, .int .i64 0, .int .i64 0, .int .i64 0, .int .i64 0, .int .u64 0], .int .i64 1]) ?_ rfl ⟨rfl, ?_⟩
  · rw [results_cell_tmp rfl]
    go_simp
  · exact belowR HQ1.out.b

set_option maxRecDepth 100000 in
set_option maxHeartbeats 4000000 in
theorem issue_ok (ka kb : BitVec 64) (b r d f t n : Int) (g : BitVec 64) (w : World) (hok : ¬ Tok.bad ⟨b, r, d, f, t, n⟩) : Calls Try.prog 26 #[.agg #[u64 ka, u64 kb], .agg #[.int .i64 b, .int .i64 r, .int .i64 d, .int .i64 f, .int .i64 t, .int .i64 n, u64 g]] w (RetB (.tuple #[.agg #[.int .i64 b, .int .i64 r, .int .i64 d, .int .i64 f, .int .i64 t, .int .i64 n, u64 (tagOf ka kb b r d f t n)], .int .i64 0]) w) := by
  have HQ := Lib.hid (IssW.mk0 w ka kb #[.int .i64 b, .int .i64 r, .int .i64 d, .int .i64 f, .int .i64 t, .int .i64 n, u64 g] #[.int .i64 0, .int .i64 0, .int .i64 0, .int .i64 0, .int .i64 0, .int .i64 0, .int .u64 0] 32 69 69)
  have hck := fun w => check_any b r d f t n g w
  rw [chk_ok hok] at hck
  have HCK := Lib.hid hck
  have HOK := Lib.hid hok
  have HDER := Lib.hid (fun w => derive_any ka kb b w (by have := HOK.out; unfold Tok.bad at this; dsimp only at this; omega))
  have HTAG := Lib.hid (fun (W : World) (a : Option Addr) (hs : Hid (Sl W 1 a 6 6 (cs i64v [b, r, d, f, t, n]))) => tag_any (dKA ka kb b) (dKB ka kb b) [b, r, d, f, t, n] a 6 6 W hs.out (six_small hok) (by decide))
  have HDER' : Hid (∀ w, Calls Try.prog 46 #[.agg #[u64 ka, u64 kb], .int .i64 b] w (RetB (.agg #[u64 (dKA ka kb b), u64 (dKB ka kb b)]) w)) := HDER.out
  have HTAG' : Hid (∀ (W : World) (a : Option Addr) (hs : Hid (Sl W 1 a 6 6 (cs i64v [b, r, d, f, t, n]))), Calls Try.prog 45 #[.agg #[u64 (dKA ka kb b), u64 (dKB ka kb b)], .slice a 6 6] W (RetB (u64 (tagOf ka kb b r d f t n)) W)) := HTAG.out
  clear hck hok HDER HTAG
  generalize tagOf ka kb b r d f t n = G at *
  generalize dKA ka kb b = DA at *
  generalize dKB ka kb b = DB at *
  go_enter Try.func26, Try.ntmps26
  go_wp2_with fail
  refine (HCK.out _).mono ?_
  rintro e w1 ⟨rfl, hb1⟩
  have HQ1 := Lib.hid (HQ.out.step hb1)
  clear hb1 HQ
  obtain ⟨k0, k1⟩ := key_cells2 HQ1.out.k
  obtain ⟨c0, c1, c2, c3, c4, c5, c6⟩ := tok_cells (w := w) (E := 0) HQ1.out.t
  go_wp2_with fail
  go_cut [] (fun wx => Hid (IssW w ka kb #[.int .i64 b, .int .i64 r, .int .i64 d, .int .i64 f, .int .i64 t, .int .i64 n, u64 G] #[.int .i64 0, .int .i64 0, .int .i64 0, .int .i64 0, .int .i64 0, .int .i64 0, .int .u64 0] wx))
  case first =>
    go_region_with (first
      | (go_at_call 46; (with_reducible refine (HDER'.out _).mono ?_); rintro e w2 ⟨rfl, hb2⟩; have HQ2 := Lib.hid (HQ1.out.drew.step hb2); clear hb2; obtain ⟨c0, c1, c2, c3, c4, c5, c6⟩ := tok_cells (w := w) (E := 0) HQ2.out.t)
      | (go_at_call 47; (with_reducible refine (numbers_any b r d f t n g _).mono ?_); rintro e w3 ⟨k3, rfl, S3, hb3⟩; have HQ3 := Lib.hid (HQ2.out.step hb3); clear hb3; obtain ⟨c0, c1, c2, c3, c4, c5, c6⟩ := tok_cells (w := w) (E := 0) HQ3.out.t; have fz := blkX_frozen (i := 6) HQ3.out.t)
      | (go_at_call 45; (with_reducible refine (HTAG'.out _ _ S3).mono ?_); rintro e w4 ⟨rfl, hb4⟩; have HQ4 := Lib.hid (HQ3.out.step hb4); clear hb4; obtain ⟨c0, c1, c2, c3, c4, c5, c6⟩ := tok_cells (w := w) (E := 0) HQ4.out.t; have fz := blkX_frozen (i := 6) HQ4.out.t))
    all_goals
      go_wp2_with fail
      go_meet
      first
        | exact Lib.hid (HQ4.out.setT 6 (u64 G))
        | exact Lib.hid (HQ4.out.setT 6 (u64 G)).drew
        | exact Lib.hid (HQ4.out.drew.setT 6 (u64 G))
  case rest =>
    obtain ⟨c0, c1, c2, c3, c4, c5, c6⟩ := tok_cells (w := w) (E := 0) hcut.out.t
    obtain ⟨z0, z1, z2, z3, z4, z5, z6⟩ := tok_cells (w := w) (E := 0) hcut.out.r
    have e0 := blkX_frozen (i := 0) hcut.out.r
    have e1 := blkX_frozen (i := 1) hcut.out.r
    have e2 := blkX_frozen (i := 2) hcut.out.r
    have e3 := blkX_frozen (i := 3) hcut.out.r
    have e4 := blkX_frozen (i := 4) hcut.out.r
    have e5 := blkX_frozen (i := 5) hcut.out.r
    have e6 := blkX_frozen (i := 6) hcut.out.r
    go_wp2
    refine bodyPost_ret (v := .tuple #[.agg #[.int .i64 b, .int .i64 r, .int .i64 d, .int .i64 f, .int .i64 t, .int .i64 n, u64 G], .int .i64 0]) ?_ rfl ⟨rfl, ?_⟩
    · rw [results_cell_tmp rfl]
      go_simp
    · exact belowR hcut.out.b
end Go.Proofs.Ytpmjgiabedjlgaa
