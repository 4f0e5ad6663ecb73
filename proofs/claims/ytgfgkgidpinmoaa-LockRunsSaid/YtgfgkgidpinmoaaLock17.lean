/-
  LOCKS, THE LAWS: what the walk of LockRuns keeps, and its contracts.
-/
import Derived.Test.YtgfgkgidpinmoaaProg
import Derived.Test.YtgfgkgidpinmoaaBase3
import Derived.Test.YtgfgkgidpinmoaaBase5
import Derived.Test.YtgfgkgidpinmoaaBase6
import Derived.Test.YtgfgkgidpinmoaaBase7
import Derived.Test.YtgfgkgidpinmoaaBase14
import Derived.Test.YtgfgkgidpinmoaaTok1
import Derived.Test.YtgfgkgidpinmoaaTok3
import Derived.Test.YtgfgkgidpinmoaaLockP
import Derived.Test.YtgfgkgidpinmoaaLock1
import Derived.Test.YtgfgkgidpinmoaaLock2
import Derived.Test.YtgfgkgidpinmoaaLock3
import Derived.Test.YtgfgkgidpinmoaaLock4
import Derived.Test.YtgfgkgidpinmoaaLock5
import Derived.Test.YtgfgkgidpinmoaaLock6
import Derived.Test.YtgfgkgidpinmoaaLockQ
import Derived.Test.YtgfgkgidpinmoaaLock9
import Derived.Test.YtgfgkgidpinmoaaLock10
import Derived.Test.YtgfgkgidpinmoaaLock11
import Derived.Test.YtgfgkgidpinmoaaLock13
import Derived.Test.YtgfgkgidpinmoaaTok2
import Derived.Test.YtgfgkgidpinmoaaLock14
import Derived.Test.YtgfgkgidpinmoaaHeld
import Derived.BigQuiet
import Derived.Laws.StructEq
import Derived.StillTailTactics
import Derived.RegionTactic
import Derived.BigRegion
import Derived.Deep.RegionHeld3
import Derived.Deep.DeepCutAuto
import Derived.Deep.QuietTactic
import Derived.WalkSpells
import Derived.WalkLawsBesides
namespace Go.Proofs.Ytgfgkgidpinmoaa
open Go.RowKit
set_option linter.unusedVariables false

/-- What a round keeps: the lock, the argument, the reference's lock. -/
structure RunW (w : World) (g xb mb : Nat) (X : Array Value) (s : LS) (v : Value) (ra : Option Addr) (rn rc : Nat) (W : World) : Prop where
  l : LockAt W g v s
  x : BlkAt W xb X
  m : BlkAt W mb #[.int .i64 s.bike, u64 s.ka, u64 s.kb, .int .i64 s.state, .int .i64 s.last, .slice ra rn rc]
  o : W.ownsRow 0 79 6 (.slice ra rn rc) s.reps.length (rcs s.reps)
  lo : Below w.heap.size w W
  hg : w.heap.size ≤ g
  hx : xb < g
  hm : g < mb
  hv : some mb ≠ v.ownBlock
  hr : some mb ≠ (Value.slice ra rn rc).ownBlock
  hn : s.reps.length ≤ 512
theorem blk_lt {W : World} {k : Nat} {C : Array Value} (h : BlkAt W k C) : k < W.heap.size := h.elim fun E h => (Array.getElem?_eq_some_iff.1 h).1
section
variable {w W W' : World} {g xb mb : Nat} {X : Array Value} {s : LS} {v : Value} {ra : Option Addr} {rn rc : Nat}
theorem rwBelow (hb : Below W.heap.size W W') (h : Hid (RunW w g xb mb X s v ra rn rc W)) : Hid (RunW w g xb mb X s v ra rn rc W') :=
  ⟨h.out.l.below hb, blkBelow hb h.out.x, blkBelow hb h.out.m, ownsRow_ext h.out.o hb, below_step h.out.lo hb, h.out.hg, h.out.hx, h.out.hm, h.out.hv, h.out.hr, h.out.hn⟩
theorem rwDrew (h : Hid (RunW w g xb mb X s v ra rn rc W)) : Hid (RunW w g xb mb X s v ra rn rc W.drew) :=
  ⟨(lkDrew h.out.l).out, blkDrew h.out.x, blkDrew h.out.m, ⟨h.out.o.1, h.out.o.2⟩, below_drew h.out.lo, h.out.hg, h.out.hx, h.out.hm, h.out.hv, h.out.hr, h.out.hn⟩
theorem rwAlloc {o : Obj} (h : Hid (RunW w g xb mb X s v ra rn rc W)) : Hid (RunW w g xb mb X s v ra rn rc (W.alloc o)) := rwBelow (below_alloc _ _) h
/-- What the reference's call leaves: its lock's new value, and where the new list lies. -/
structure NewW (g mb : Nat) (v : Value) (ra0 : Option Addr) (rn0 rc0 : Nat) (s : LS) (r : LS × Int) (ra : Option Addr) (rn rc : Nat) (W : World) : Prop where
  o : W.ownsRow 0 79 6 (.slice ra rn rc) r.1.reps.length (rcs r.1.reps)
  hk : some mb ≠ (Value.slice ra rn rc).ownBlock
  ok : r.2 = 0 → ∀ k, (Value.slice ra rn rc).ownBlock = some k → k ≠ g ∧ some k ≠ v.ownBlock
  err : r.2 ≠ 0 → r.1 = s ∧ ra = ra0 ∧ rn = rn0 ∧ rc = rc0
theorem nwBelow {ra0 : Option Addr} {rn0 rc0 : Nat} {r : LS × Int} (hb : Below W.heap.size W W') (h : Hid (NewW g mb v ra0 rn0 rc0 s r ra rn rc W)) : Hid (NewW g mb v ra0 rn0 rc0 s r ra rn rc W') := ⟨ownsRow_ext h.out.o hb, h.out.hk, h.out.ok, h.out.err⟩
theorem nwDrew {ra0 : Option Addr} {rn0 rc0 : Nat} {r : LS × Int} (h : Hid (NewW g mb v ra0 rn0 rc0 s r ra rn rc W)) : Hid (NewW g mb v ra0 rn0 rc0 s r ra rn rc W.drew) := ⟨⟨h.out.o.1, h.out.o.2⟩, h.out.hk, h.out.ok, h.out.err⟩
/-- Where the new list lies; the call writes nothing else. -/
structure MemW (ra : Option Addr) (rn rc : Nat) (ra' : Option Addr) (rn' rc' : Nat) (W W' : World) : Prop where
  b : Below W.heap.size W W'
  k : ∀ k, (Value.slice ra' rn' rc').ownBlock = some k → W.heap.size ≤ k ∨ (Value.slice ra rn rc).ownBlock = some k
theorem own_set6 {e : TypeId} {B size n nb : Nat} {u : Value} {xs : List Value} {x0 x1 x2 x3 x4 x5 : Value} (h : W.ownsRow B e size u n xs) (hk : some nb ≠ u.ownBlock) : ((((((W.setCell ⟨nb, 0, none⟩ x0).setCell ⟨nb, 1, none⟩ x1).setCell ⟨nb, 2, none⟩ x2).setCell ⟨nb, 3, none⟩ x3).setCell ⟨nb, 4, none⟩ x4).setCell ⟨nb, 5, none⟩ x5).ownsRow B e size u n xs := by
  refine ⟨h.1, ?_⟩
  rcases h.2 with hn | ⟨k, cap, cur, hv, hB, hkk, rest⟩
  · exact .inl hn
  · exact .inr ⟨k, cap, cur, hv, hB, by rw [set6_heap (fun e => hk (by rw [hv, ← e]; rfl))]; exact hkk, rest⟩
theorem blk_set6 {k nb : Nat} {C : Array Value} {x0 x1 x2 x3 x4 x5 : Value} (h : BlkAt W k C) (hk : k ≠ nb) : BlkAt ((((((W.setCell ⟨nb, 0, none⟩ x0).setCell ⟨nb, 1, none⟩ x1).setCell ⟨nb, 2, none⟩ x2).setCell ⟨nb, 3, none⟩ x3).setCell ⟨nb, 4, none⟩ x4).setCell ⟨nb, 5, none⟩ x5) k C := h.elim fun E hE => ⟨E, by rw [set6_heap hk]; exact hE⟩
theorem rw_set6 {nb : Nat} {x0 x1 x2 x3 x4 x5 : Value} (h : Hid (RunW w g xb mb X s v ra rn rc W)) (h1 : mb < nb) (h2 : some nb ≠ v.ownBlock) (h3 : some nb ≠ (Value.slice ra rn rc).ownBlock) : Hid (RunW w g xb mb X s v ra rn rc ((((((W.setCell ⟨nb, 0, none⟩ x0).setCell ⟨nb, 1, none⟩ x1).setCell ⟨nb, 2, none⟩ x2).setCell ⟨nb, 3, none⟩ x3).setCell ⟨nb, 4, none⟩ x4).setCell ⟨nb, 5, none⟩ x5)) := by
  have hg := h.out.hg
  have hx := h.out.hx
  have hm := h.out.hm
  exact ⟨⟨blk_set6 h.out.l.1 (by omega), own_set6 h.out.l.2 h2⟩, blk_set6 h.out.x (by omega), blk_set6 h.out.m (by omega), own_set6 h.out.o h3, (((((h.out.lo.setCell (by show w.heap.size ≤ nb; omega) _).setCell (by show w.heap.size ≤ nb; omega) _).setCell (by show w.heap.size ≤ nb; omega) _).setCell (by show w.heap.size ≤ nb; omega) _).setCell (by show w.heap.size ≤ nb; omega) _).setCell (by show w.heap.size ≤ nb; omega) _, hg, hx, hm, h.out.hv, h.out.hr, h.out.hn⟩
theorem nw_set6 {ra0 : Option Addr} {rn0 rc0 nb : Nat} {r : LS × Int} {x0 x1 x2 x3 x4 x5 : Value} (h : Hid (NewW g mb v ra0 rn0 rc0 s r ra rn rc W)) (h3 : some nb ≠ (Value.slice ra rn rc).ownBlock) : Hid (NewW g mb v ra0 rn0 rc0 s r ra rn rc ((((((W.setCell ⟨nb, 0, none⟩ x0).setCell ⟨nb, 1, none⟩ x1).setCell ⟨nb, 2, none⟩ x2).setCell ⟨nb, 3, none⟩ x3).setCell ⟨nb, 4, none⟩ x4).setCell ⟨nb, 5, none⟩ x5)) := ⟨own_set6 h.out.o h3, h.out.hk, h.out.ok, h.out.err⟩
theorem own_lt {e : TypeId} {B n : Nat} {u : Value} {xs : List Value} {k : Nat} (h : W.ownsRow B e 6 u n xs) (hk : u.ownBlock = some k) : k < W.heap.size := by
  rcases h.2 with ⟨hv, _⟩ | ⟨j, cap, cur, hv, hB, hj, _⟩
  · rw [hv] at hk; cases hk
  · rw [hv] at hk
    simp [Value.ownBlock] at hk
    subst hk
    exact (Array.getElem?_eq_some_iff.1 hj).1
/-- The block made ahead of the call is none of the others. -/
theorem nb_before {ra' : Option Addr} {rn' rc' : Nat} {W1 W2 : World} (h : Hid (RunW w g xb mb X s v ra rn rc W)) (hm : Hid (MemW ra rn rc ra' rn' rc' W1 W2)) (hs : W.heap.size < W1.heap.size) : mb < W.heap.size ∧ some W.heap.size ≠ v.ownBlock ∧ some W.heap.size ≠ (Value.slice ra rn rc).ownBlock ∧ some W.heap.size ≠ (Value.slice ra' rn' rc').ownBlock := by
  refine ⟨blk_lt h.out.m, fun e => ?_, fun e => ?_, fun e => ?_⟩
  · have := h.out.l.lt.2 _ e.symm; omega
  · have := own_lt h.out.o e.symm; omega
  · rcases hm.out.k _ e.symm with q | q
    · omega
    · have := own_lt h.out.o q; omega
theorem plain_rw {o : OpL} (h : Hid (RunW w g xb mb X s v ra rn rc W)) : Calls Try.prog 47 #[rlkV s (.slice ra rn rc), .agg (opA o)] W (fun e W' => ∃ ra' rn' rc', e = .returned (.tuple #[rlkV (s.turn o).1 (.slice ra' rn' rc'), .int .i64 (s.turn o).2]) ∧ Hid (RunW w g xb mb X s v ra rn rc W') ∧ Hid (NewW g mb v ra rn rc s (s.turn o) ra' rn' rc' W') ∧ Hid (MemW ra rn rc ra' rn' rc' W W')) := by
  refine (plain_any o W 0 h.out.o h.out.hn).mono ?_
  rintro e W' ⟨ra', rn', rc', rfl, hb, hok, herr⟩
  have hgl := h.out.l.lt
  have hml := blk_lt h.out.m
  by_cases he : (s.turn o).2 = 0
  · have ho := hok he
    have hlow : ∀ k, (Value.slice ra' rn' rc').ownBlock = some k → W.heap.size ≤ k := by
      intro k hk
      rcases ho.2 with ⟨hv, _⟩ | ⟨j, cap, cur, hv, hB, _⟩
      · rw [hv] at hk; cases hk
      · rw [hv] at hk; simp [Value.ownBlock] at hk; omega
    refine ⟨ra', rn', rc', rfl, rwBelow hb h, ?_, hb, fun k hk => .inl (hlow k hk)⟩
    exact ⟨ownsRow_mono ho (Nat.zero_le _), fun e => by have := hlow _ e.symm; omega, fun _ k hk => ⟨by have := hlow k hk; omega, fun e => by have := hgl.2 k e.symm; have := hlow k hk; omega⟩, fun h => absurd he h⟩
  · obtain ⟨h1, h2⟩ := herr he
    cases h2
    refine ⟨_, _, _, rfl, rwBelow hb h, ?_, hb, fun k hk => .inr hk⟩
    exact ⟨by rw [h1]; exact ownsRow_ext h.out.o hb, h.out.hr, fun h => absurd h he, fun _ => ⟨h1, rfl, rfl, rfl⟩⟩
theorem state_rw (h : Hid (RunW w g xb mb X s v ra rn rc W)) : Calls Try.prog 45 #[.pointer (some ⟨g, 0, none⟩)] W (fun e W' => e = .returned (.int .i64 s.state) ∧ W' = W) := state_any W h.out.l
theorem last_rw (h : Hid (RunW w g xb mb X s v ra rn rc W)) : Calls Try.prog 43 #[.pointer (some ⟨g, 0, none⟩)] W (fun e W' => e = .returned (.int .i64 s.last) ∧ W' = W) := last_any W h.out.l
theorem reports_rw (h : Hid (RunW w g xb mb X s v ra rn rc W)) : Calls Try.prog 44 #[.pointer (some ⟨g, 0, none⟩)] W (fun e W' => ∃ a n c, e = .returned (.slice a n c) ∧ Hid (Sl W' 6 a n c (rcs s.reps) ∧ s.reps.length = n) ∧ Hid (RunW w g xb mb X s v ra rn rc W')) := by
  refine (reports_any W h.out.l h.out.hn).mono ?_
  rintro e W' ⟨v', rfl, ho, hb⟩
  obtain ⟨a, c, rfl, hs⟩ := sl_of_own ho.out
  exact ⟨a, _, c, rfl, ⟨hs, rfl⟩, rwBelow hb h⟩
theorem same_rw {a : Option Addr} {n c : Nat} (h : Hid (RunW w g xb mb X s v ra rn rc W)) (hs : Hid (Sl W 6 a n c (rcs s.reps) ∧ s.reps.length = n)) : Calls Try.prog 49 #[.slice a n c, .slice ra rn rc] W (fun e W' => e = .returned (.bool true) ∧ Hid (RunW w g xb mb X s v ra rn rc W')) := by
  obtain ⟨a2, c2, e2, hs2⟩ := sl_of_own h.out.o
  cases e2
  have hn := h.out.hn
  refine (same16_any s.reps s.reps a _ n c _ _ W hs.out.1 hs2 hs.out.2 rfl (by have := hs.out.2; omega)).mono ?_
  rintro e W' ⟨rfl, hb⟩
  exact ⟨by rw [decide_eq_true rfl], rwBelow hb h⟩
theorem slpDrew {a : Option Addr} {n c : Nat} {xs : List Value} {p : Prop} (h : Hid (Sl W 6 a n c xs ∧ p)) : Hid (Sl W.drew 6 a n c xs ∧ p) := ⟨h.out.1.ext (below_drew (Below.refl _ _)), h.out.2⟩
end
/-- Behind the two calls and the store: the next round's world. -/
theorem rw_next {w W W' : World} {g xb mb : Nat} {X : Array Value} {s : LS} {v v' : Value} {ra ra' : Option Addr} {rn rc rn' rc' : Nat} {r : LS × Int} (h : Hid (RunW w g xb mb X s v ra rn rc W)) (hw : Hid (NewW g mb v ra rn rc s r ra' rn' rc' W))
    (h1 : LockAt W' g v' r.1) (h2 : Fr g v W W') (h3 : Fresh W v v') (h4 : r.2 ≠ 0 → v' = v ∧ Below W.heap.size W W') (hlen : r.1.reps.length ≤ 512) :
    Hid (RunW w g xb mb X r.1 v' ra' rn' rc' ((((((W'.setCell ⟨mb, 0, none⟩ (.int .i64 r.1.bike)).setCell ⟨mb, 1, none⟩ (u64 r.1.ka)).setCell ⟨mb, 2, none⟩ (u64 r.1.kb)).setCell ⟨mb, 3, none⟩ (.int .i64 r.1.state)).setCell ⟨mb, 4, none⟩ (.int .i64 r.1.last)).setCell ⟨mb, 5, none⟩ (.slice ra' rn' rc'))) := by
  have hx := h.out.hx
  have hm := h.out.hm
  have hg := h.out.hg
  have hml := blk_lt h.out.m
  have hxv : some xb ≠ v.ownBlock := fun e => by have := own_low6 h.out.l.2 e.symm; omega
  have hv' : some mb ≠ v'.ownBlock := fun e => by
    rcases h3 mb e.symm with q | q
    · exact h.out.hv q.symm
    · omega
  have bx := h2.blk h.out.x (by omega) hxv
  have bm := h2.blk h.out.m (by omega) h.out.hv
  have bo : W'.ownsRow 0 79 6 (.slice ra' rn' rc') r.1.reps.length (rcs r.1.reps) := by
    by_cases he : r.2 = 0
    · refine ⟨hw.out.o.1, ?_⟩
      rcases hw.out.o.2 with hn | ⟨k, cap, cur, hv, hB, hk, rest⟩
      · exact .inl hn
      · have hq := hw.out.ok he k (by rw [hv]; rfl)
        exact .inr ⟨k, cap, cur, hv, hB, by rw [h2.block k (Array.getElem?_eq_some_iff.1 hk).1 hq.1 hq.2]; exact hk, rest⟩
    · exact ownsRow_ext hw.out.o (h4 he).2
  have hlo : Below w.heap.size w W' := Fr.below h.out.lo h2 hg (fun k hk => by have := own_low6 h.out.l.2 hk; omega) (by omega)
  have hset : ∀ k, k ≠ mb → ((((((W'.setCell ⟨mb, 0, none⟩ (.int .i64 r.1.bike)).setCell ⟨mb, 1, none⟩ (u64 r.1.ka)).setCell ⟨mb, 2, none⟩ (u64 r.1.kb)).setCell ⟨mb, 3, none⟩ (.int .i64 r.1.state)).setCell ⟨mb, 4, none⟩ (.int .i64 r.1.last)).setCell ⟨mb, 5, none⟩ (.slice ra' rn' rc')).heap[k]? = W'.heap[k]? := fun k hk => set6_heap hk
  refine ⟨⟨h1.1.elim fun E hE => ⟨E, by rw [hset g (by omega)]; exact hE⟩, h1.2.1, ?_⟩, bx.elim fun E hE => ⟨E, by rw [hset xb (by omega)]; exact hE⟩, ?_, ⟨bo.1, ?_⟩, ?_, hg, hx, hm, hv', hw.out.hk, hlen⟩
  · rcases h1.2.2 with hn | ⟨k, cap, cur, hv, hB, hk, rest⟩
    · exact .inl hn
    · exact .inr ⟨k, cap, cur, hv, hB, by rw [hset k (fun e => hv' (by rw [hv, ← e]; rfl))]; exact hk, rest⟩
  · exact blkX_set (blkX_set (blkX_set (blkX_set (blkX_set (blkX_set bm)))))
  · rcases bo.2 with hn | ⟨k, cap, cur, hv, hB, hk, rest⟩
    · exact .inl hn
    · exact .inr ⟨k, cap, cur, hv, hB, by rw [hset k (fun e => hw.out.hk (by rw [hv, ← e]; rfl))]; exact hk, rest⟩
  · exact (((((hlo.setCell (by show w.heap.size ≤ mb; omega) _).setCell (by show w.heap.size ≤ mb; omega) _).setCell (by show w.heap.size ≤ mb; omega) _).setCell (by show w.heap.size ≤ mb; omega) _).setCell (by show w.heap.size ≤ mb; omega) _).setCell (by show w.heap.size ≤ mb; omega) _
end Go.Proofs.Ytgfgkgidpinmoaa
