/-
  LOCKS, THE LAWS: LockApart: the plain law, what the walk keeps, contracts.
-/
import Derived.Test.YtgfgkgidpinmoaaProg
import Derived.Test.YtgfgkgidpinmoaaBase3
import Derived.Test.YtgfgkgidpinmoaaLockP
import Derived.Test.YtgfgkgidpinmoaaLock1
import Derived.Test.YtgfgkgidpinmoaaLock2
import Derived.Test.YtgfgkgidpinmoaaLock4
import Derived.Test.YtgfgkgidpinmoaaLock5
import Derived.Test.YtgfgkgidpinmoaaLock6
import Derived.Test.YtgfgkgidpinmoaaLockQ
import Derived.Test.YtgfgkgidpinmoaaLock9
import Derived.Test.YtgfgkgidpinmoaaLock14
import Derived.Test.YtgfgkgidpinmoaaLock19
import Derived.Laws.OwnMore
namespace Go.Proofs.Ytgfgkgidpinmoaa
open Go.RowKit
set_option linter.unusedVariables false

abbrev repZ : Rep := (0, 0, 0, 0, 0, 0)
/-- The reports are numbered. -/
def SeqOk (l : List Rep) : Prop := ∀ i, i < l.length → (l.getD i repZ).1 = (i : Int) + 1
theorem seq_snoc {l : List Rep} {x : Rep} (h : SeqOk l) (hx : x.1 = (l.length : Int) + 1) : SeqOk (l ++ [x]) := by
  intro i hi
  by_cases h1 : i < l.length
  · rw [show (l ++ [x]).getD i repZ = l.getD i repZ from by simp [List.getD, List.getElem?_append_left h1]]
    exact h i h1
  · have : i = l.length := by simp at hi; omega
    subst this
    rw [show (l ++ [x]).getD l.length repZ = x from by simp [List.getD]]
    exact hx
theorem turn_grow (s : LS) (o : OpL) : ∃ t, (s.turn o).1.reps = s.reps ++ t := by
  by_cases he : (s.turn o).2 = 0
  · obtain ⟨_, _, _, _, _, _, q, _⟩ := turn_ok he
    rw [q.eq]
    exact ⟨_, rfl⟩
  · rw [turn_err he]; exact ⟨[], by simp⟩
theorem turn_seq {s : LS} {o : OpL} (h : SeqOk s.reps) : SeqOk (s.turn o).1.reps := by
  by_cases he : (s.turn o).2 = 0
  · obtain ⟨_, _, _, _, _, _, q, _⟩ := turn_ok he
    rw [q.eq]
    exact seq_snoc h rfl
  · rw [turn_err he]; exact h
theorem sizeRep (w : World) : (sizeOf 79).run Try.prog w = .ok 6 w := by kernel_rfl
/-- 'd[:hi]' of a row of its own. -/
theorem slice6_own {W : World} {B n m : Nat} {a : Option Addr} {c : Nat} {xs : List Value} (h : W.ownsRow B 79 6 (.slice a n c) m xs) (hi : Nat) (h2 : hi ≤ n) (hnc : n ≤ c) : ∀ w', (Instr.slice 61 (.slice a n c) none (some (.int .i64 (hi : Int))) none).run Try.prog w' = .ok (.slice a hi c) w' := by
  intro w'
  have he : Try.prog.elem 61 = 79 := by simp [Program.elem, Try.underlying61]
  rw [run_slice_h w' 61 a n c (by rw [he]; exact Try.underlying61) .i64 (hi : Int) (by omega) (by omega), he, sizeRep]
  rcases h.2 with ⟨hv, _⟩ | ⟨b, cap, cur, hv, _⟩
  · simp only [Value.slice.injEq] at hv
    obtain ⟨rfl, rfl, rfl⟩ := hv
    simp [Result.andThen, sliced]
  · simp only [Value.slice.injEq] at hv
    obtain ⟨rfl, _, rfl⟩ := hv
    simp [Result.andThen, sliced, Addr.add]
/-- A list that was returned: a row of its own, none of the lock's. -/
structure RepB (w : World) (g xb : Nat) (v : Value) (a : Option Addr) (n c : Nat) (l : List Rep) (W : World) : Prop where
  o : W.ownsRow 0 79 6 (.slice a n c) l.length (rcs l)
  cnt : l.length = n
  k : ∀ k, (Value.slice a n c).ownBlock = some k → k ≠ g ∧ some k ≠ v.ownBlock ∧ k ≠ xb ∧ w.heap.size ≤ k
section
variable {w W W' : World} {g xb : Nat} {X : Array Value} {s : LS} {v v' : Value} {a : Option Addr} {n c : Nat} {l : List Rep}
theorem rbBelow (hb : Below W.heap.size W W') (h : Hid (RepB w g xb v a n c l W)) : Hid (RepB w g xb v a n c l W') := ⟨ownsRow_ext h.out.o hb, h.out.cnt, h.out.k⟩
theorem rbTurn (hf : Fr g v W W') (hr : Fresh W v v') (h : Hid (RepB w g xb v a n c l W)) : Hid (RepB w g xb v' a n c l W') := by
  have hlt := h.out.o.lt
  refine ⟨⟨h.out.o.1, ?_⟩, h.out.cnt, fun k hk => ?_⟩
  · rcases h.out.o.2 with hn | ⟨k, cap, cur, hv, hB, hk, rest⟩
    · exact .inl hn
    · have hq := h.out.k k (by rw [hv]; rfl)
      exact .inr ⟨k, cap, cur, hv, hB, by rw [hf.block k (Array.getElem?_eq_some_iff.1 hk).1 hq.1 hq.2.1]; exact hk, rest⟩
  · have hq := h.out.k k hk
    refine ⟨hq.1, fun e => ?_, hq.2.2⟩
    have hl := (hlt k hk).2
    rcases hr k e.symm with q | q
    · exact hq.2.1 q.symm
    · omega
theorem rbSl (h : Hid (RepB w g xb v a n c l W)) : Hid (RepSl W a n c l) := by
  obtain ⟨a2, c2, e2, hs⟩ := sl_of_own h.out.o
  cases e2
  exact ⟨by have := hs; rw [h.out.cnt] at this; exact this, h.out.cnt⟩
theorem reports_rb (h : Hid (LkW w g xb X s v W)) : Calls Try.prog 44 #[.pointer (some ⟨g, 0, none⟩)] W (fun e W' => ∃ a n c, e = .returned (.slice a n c) ∧ Hid (RepB w g xb v a n c s.reps W' ∧ ∀ k, (Value.slice a n c).ownBlock = some k → W.heap.size ≤ k) ∧ Hid (LkW w g xb X s v W') ∧ Hid (Below W.heap.size W W')) := by
  have hl := h.out.l.lt
  have hx : xb < W.heap.size := h.out.x.elim fun E hE => (Array.getElem?_eq_some_iff.1 hE).1
  have hlo := h.out.lo.size
  refine (reports_lw h).mono ?_
  rintro e W' ⟨a, n, c, rfl, hs, ho, hw, hb⟩
  refine ⟨a, n, c, rfl, ⟨⟨ownsRow_mono ho.out (Nat.zero_le _), hs.out.2, fun k hk => ?_⟩, fun k hk => (ho.out.lt k hk).1⟩, hw, hb⟩
  have := (ho.out.lt k hk).1
  exact ⟨by omega, fun e => by have := hl.2 k e.symm; omega, by omega, by omega⟩
/-- The list whose numbers are overwritten. -/
structure CW (w : World) (g xb : Nat) (v : Value) (a1 : Option Addr) (n1 c1 : Nat) (a : Option Addr) (n c : Nat) (W : World) : Prop where
  o : ∃ ys, W.ownsRow 0 79 6 (.slice a n c) n ys
  k : ∀ k, (Value.slice a n c).ownBlock = some k → k ≠ g ∧ some k ≠ v.ownBlock ∧ k ≠ xb ∧ w.heap.size ≤ k ∧ some k ≠ (Value.slice a1 n1 c1).ownBlock
theorem cw_of {a1 : Option Addr} {n1 c1 : Nat} {l1 : List Rep} {W0 : World} (h : Hid (RepB w g xb v a n c l W)) (h1 : Hid (RepB w g xb v a1 n1 c1 l1 W0)) (hk : ∀ k, (Value.slice a n c).ownBlock = some k → W0.heap.size ≤ k) : Hid (CW w g xb v a1 n1 c1 a n c W) := by
  refine ⟨⟨_, by rw [← h.out.cnt]; have := h.out.o; rw [h.out.cnt] at this ⊢; exact this⟩, fun k hq => ?_⟩
  obtain ⟨q1, q2, q3, q4⟩ := h.out.k k hq
  exact ⟨q1, q2, q3, q4, fun e => by have := (h1.out.o.lt k e.symm).2; have := hk k hq; omega⟩
/-- A cell of the overwritten list. -/
theorem cw_cell {a1 : Option Addr} {n1 c1 : Nat} (h : Hid (CW w g xb v a1 n1 c1 a n c W)) (i : Nat) (hi : i < n) : ∃ b u, a = some ⟨b, 0, none⟩ ∧ W.cell? ⟨b, i * 6, none⟩ = some u ∧ W.frozen? ⟨b, i * 6, none⟩ = false ∧
    ∀ y, Hid (CW w g xb v a1 n1 c1 a n c (W.setCell ⟨b, i * 6, none⟩ y)) ∧ b ≠ g ∧ some b ≠ v.ownBlock ∧ b ≠ xb ∧ w.heap.size ≤ b ∧ some b ≠ (Value.slice a1 n1 c1).ownBlock := by
  obtain ⟨ys, ho⟩ := h.out.o
  have ho' := ho
  rcases ho.2 with ⟨_, h0⟩ | ⟨b, cap, cur, hv, hB, hb, rest⟩
  · omega
  · simp only [Value.slice.injEq] at hv
    obtain ⟨rfl, _, rfl⟩ := hv
    have hlen := ho.1
    have hlt : i * 6 < ys.length := by omega
    have hc := ho'.cellAt (i * 6) (by omega)
    rw [List.getElem?_eq_getElem hlt] at hc
    have hq := h.out.k b rfl
    exact ⟨b, _, rfl, hc, ho'.frozenAt _, fun y => ⟨⟨⟨_, (ho'.stored (i * 6) y).1⟩, h.out.k⟩, hq⟩⟩
theorem lw_set {b j : Nat} {y : Value} (h : Hid (LkW w g xb X s v W)) (h1 : b ≠ g) (h2 : some b ≠ v.ownBlock) (h3 : b ≠ xb) (h4 : w.heap.size ≤ b) : Hid (LkW w g xb X s v (W.setCell ⟨b, j, none⟩ y)) := by
  refine ⟨⟨blkX_other h.out.l.1 (by exact fun e => h1 e.symm), h.out.l.2.1, ?_⟩, blkX_other h.out.x (by exact fun e => h3 e.symm), h.out.lo.setCell (p := ⟨b, j, none⟩) h4 y, h.out.hg, h.out.hx, h.out.hn⟩
  rcases h.out.l.2.2 with hn | ⟨k, cap, cur, hv, hB, hk, rest⟩
  · exact .inl hn
  · exact .inr ⟨k, cap, cur, hv, hB, by rw [heap_setCell_other _ _ _ _ (by exact fun e => h2 (by rw [hv]; exact congrArg some e.symm))]; exact hk, rest⟩
theorem rb_set {b j : Nat} {y : Value} (h : Hid (RepB w g xb v a n c l W)) (h2 : some b ≠ (Value.slice a n c).ownBlock) : Hid (RepB w g xb v a n c l (W.setCell ⟨b, j, none⟩ y)) := by
  refine ⟨⟨h.out.o.1, ?_⟩, h.out.cnt, h.out.k⟩
  rcases h.out.o.2 with hn | ⟨k, cap, cur, hv, hB, hk, rest⟩
  · exact .inl hn
  · exact .inr ⟨k, cap, cur, hv, hB, by rw [heap_setCell_other _ _ _ _ (by exact fun e => h2 (by rw [hv]; exact congrArg some e.symm))]; exact hk, rest⟩
/-- The beginning of a list. -/
theorem sl_prefix {d : Option Addr} {n2 c2 : Nat} {l1 t : List Rep} (h : Hid (RepSl W d n2 c2 (l1 ++ t))) : Hid (RepSl W d l1.length c2 l1) ∧ l1.length ≤ n2 := by
  have hn := h.out.2
  have hlen : l1.length ≤ n2 := by rw [← hn]; simp
  refine ⟨⟨⟨rcs_len l1, by have := h.out.1.hle; omega, h.out.1.hmax, h.out.1.hbare, fun j u hj => ?_⟩, rfl⟩, hlen⟩
  have hj' := (List.getElem?_eq_some_iff.1 hj).1
  exact h.out.1.hcell j u (by rw [rcs_append, List.getElem?_append_left hj']; exact hj)
end
end Go.Proofs.Ytgfgkgidpinmoaa
