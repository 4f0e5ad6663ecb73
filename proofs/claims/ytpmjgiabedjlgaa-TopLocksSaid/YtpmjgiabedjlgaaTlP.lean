/-
  LOCKS OVER A LINK, THE PLAIN LAW: what a lock reports after steps, and how many numbers its tokens have (no program). No condition.
-/
import Derived.Test.YtpmjgiabedjlgaaLock4
import Derived.Test.YtpmjgiabedjlgaaFlat
namespace Go.Proofs.Ytpmjgiabedjlgaa
open Go.RowKit
set_option linter.unusedVariables false

/-- A step: Kind, Ride, Nonce, Place, Wait. -/
structure StepL where
  k : Int
  r : Int
  n : Int
  p : Int
  w : UInt8
def stA (s : StepL) : Array Value := #[.int .i64 s.k, .int .i64 s.r, .int .i64 s.n, .int .i64 s.p, b8 s.w]
def StepL.zero : StepL := ⟨0, 0, 0, 0, 0⟩
def repZ6 : Rep := (0, 0, 0, 0, 0, 0)
def StepL.go (s : LS) (o : StepL) (loc : Int) : LS :=
  if o.k = 0 then (if Tok.bad ⟨3, 1, o.r, 0, 100000, o.n⟩ then s else (s.unlock 3 1 o.r 0 100000 o.n (tagOf s.ka s.kb 3 1 o.r 0 100000 o.n) loc (loc + 5) loc).1)
  else if o.k = 1 then (s.pause loc).1 else if o.k = 2 then (s.resume loc).1 else if o.k = 3 then (s.close o.p loc).1 else s
/-- The moment behind i steps. -/
def locT (l : List StepL) : Nat → Int
  | 0 => 0
  | i + 1 => locT l i + ((l.getD i StepL.zero).w.toNat : Int)
/-- The lock behind i steps. -/
def runT (s : LS) (l : List StepL) : Nat → LS
  | 0 => s
  | i + 1 => StepL.go (runT s l i) (l.getD i StepL.zero) (locT l (i + 1))
theorem locT_le (l : List StepL) : ∀ i, 0 ≤ locT l i ∧ locT l i ≤ 255 * (i : Int)
  | 0 => ⟨by unfold locT; omega, by unfold locT; omega⟩
  | i + 1 => by
    have h := locT_le l i
    have hw : (l.getD i StepL.zero).w.toNat < 256 := UInt8.toNat_lt _
    unfold locT
    omega
/-! ### what a step adds -/
/-- A report is added, or nothing. -/
structure RepAdd (s s' : LS) (loc kind place rider ride st : Int) : Prop where
  bike : s'.bike = s.bike
  ka : s'.ka = s.ka
  kb : s'.kb = s.kb
  state : s'.state = st
  last : s'.last = s.last
  reps : s'.reps = s.reps ++ [((s.reps.length : Int) + 1, loc, kind, place, rider, ride)]
theorem report_cases (s : LS) (loc kind place rider ride st : Int) : ((s.report loc kind place rider ride st).1 = s ∧ (s.report loc kind place rider ride st).2 ≠ 0) ∨ ((s.report loc kind place rider ride st).2 = 0 ∧ RepAdd s (s.report loc kind place rider ride st).1 loc kind place rider ride st) := by
  unfold LS.report
  split
  · exact .inl ⟨rfl, fun e => by simp at e⟩
  split
  · exact .inl ⟨rfl, fun e => by simp at e⟩
  split
  · exact .inl ⟨rfl, fun e => by simp at e⟩
  · exact .inr ⟨rfl, rfl, rfl, rfl, rfl, rfl, rfl⟩
/-- What a step does: nothing; or one report; a report of an unlocking comes with a number that is greater than the last. -/
inductive StepD (s : LS) (o : StepL) (loc : Int) (s' : LS) : Prop where
  | same (h : s' = s)
  | rep (kind place : Int) (hk : kind = 5 ∨ kind = 6 ∨ kind = 2) (hp : 0 ≤ place ∧ place ≤ 63) (st : Int) (h : RepAdd s s' loc kind place 0 0 st)
  | unl (s1 : LS) (hk : o.k = 0) (hn : 1 ≤ o.n) (hl : s.last < o.n) (hr : 1 ≤ o.r ∧ o.r ≤ 1000000) (h : RepAdd s s1 loc 3 0 1 o.r 2) (e : s' = { s1 with last := o.n })
theorem go_steps (s : LS) (o : StepL) (loc : Int) : StepD s o loc (StepL.go s o loc) := by
  unfold StepL.go
  split
  · rename_i hk
    split
    · exact .same rfl
    · rename_i hok
      unfold LS.unlock
      split
      · exact .same rfl
      split
      · exact .same rfl
      rename_i hu
      have hu' : usable s.ka s.kb 3 1 o.r 0 100000 o.n (tagOf s.ka s.kb 3 1 o.r 0 100000 o.n) s.bike loc (loc + 5) s.last = 0 := Classical.not_not.1 hu
      have hl : s.last < o.n := by
        unfold usable at hu'
        rw [gen_ok hok, decide_eq_true rfl] at hu'
        rw [if_neg (by decide)] at hu'
        by_cases hb : (3 : Int) ≠ s.bike
        · rw [if_pos hb] at hu'; cases hu'
        rw [if_neg hb] at hu'
        by_cases hl : o.n ≤ s.last
        · rw [if_pos hl] at hu'; cases hu'
        · omega
      have hb := hok
      unfold Tok.bad at hb
      dsimp only at hb
      rcases report_cases s loc 3 0 1 o.r 2 with ⟨h1, h2⟩ | ⟨h1, h2⟩
      · rw [if_pos h2]; exact .same rfl
      · rw [if_neg (fun e => e h1)]
        exact .unl _ hk (by omega) hl (by omega) h2 rfl
  split
  · unfold LS.pause
    split
    · exact .same rfl
    · rcases report_cases s loc 5 0 0 0 3 with ⟨h1, h2⟩ | ⟨h1, h2⟩
      · exact .same h1
      · exact .rep 5 0 (.inl rfl) (by decide) _ h2
  split
  · unfold LS.resume
    split
    · exact .same rfl
    · rcases report_cases s loc 6 0 0 0 2 with ⟨h1, h2⟩ | ⟨h1, h2⟩
      · exact .same h1
      · exact .rep 6 0 (.inr (.inl rfl)) (by decide) _ h2
  split
  · unfold LS.close
    split
    · exact .same rfl
    split
    · exact .same rfl
    · rename_i hp
      rcases report_cases s loc 2 o.p 0 0 1 with ⟨h1, h2⟩ | ⟨h1, h2⟩
      · exact .same h1
      · exact .rep 2 o.p (.inr (.inr rfl)) (by omega) _ h2
  · exact .same rfl
/-! ### how many numbers -/
theorem countP_lt {α : Type} (p q : α → Bool) : ∀ l : List α, (∀ x ∈ l, p x = true → q x = true) → (∃ x ∈ l, q x = true ∧ p x = false) → l.countP p + 1 ≤ l.countP q
  | [], _, h => by obtain ⟨x, hx, _⟩ := h; cases hx
  | y :: l, h, hx => by
    have hrest : l.countP p ≤ l.countP q := List.countP_mono_left (fun x hx => h x (List.mem_cons_of_mem _ hx))
    have hy := h y (by simp)
    rw [List.countP_cons, List.countP_cons]
    obtain ⟨x, hm, h1, h2⟩ := hx
    rcases List.mem_cons.1 hm with rfl | hm
    · rw [if_pos h1, if_neg (by rw [h2]; decide)]
      omega
    · have := countP_lt p q l (fun x hx => h x (List.mem_cons_of_mem _ hx)) ⟨x, hm, h1, h2⟩
      by_cases e : p y = true
      · rw [if_pos e, if_pos (hy e)]; omega
      · rw [if_neg e]; split <;> omega
def isU (l : List StepL) (i : Nat) : Bool := decide ((l.getD i StepL.zero).k = 0) && decide (1 ≤ (l.getD i StepL.zero).n)
def eqU (l : List StepL) (i j : Nat) : Bool := decide ((l.getD j StepL.zero).k = 0) && decide ((l.getD j StepL.zero).n = (l.getD i StepL.zero).n)
/-- Whether step i is the first with its number, as far as the first j steps tell. -/
def fstB (l : List StepL) (i : Nat) : Nat → Bool
  | 0 => isU l i
  | j + 1 => fstB l i j && !eqU l i j
def numsN (l : List StepL) : Nat → Nat
  | 0 => 0
  | i + 1 => numsN l i + (if fstB l i i = true then 1 else 0)
theorem numsN_le (l : List StepL) : ∀ i, numsN l i ≤ i
  | 0 => Nat.le_refl _
  | i + 1 => by have := numsN_le l i; unfold numsN; split <;> omega
theorem fstB_true {l : List StepL} {i : Nat} (h : isU l i = true) : ∀ j, (∀ t, t < j → eqU l i t = false) → fstB l i j = true
  | 0, _ => h
  | j + 1, hj => by unfold fstB; rw [fstB_true h j (fun t ht => hj t (by omega)), hj j (by omega)]; rfl
/-- The firsts whose number is at most m. -/
def fstM (l : List StepL) (m : Int) (i : Nat) : Bool := fstB l i i && decide ((l.getD i StepL.zero).n ≤ m)
theorem nums_range (l : List StepL) : ∀ i, numsN l i = (List.range i).countP (fun j => fstB l j j)
  | 0 => rfl
  | i + 1 => by
    rw [List.range_succ, List.countP_append, ← nums_range l i]
    show numsN l i + (if fstB l i i = true then 1 else 0) = numsN l i + _
    simp [List.countP_cons]
theorem least_eq (l : List StepL) (i : Nat) : ∃ j, j ≤ i ∧ (j = i ∨ eqU l i j = true) ∧ ∀ t, t < j → eqU l i t = false := by
  have key : ∀ m, (∀ t, t < m → eqU l i t = false) ∨ ∃ j, j < m ∧ eqU l i j = true ∧ ∀ t, t < j → eqU l i t = false := by
    intro m
    induction m with
    | zero => exact .inl (fun t ht => by omega)
    | succ m ih =>
      rcases ih with h | ⟨j, h1, h2, h3⟩
      · cases e : eqU l i m with
        | true => exact .inr ⟨m, by omega, e, h⟩
        | false =>
          refine .inl (fun t ht => ?_)
          rcases Nat.lt_succ_iff_lt_or_eq.1 ht with h' | rfl
          · exact h t h'
          · exact e
      · exact .inr ⟨j, by omega, h2, h3⟩
  rcases key i with h | ⟨j, h1, h2, h3⟩
  · exact ⟨i, Nat.le_refl _, .inl rfl, h⟩
  · exact ⟨j, by omega, .inr h2, h3⟩
theorem fst_new {l : List StepL} {i : Nat} (hu : isU l i = true) {m : Int} (hm : m < (l.getD i StepL.zero).n) : (List.range i).countP (fstM l m) + 1 ≤ (List.range (i + 1)).countP (fstM l (l.getD i StepL.zero).n) := by
  have h1 : (List.range i).countP (fstM l m) = (List.range (i + 1)).countP (fun j => decide (j < i) && fstM l m j) := by
    rw [List.range_succ, List.countP_append]
    have : (List.range i).countP (fun j => decide (j < i) && fstM l m j) = (List.range i).countP (fstM l m) := by
      apply List.countP_congr
      intro x hx
      have := List.mem_range.1 hx
      simp [this]
    rw [this]
    simp
  rw [h1]
  apply countP_lt
  · intro x hx h
    have h2 := (Bool.and_eq_true_iff.1 h).2
    unfold fstM at h2 ⊢
    obtain ⟨a, b⟩ := Bool.and_eq_true_iff.1 h2
    have := of_decide_eq_true b
    rw [a, decide_eq_true (by omega)]
    rfl
  · obtain ⟨j, hj, hc, hl⟩ := least_eq l i
    have hn : (l.getD j StepL.zero).n = (l.getD i StepL.zero).n ∧ (l.getD j StepL.zero).k = 0 := by
      have hui := Bool.and_eq_true_iff.1 hu
      rcases hc with rfl | hc
      · exact ⟨rfl, of_decide_eq_true hui.1⟩
      · have := Bool.and_eq_true_iff.1 hc
        exact ⟨of_decide_eq_true this.2, of_decide_eq_true this.1⟩
    have h1n : 1 ≤ (l.getD i StepL.zero).n := of_decide_eq_true (Bool.and_eq_true_iff.1 hu).2
    have hb : fstB l j j = true := by
      refine fstB_true ?_ j (fun t ht => ?_)
      · unfold isU
        rw [hn.1, hn.2, decide_eq_true (by rfl), decide_eq_true h1n]
        rfl
      · have := hl t ht
        unfold eqU at this ⊢
        rw [hn.1]
        exact this
    refine ⟨j, List.mem_range.2 (by omega), ?_, ?_⟩
    · unfold fstM
      rw [hb, hn.1, decide_eq_true (Int.le_refl _)]
      rfl
    · unfold fstM
      rw [hn.1, decide_eq_false (show ¬ (l.getD i StepL.zero).n ≤ m by omega)]
      simp
theorem fst_more (l : List StepL) (m : Int) (i : Nat) : (List.range i).countP (fstM l m) ≤ (List.range (i + 1)).countP (fstM l m) := by
  rw [List.range_succ, List.countP_append]
  omega
theorem fst_all (l : List StepL) (m : Int) (i : Nat) : (List.range i).countP (fstM l m) ≤ numsN l i := by
  rw [nums_range]
  exact List.countP_mono_left (fun x _ h => (Bool.and_eq_true_iff.1 h).1)
/-! ### what holds behind i steps -/
def RepOk (loc : Int) (i : Nat) (x : Rep) : Prop := x.1 = (i : Int) + 1 ∧ (0 ≤ x.2.1 ∧ x.2.1 ≤ loc) ∧ (x.2.2.1 = 2 ∨ x.2.2.1 = 3 ∨ x.2.2.1 = 5 ∨ x.2.2.1 = 6) ∧ (0 ≤ x.2.2.2.1 ∧ x.2.2.2.1 ≤ 63) ∧ (0 ≤ x.2.2.2.2.1 ∧ x.2.2.2.2.1 ≤ 1) ∧ (0 ≤ x.2.2.2.2.2 ∧ x.2.2.2.2.2 ≤ 1000000)
def is3 (x : Rep) : Bool := decide (x.2.2.1 = 3)
structure RunI (ka kb : BitVec 64) (l : List StepL) (i : Nat) (s : LS) : Prop where
  bike : s.bike = 3
  ka : s.ka = ka
  kb : s.kb = kb
  last : 0 ≤ s.last
  len : s.reps.length ≤ i
  ok : ∀ j, j < s.reps.length → RepOk (locT l i) j (s.reps.getD j repZ6)
  cnt : s.reps.countP is3 ≤ (List.range i).countP (fstM l s.last)
theorem runI_add {ka kb : BitVec 64} {l : List StepL} {i : Nat} {s s1 : LS} (h : RunI ka kb l i s) {kind place rider ride st : Int} (hr : RepAdd s s1 (locT l (i + 1)) kind place rider ride st) (hk : kind = 2 ∨ kind = 3 ∨ kind = 5 ∨ kind = 6) (hp : 0 ≤ place ∧ place ≤ 63) (h1 : 0 ≤ rider ∧ rider ≤ 1) (h2 : 0 ≤ ride ∧ ride ≤ 1000000) :
    s1.reps.length ≤ i + 1 ∧ (∀ j, j < s1.reps.length → RepOk (locT l (i + 1)) j (s1.reps.getD j repZ6)) ∧ s1.reps.countP is3 = s.reps.countP is3 + (if kind = 3 then 1 else 0) := by
  have hlen := h.len
  have hloc := locT_le l i
  have hloc1 := locT_le l (i + 1)
  have hmono : locT l i ≤ locT l (i + 1) := by have h2 := UInt8.toNat_lt (l.getD i StepL.zero).w; have h3 : locT l (i + 1) = locT l i + ((l.getD i StepL.zero).w.toNat : Int) := rfl; omega
  rw [hr.reps]
  refine ⟨by simp; omega, fun j hj => ?_, ?_⟩
  · rw [List.length_append] at hj
    by_cases e : j < s.reps.length
    · rw [List.getD_eq_getElem?_getD, List.getElem?_append_left e, ← List.getD_eq_getElem?_getD]
      obtain ⟨a, b, c, d⟩ := h.ok j e
      exact ⟨a, ⟨b.1, by omega⟩, c, d⟩
    · obtain rfl : j = s.reps.length := by simp at hj; omega
      rw [List.getD_eq_getElem?_getD, List.getElem?_append_right (Nat.le_refl _), Nat.sub_self]
      exact ⟨rfl, ⟨hloc1.1, Int.le_refl _⟩, hk, hp, h1, h2⟩
  · rw [List.countP_append]
    by_cases e : kind = 3
    · simp [is3, e]
    · simp [is3, e]
theorem runI (ka kb : BitVec 64) (l : List StepL) : ∀ i, RunI ka kb l i (runT ⟨3, ka, kb, 1, 0, []⟩ l i)
  | 0 => ⟨rfl, rfl, rfl, Int.le_refl _, Nat.le_refl _, fun j hj => absurd hj (Nat.not_lt_zero _), Nat.le_refl _⟩
  | i + 1 => by
    have h := runI ka kb l i
    have hmono : locT l i ≤ locT l (i + 1) := by have h2 := UInt8.toNat_lt (l.getD i StepL.zero).w; have h3 : locT l (i + 1) = locT l i + ((l.getD i StepL.zero).w.toNat : Int) := rfl; omega
    unfold runT
    generalize runT ⟨3, ka, kb, 1, 0, []⟩ l i = s at h
    cases go_steps s (l.getD i StepL.zero) (locT l (i + 1)) with
    | same e =>
      rw [e]
      exact ⟨h.bike, h.ka, h.kb, h.last, Nat.le_succ_of_le h.len, fun j hj => by obtain ⟨a, b, c, d⟩ := h.ok j hj; exact ⟨a, ⟨b.1, by omega⟩, c, d⟩, Nat.le_trans h.cnt (fst_more l _ i)⟩
    | rep kind place hk hp st hr =>
      obtain ⟨a, b, c⟩ := runI_add h hr (by omega) hp (by decide) (by decide)
      refine ⟨by rw [hr.bike, h.bike], by rw [hr.ka, h.ka], by rw [hr.kb, h.kb], by rw [hr.last]; exact h.last, a, b, ?_⟩
      rw [c, if_neg (by omega), hr.last]
      exact Nat.le_trans h.cnt (fst_more l _ i)
    | unl s1 hk hn hl hrr hr e =>
      obtain ⟨a, b, c⟩ := runI_add h hr (by decide) (by decide) (by decide) (by omega)
      rw [e]
      refine ⟨by show s1.bike = 3; rw [hr.bike, h.bike], by show s1.ka = ka; rw [hr.ka, h.ka], by show s1.kb = kb; rw [hr.kb, h.kb], by show 0 ≤ (l.getD i StepL.zero).n; omega, a, b, ?_⟩
      have hu : isU l i = true := by unfold isU; rw [decide_eq_true hk, decide_eq_true hn]; rfl
      have := fst_new hu hl
      have h2 := h.cnt
      show s1.reps.countP is3 ≤ (List.range (i + 1)).countP (fstM l (l.getD i StepL.zero).n)
      rw [c, if_pos rfl]
      omega
theorem run_count (ka kb : BitVec 64) (l : List StepL) (i : Nat) : (runT ⟨3, ka, kb, 1, 0, []⟩ l i).reps.countP is3 ≤ numsN l i := Nat.le_trans (runI ka kb l i).cnt (fst_all l _ i)
/-! ### the two steps of the example -/
def awSt : List StepL := [⟨0, 7, 1, 0, 5⟩, ⟨3, 0, 0, 4, 9⟩]
def awRp : List Rep := [(1, 5, 3, 0, 1, 7), (2, 14, 2, 4, 0, 0)]
theorem aw_run (ka kb : BitVec 64) : (runT ⟨3, ka, kb, 1, 0, []⟩ awSt 2).reps = awRp := by
  have hok : ¬ Tok.bad ⟨3, 1, 7, 0, 100000, 1⟩ := by unfold Tok.bad; decide
  have hu : usable ka kb 3 1 7 0 100000 1 (tagOf ka kb 3 1 7 0 100000 1) 3 5 10 0 = 0 := by
    unfold usable
    rw [gen_ok hok, decide_eq_true rfl]
    decide
  have e1 : runT ⟨3, ka, kb, 1, 0, []⟩ awSt 1 = ⟨3, ka, kb, 2, 1, [(1, 5, 3, 0, 1, 7)]⟩ := by
    show StepL.go ⟨3, ka, kb, 1, 0, []⟩ ⟨0, 7, 1, 0, 5⟩ 5 = _
    unfold StepL.go
    rw [if_pos rfl, if_neg hok]
    unfold LS.unlock
    rw [if_neg (by simp)]
    dsimp only
    rw [if_neg (fun h => h (by simpa using hu))]
    rfl
  show (StepL.go (runT ⟨3, ka, kb, 1, 0, []⟩ awSt 1) ⟨3, 0, 0, 4, 9⟩ 14).reps = _
  rw [e1]
  rfl
end Go.Proofs.Ytpmjgiabedjlgaa
