/-
  LOCKS, THE PLAIN LAW, AND WHERE A LOCK LIES.
-/
import Derived.Test.YtpmjgiabedjlgaaTok3
import Derived.Test.YtpmjgiabedjlgaaBase14
namespace Go.Proofs.Ytpmjgiabedjlgaa
open Go.RowKit
set_option linter.unusedVariables false

/-- A report: Seq, Local, Kind, Place, Rider, Ride. -/
abbrev Rep := Int × Int × Int × Int × Int × Int
def repA (x : Rep) : Array Value := #[.int .i64 x.1, .int .i64 x.2.1, .int .i64 x.2.2.1, .int .i64 x.2.2.2.1, .int .i64 x.2.2.2.2.1, .int .i64 x.2.2.2.2.2]
def rcs (l : List Rep) : List Value := l.flatMap fun x => (repA x).toList
theorem rcs_append (l m : List Rep) : rcs (l ++ m) = rcs l ++ rcs m := by unfold rcs; simp
theorem rcs_one (x : Rep) : rcs [x] = (repA x).toList := by unfold rcs; simp
theorem rcs_len : ∀ l : List Rep, (rcs l).length = l.length * 6
  | [] => rfl
  | x :: l => by
    rw [show x :: l = [x] ++ l from rfl, rcs_append, List.length_append, rcs_one, rcs_len l]
    simp [repA]
    omega
theorem rcs_get : ∀ (l : List Rep) (i j : Nat), i < l.length → j < 6 → (rcs l)[i * 6 + j]? = (repA (l.getD i (0, 0, 0, 0, 0, 0)))[j]?
  | [], i, j, h, _ => absurd h (by simp)
  | x :: l, 0, j, _, hj => by
    rw [show x :: l = [x] ++ l from rfl, rcs_append, rcs_one, Nat.zero_mul, Nat.zero_add, List.getElem?_append_left (by simp [repA]; exact hj)]
    simp
  | x :: l, i + 1, j, h, hj => by
    rw [show x :: l = [x] ++ l from rfl, rcs_append, rcs_one, List.getElem?_append_right (by simp [repA]; omega), show (i + 1) * 6 + j - (repA x).toList.length = i * 6 + j from by simp [repA]; omega]
    rw [rcs_get l i j (by simpa using h) hj]
    simp
structure LS where
  bike : Int
  ka : BitVec 64
  kb : BitVec 64
  state : Int
  last : Int
  reps : List Rep
def lastLocal (l : List Rep) : Int := (l.getD (l.length - 1) (0, 0, 0, 0, 0, 0)).2.1
/-- One more report. -/
def LS.report (s : LS) (local_ kind place rider ride st : Int) : LS × Int :=
  if local_ < 0 ∨ 4294943999 < local_ then (s, 1) else if 0 < s.reps.length ∧ local_ < lastLocal s.reps then (s, 9) else if 512 ≤ s.reps.length then (s, 8)
  else ({ s with state := st, reps := s.reps ++ [((s.reps.length : Int) + 1, local_, kind, place, rider, ride)] }, 0)
/-- A lock lies in block g; its reports are its own. -/
def LockAt (W : World) (g : Nat) (v : Value) (s : LS) : Prop :=
  BlkAt W g #[.int .i64 s.bike, u64 s.ka, u64 s.kb, .int .i64 s.state, .int .i64 s.last, v] ∧ W.ownsRow (g + 1) 45 6 v s.reps.length (rcs s.reps)
/-- Only the lock and its reports turn. -/
structure Fr (g : Nat) (v : Value) (W W' : World) : Prop where
  os : W'.os = W.os
  tape : W'.tape = W.tape
  output : W'.output = W.output
  size : W.heap.size ≤ W'.heap.size
  block : ∀ k, k < W.heap.size → k ≠ g → some k ≠ v.ownBlock → W'.heap[k]? = W.heap[k]?
theorem Fr.of_below {g : Nat} {v : Value} {W W' : World} (h : Below W.heap.size W W') : Fr g v W W' := ⟨h.os, h.tape, h.output, h.size, fun k hk _ _ => h.block k hk⟩
theorem Fr.refl (g : Nat) (v : Value) (W : World) : Fr g v W W := Fr.of_below (Below.refl _ _)
theorem Fr.trans {g : Nat} {v v' : Value} {A B C : World} (h : Fr g v A B) (hf : Fresh A v v') (k : Fr g v' B C) : Fr g v A C :=
  ⟨k.os.trans h.os, k.tape.trans h.tape, k.output.trans h.output, Nat.le_trans h.size k.size, fun i hi h1 h2 => by
    rw [k.block i (Nat.lt_of_lt_of_le hi h.size) h1 (fun e => ?_), h.block i hi h1 h2]
    rcases hf i e.symm with h3 | h3
    · exact h2 h3.symm
    · omega⟩
theorem Fresh.refl (w : World) (v : Value) : Fresh w v v := fun k hk => .inl hk
theorem Fresh.trans {A B : World} {v v' v'' : Value} (h : Fresh A v v') (hs : A.heap.size ≤ B.heap.size) (k : Fresh B v' v'') : Fresh A v v'' := fun i hi => by
  rcases k i hi with h1 | h1
  · exact h i h1
  · exact .inr (Nat.le_trans hs h1)
theorem LockAt.below {W W' : World} {g : Nat} {v : Value} {s : LS} (h : LockAt W g v s) (hb : Below W.heap.size W W') : LockAt W' g v s := ⟨blkBelow hb h.1, ownsRow_ext h.2 hb⟩
/-- A frame above B leaves what lies below. -/
theorem Fr.below {B g : Nat} {v : Value} {w W W' : World} (hb : Below B w W) (h : Fr g v W W') (hg : B ≤ g) (hv : ∀ k, v.ownBlock = some k → B ≤ k) (hB : B ≤ W.heap.size) : Below B w W' :=
  hb.trans ⟨h.os, h.tape, h.output, h.size, fun k hk => h.block k (by omega) (by omega) (fun e => by have := hv k e.symm; omega)⟩
end Go.Proofs.Ytpmjgiabedjlgaa
