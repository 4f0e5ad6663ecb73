/-
  TOKENS, THE PLAIN LAW OF THEIR TEXTS. No program in sight.
-/
import Derived.Test.YtomilmaeiokaaaaTokP
import Derived.Test.YtomilmaeiokaaaaWireP
import Derived.Test.YtomilmaeiokaaaaBase15
namespace Go.Proofs.Ytomilmaeiokaaaa
open Go.RowKit
set_option linter.unusedVariables false

def alphaL : List UInt8 := [48, 49, 50, 51, 52, 53, 54, 55, 56, 57, 97, 98, 99, 100, 101, 102, 103, 104, 106, 107, 109, 110, 112, 113, 114, 115, 116, 118, 119, 120, 121, 122]
def alpha (n : Nat) : UInt8 := alphaL.getD n 0
/-- The bytes of a tag, the highest first. -/
def tagF (g : BitVec 64) (k : Nat) : UInt8 := UInt8.ofNat (g >>> (8 * (7 - k))).toNat
def tagB (g : BitVec 64) : List UInt8 := (List.range 8).map (tagF g)
/-- A token's bytes. -/
def encB (b r d f t n : Int) (g : BitVec 64) : List UInt8 := [b, r, d, f, t, n].flatMap putInt ++ tagB g
theorem encB_len (b r d f t n : Int) (g : BitVec 64) : (encB b r d f t n g).length ≤ 68 := by
  have h := fun n => putInt_length n
  unfold encB tagB
  simp only [List.length_append, List.length_map, List.length_range, List.flatMap_cons, List.flatMap_nil, List.length_nil]
  have h1 := (h b).1; have h2 := (h r).1; have h3 := (h d).1; have h4 := (h f).1; have h5 := (h t).1; have h6 := (h n).1
  omega
/-- Whole groups of five bits go out. -/
def grpN : Nat → List UInt8 × Nat × Nat → List UInt8 × Nat × Nat
  | 0, s => s
  | f + 1, s => if 5 ≤ s.2.2 then grpN f (s.1 ++ [alpha (dv s.2.1 (s.2.2 - 5))], md s.2.1 (s.2.2 - 5), s.2.2 - 5) else s
theorem grpN_stop {f : Nat} {o : List UInt8} {G b : Nat} (h : b < 5) : grpN f (o, G, b) = (o, G, b) := by
  cases f with
  | zero => rfl
  | succ f => unfold grpN; rw [if_neg (by dsimp only; omega)]
theorem grpN_go {f : Nat} {o : List UInt8} {G q : Nat} : grpN (f + 1) (o, G, q + 5) = grpN f (o ++ [alpha (dv G q)], md G q, q) := by
  rw [show grpN (f + 1) (o, G, q + 5) = if 5 ≤ q + 5 then grpN f (o ++ [alpha (dv G (q + 5 - 5))], md G (q + 5 - 5), q + 5 - 5) else (o, G, q + 5) from rfl, if_pos (by omega), Nat.add_sub_cancel]
def txtStep (s : List UInt8 × Nat × Nat) (c : UInt8) : List UInt8 × Nat × Nat := grpN 2 (s.1, s.2.1 * 256 + c.toNat, s.2.2 + 8)
def txtS (bs : List UInt8) : List UInt8 × Nat × Nat := bs.foldl txtStep ([], 0, 0)
/-- A token's text. -/
def txtB (bs : List UInt8) : List UInt8 := if 0 < (txtS bs).2.2 then (txtS bs).1 ++ [alpha (sl2 (txtS bs).2.1 (5 - (txtS bs).2.2))] else (txtS bs).1
theorem txtS_snoc (bs : List UInt8) (c : UInt8) : txtS (bs ++ [c]) = txtStep (txtS bs) c := by unfold txtS; rw [List.foldl_append]; rfl
/-- What holds between bytes. -/
structure GrpI (s : List UInt8 × Nat × Nat) (k : Nat) : Prop where
  hb : s.2.2 < 5
  hg : s.2.1 < 2 ^ s.2.2
  hn : s.1.length * 5 + s.2.2 = 8 * k
theorem grp_zero : GrpI ([], 0, 0) 0 := ⟨by decide, by decide, rfl⟩
/-- What holds within a byte. -/
structure GrpJ (o : List UInt8) (G b k : Nat) : Prop where
  hb : b ≤ 12
  hg : G < 2 ^ b
  hn : o.length * 5 + b = 8 * k
theorem grp_in {o : List UInt8} {G q k : Nat} (c : UInt8) (h : GrpI (o, G, q) k) : GrpJ o (G * 256 + c.toNat) (q + 8) (k + 1) := by
  have h1 := h.hb
  have h2 := h.hg
  have h3 := h.hn
  have h4 := c.toNat_lt
  dsimp only at h1 h2 h3
  refine ⟨by omega, ?_, by omega⟩
  rw [Nat.pow_add]
  have : (G + 1) * 256 ≤ 2 ^ q * 256 := Nat.mul_le_mul_right 256 h2
  omega
theorem grp_out {o : List UInt8} {G q k : Nat} {y : UInt8} (h : GrpJ o G (q + 5) k) : GrpJ (o ++ [y]) (md G q) q k := by
  refine ⟨by have := h.hb; omega, md_lt G q, ?_⟩
  have := h.hn
  rw [List.length_append, List.length_singleton]
  omega
theorem grp_done {o : List UInt8} {G b k : Nat} (h : GrpJ o G b k) (hb : b < 5) : GrpI (o, G, b) k := ⟨hb, h.hg, h.hn⟩
theorem alpha_pow {G q : Nat} (h : G < 2 ^ (q + 5)) : dv G q < 32 := dv_lt (r := 5) h
theorem sl_pow {G q r : Nat} (h : G < 2 ^ q) (hq : q + r = 5) : sl2 G r < 32 := by
  unfold sl2
  have : G * 2 ^ r < 2 ^ q * 2 ^ r := Nat.mul_lt_mul_of_pos_right h (Nat.pos_of_ne_zero (by simp))
  rw [← Nat.pow_add, hq] at this
  exact this
end Go.Proofs.Ytomilmaeiokaaaa
