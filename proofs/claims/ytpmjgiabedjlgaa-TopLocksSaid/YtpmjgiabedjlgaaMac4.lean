/-
  MAC, THE WALKS: Tag, Derive.
-/
import Derived.Test.YtpmjgiabedjlgaaProg
import Derived.Test.YtpmjgiabedjlgaaBase7
import Derived.Test.YtpmjgiabedjlgaaMac1
import Derived.Test.YtpmjgiabedjlgaaMac3
import Derived.Test.YtpmjgiabedjlgaaBase14
import Derived.Test.YtpmjgiabedjlgaaWire6
import Derived.Test.YtpmjgiabedjlgaaWire2
import Derived.BigQuiet
import Derived.StillTailTactics
import Derived.RegionTactic
import Derived.Deep.DeepCutAuto
import Derived.Deep.QuietTactic
import Derived.WalkSpells
import Derived.WalkLawsBesides
namespace Go.Proofs.Ytpmjgiabedjlgaa
open Go.RowKit
set_option linter.unusedVariables false


/-- What the walk knows of the world w': the key's two cells, and nothing else has turned. -/
abbrev KeyAt (w : World) (g : Nat) (ka kb : BitVec 64) (w' : World) : Prop := w'.cell? ⟨g, 0, none⟩ = some (u64 ka) ∧ w'.cell? ⟨g, 1, none⟩ = some (u64 kb) ∧ Below w.heap.size w w'

theorem putInts_len (l : List Int) : (putInts l).length ≤ 10 + 10 * l.length := by
  have h1 := flat_len l
  have h2 := putInt_length l.length
  simp only [putInts, List.length_append]
  omega
theorem putInts_s {l : List Int} {ao : Option Addr} {len cap : Nat} {w w1 : World} {g : Nat} {ka kb : BitVec 64} (HL : Hid (Sl w 1 ao len cap (cs i64v l))) (HR : Hid (I64s l)) (HN : Hid (len ≤ 1000000)) (hS : KeyAt w g ka kb w1) :
    Calls Try.prog 11 #[.slice none 0 0, .slice ao len cap] w1 (fun e w2 => ∃ N a c, e = .returned (.slice a N c) ∧ Hid (Sl w2 1 a N c (cs b8 (putInts l)) ∧ N ≤ 1000000000) ∧ Below w1.heap.size w1 w2) := by
  have hpl := putInts_len l
  have h3 := HL.out.count
  have h4 := HN.out
  have hb1 : Below w.heap.size w w1 := hS.2.2
  have hl1 := HL.out.ext hb1
  clear hS HL HN
  refine (putInts_any [] l none ao 0 0 len cap _ (Sl.nil _ _) hl1 HR.out (by decide) (by omega)).mono ?_
  rintro e w2 ⟨v, rfl, ho, hb⟩
  obtain ⟨N, a, c, rfl, s⟩ := sl_own ho
  have := s.count
  rw [List.nil_append] at s this
  exact ⟨N, a, c, rfl, ⟨s, by omega⟩, hb⟩
theorem sum_s {bs : List UInt8} {a : Option Addr} {N c : Nat} {w1 : World} {ka kb : BitVec 64} (hs : Hid (Sl w1 1 a N c (cs b8 bs) ∧ N ≤ 1000000000)) :
    Calls Try.prog 62 #[.agg #[u64 ka, u64 kb], .slice a N c] w1 (RetB (u64 (sipSum ka kb bs)) w1) := sum_any ka kb bs a N c w1 hs.out.1 hs.out.2

set_option maxRecDepth 100000 in
set_option maxHeartbeats 1000000 in
theorem tag_any (ka kb : BitVec 64) (l : List Int) (ao : Option Addr) (len cap : Nat) (w : World) (hl : Sl w 1 ao len cap (cs i64v l)) (hr : I64s l) (hlen : len ≤ 1000000) :
    Calls Try.prog 45 #[.agg #[u64 ka, u64 kb], .slice ao len cap] w (RetB (u64 (sipSum ka kb (putInts l))) w) := by
  have HL := Lib.hid hl
  have HR := Lib.hid hr
  have HN := Lib.hid hlen
  clear hl hr hlen
  go_enter Try.func45, Try.ntmps45
  go_wp2_with fail
  go_region_held3 (fun w' => w'.cell? ⟨w.heap.size, 0, none⟩ = some (u64 ka) ∧ w'.cell? ⟨w.heap.size, 1, none⟩ = some (u64 kb) ∧ Below w.heap.size w w')
    (first | exact keep3D (keep3_0 _ _ _ _) | assumption | exact keep3D (by assumption) | exact keep3 (by assumption) (by assumption))
    (first
      | (go_at_call 11; refine (putInts_s HL HR HN (by assumption)).mono ?_; rintro e w1 ⟨N1, a1, c1, rfl, s1, hb1⟩)
      | (go_at_call 62; refine (sum_s s1).mono ?_; rintro e w2 ⟨rfl, hb2⟩))
  go_wp2
  go_ret
  exact ⟨rfl, by go_split_ands; assumption⟩

/-- A slice of two ints, from its block. -/
theorem sl_two {W : World} {g : Nat} {x y : Int} (h : BlkAt W g #[.int .i64 x, .int .i64 y]) : Sl W 1 (some ⟨g, 0, none⟩) 2 2 (cs i64v [x, y]) := by
  obtain ⟨E, h⟩ := h
  refine ⟨by rw [cs_length]; rfl, Nat.le_refl _, by unfold maxLen; omega, (fun h => by cases h), fun j u hj => ⟨g, 0, rfl, ?_⟩⟩
  rw [Nat.zero_add, cell_of_row _ _ _ _ _ _ h]
  change [Value.int IntKind.i64 x, Value.int IntKind.i64 y][j]? = some u at hj
  simpa using hj
theorem tag_s {W : World} {g : Nat} {x y : Int} {ka kb : BitVec 64} (hx : Hid (-9223372036854775808 ≤ x ∧ x ≤ 9223372036854775807)) (hy : -9223372036854775808 ≤ y ∧ y ≤ 9223372036854775807)
    (h : BlkAt W g #[.int .i64 x, .int .i64 y]) :
    Calls Try.prog 45 #[.agg #[u64 ka, u64 kb], .slice (some ⟨g, 0, none⟩) 2 2] W (RetB (u64 (sipSum ka kb (putInts [x, y]))) W) :=
  tag_any ka kb [x, y] _ 2 2 W (sl_two h) (by intro n hn; simp at hn; rcases hn with rfl | rfl; exact hx.out; exact hy) (by decide)
def derived (ka kb : BitVec 64) (n : Int) : Value := .agg #[u64 (sipSum ka kb (putInts [n, 0])), u64 (sipSum ka kb (putInts [n, 1]))]
end Go.Proofs.Ytpmjgiabedjlgaa
