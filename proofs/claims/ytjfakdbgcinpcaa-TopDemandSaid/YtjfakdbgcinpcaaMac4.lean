/-
  MAC, THE WALKS: Tag, Derive.
-/
import Derived.Test.YtjfakdbgcinpcaaProg
import Derived.Test.YtjfakdbgcinpcaaBase7
import Derived.Test.YtjfakdbgcinpcaaMac1
import Derived.Test.YtjfakdbgcinpcaaMac3
import Derived.Test.YtjfakdbgcinpcaaHeld
import Derived.Test.YtjfakdbgcinpcaaWire5
import Derived.Test.YtjfakdbgcinpcaaWireP
import Derived.BigQuiet
import Derived.Deep.QuietTactic
import Derived.WalkSpells
import Derived.WalkLawsBesides
import Derived.Test.YtjfakdbgcinpcaaWire2
import Derived.StillTailTactics
import Derived.RegionTactic
import Derived.Deep.DeepCutAuto
namespace Go.Proofs.Ytjfakdbgcinpcaa
open Go.RowKit
set_option linter.unusedVariables false


/-- What the walk knows of the world w': the key's two cells, and nothing else has turned. -/
abbrev KeyAt (w : World) (g : Nat) (ka kb : BitVec 64) (w' : World) : Prop := w'.cell? ⟨g, 0, none⟩ = some (u64 ka) ∧ w'.cell? ⟨g, 1, none⟩ = some (u64 kb) ∧ Below w.heap.size w w'

theorem putInts_len (l : List Int) : (putInts l).length ≤ 10 + 10 * l.length := by
  have h1 := flat_len l
  have h2 := putInt_length l.length
  simp only [putInts, List.length_append]
  omega
theorem putInts_s {l : List Int} {ao : Option Addr} {len cap : Nat} {w w1 : World} {g : Nat} {ka kb : BitVec 64} (HL : Hid (Sl w 1 ao len cap (cs i64v l))) (HR : Hid (I64s l)) (HN : Hid (len ≤ 1000000)) (hS : KeyAt w g ka kb w1) :
    Calls Try.prog 30 #[.slice none 0 0, .slice ao len cap] w1 (fun e w2 => ∃ N a c, e = .returned (.slice a N c) ∧ Hid (Sl w2 1 a N c (cs b8 (putInts l)) ∧ N ≤ 1000000000) ∧ Below w1.heap.size w1 w2) := by
  have hpl := putInts_len l
  have h3 := HL.out.count
  have h4 := HN.out
  have hb1 : Below w.heap.size w w1 := hS.2.2
  have hl1 := HL.out.ext hb1
  clear hS HL HN
  refine (putInts_any [] l none ao 0 0 len cap _ (Sl.nil _ _) hl1 HR.out (by decide) (by omega)).mono ?_
  rintro e w2 ⟨v, rfl, ho, hb⟩
  obtain ⟨N, a, c, rfl, s⟩ := sl_own ho
  have := s.count
  rw [List.nil_append] at s this
  exact ⟨N, a, c, rfl, ⟨s, by omega⟩, hb⟩
theorem sum_s {bs : List UInt8} {a : Option Addr} {N c : Nat} {w1 : World} {ka kb : BitVec 64} (hs : Hid (Sl w1 1 a N c (cs b8 bs) ∧ N ≤ 1000000000)) :
    Calls Try.prog 29 #[.agg #[u64 ka, u64 kb], .slice a N c] w1 (RetB (u64 (sipSum ka kb bs)) w1) := sum_any ka kb bs a N c w1 hs.out.1 hs.out.2

set_option maxRecDepth 100000 in
set_option maxHeartbeats 1000000 in
theorem tag_any (ka kb : BitVec 64) (l : List Int) (ao : Option Addr) (len cap : Nat) (w : World) (hl : Sl w 1 ao len cap (cs i64v l)) (hr : I64s l) (hlen : len ≤ 1000000) :
    Calls Try.prog 19 #[.agg #[u64 ka, u64 kb], .slice ao len cap] w (RetB (u64 (sipSum ka kb (putInts l))) w) := by
  have HL := Lib.hid hl
  have HR := Lib.hid hr
  have HN := Lib.hid hlen
  clear hl hr hlen
  go_enter Try.func19, Try.ntmps19
  go_wp2_with fail
  go_region_held3 (fun w' => w'.cell? ⟨w.heap.size, 0, none⟩ = some (u64 ka) ∧ w'.cell? ⟨w.heap.size, 1, none⟩ = some (u64 kb) ∧ Below w.heap.size w w')
    (first | exact keep3D (keep3_0 _ _ _ _) | assumption | exact keep3D (by assumption) | exact keep3 (by assumption) (by assumption))
    (first
      | (go_at_call 30; refine (putInts_s HL HR HN (by assumption)).mono ?_; rintro e w1 ⟨N1, a1, c1, rfl, s1, hb1⟩)
      | (go_at_call 29; refine (sum_s s1).mono ?_; rintro e w2 ⟨rfl, hb2⟩))
  go_wp2
  go_ret
  exact ⟨rfl, by go_split_ands; assumption⟩

end Go.Proofs.Ytjfakdbgcinpcaa
