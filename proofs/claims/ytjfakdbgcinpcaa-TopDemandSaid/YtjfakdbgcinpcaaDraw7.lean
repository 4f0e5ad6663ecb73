/-
  DRAW, THE WALKS: Words, the reference's Words; SameWords, Same.
-/
import Derived.Test.YtjfakdbgcinpcaaProg
import Derived.Test.YtjfakdbgcinpcaaBase7
import Derived.Test.YtjfakdbgcinpcaaDraw5
import Derived.Test.YtjfakdbgcinpcaaMac4
import Derived.Test.YtjfakdbgcinpcaaMac1
import Derived.Test.YtjfakdbgcinpcaaMac8
import Derived.Test.YtjfakdbgcinpcaaHeld
import Derived.Test.YtjfakdbgcinpcaaWire5
import Derived.Test.YtjfakdbgcinpcaaWireP
import Derived.BigQuiet
import Derived.Deep.QuietTactic
import Derived.WalkSpells
import Derived.WalkLawsBesides
import Derived.Test.YtjfakdbgcinpcaaWire2
import Derived.StillTailTactics
import Derived.RegionTactic
import Derived.Deep.DeepCutAuto
import Derived.Laws.StructEq
namespace Go.Proofs.Ytjfakdbgcinpcaa
open Go.RowKit
set_option linter.unusedVariables false

def wordAt (ka kb : BitVec 64) (from_ : Int) (i : Nat) : BitVec 64 := sipSum ka kb (putInts [from_ + i])
def wordsL (ka kb : BitVec 64) (from_ : Int) (m : Nat) : List (BitVec 64) := (List.range m).map (wordAt ka kb from_)
def words (ka kb : BitVec 64) (from_ n : Int) : List (BitVec 64) := if from_ < 0 ∨ 1125899906842624 < from_ ∨ n < 0 ∨ 512 < n then [] else wordsL ka kb from_ n.toNat
theorem wordsL_len (ka kb : BitVec 64) (from_ : Int) (m : Nat) : (wordsL ka kb from_ m).length = m := by unfold wordsL; simp
theorem wordsL_get (ka kb : BitVec 64) (from_ : Int) (m j : Nat) (h : j < m) : (wordsL ka kb from_ m).getD j 0 = wordAt ka kb from_ j := by unfold wordsL; simp [List.getD, h]
theorem wordsL_of {ka kb : BitVec 64} {from_ : Int} {l : List (BitVec 64)} {n : Nat} (hl : l.length = n) (h : ∀ j, j < n → l.getD j 0 = wordAt ka kb from_ j) : l = wordsL ka kb from_ n := by
  apply List.ext_getElem (by rw [hl, wordsL_len])
  intro i h1 h2
  have a := h i (by omega)
  have b := wordsL_get ka kb from_ n i (by omega)
  simp only [List.getD, List.getElem?_eq_getElem h1, List.getElem?_eq_getElem h2, Option.getD_some] at a b
  rw [a, b]
/-- A list of words, of its own. -/
def RetW (r : List (BitVec 64)) (w : World) (e : Ending) (w' : World) : Prop := ∃ v n, e = .returned v ∧ w'.ownsRow w.heap.size 23 1 v n (cs u64 r) ∧ Below w.heap.size w w'
theorem retW_nil {r : List (BitVec 64)} {w w' : World} (h : r = []) (hb : Below w.heap.size w w') : RetW r w (.returned (.slice none 0 0)) w' := by subst h; exact ⟨_, 0, rfl, World.ownsRow_nil _ _ _ _, hb⟩
theorem infoW : (Try.prog.info? 23).map (fun i => (i.zero, i.size, i.bytes)) = some (some (.int .u64 0), 1, 8) := by kernel_rfl

set_option maxRecDepth 100000 in
set_option maxHeartbeats 2000000 in
theorem words_any (ka kb : BitVec 64) (from_ n : Int) (w : World) :
    Calls Try.prog 7 #[.agg #[u64 ka, u64 kb], .int .i64 from_, .int .i64 n] w (RetW (words ka kb from_ n) w) := by
  obtain ⟨T, hT⟩ : ∃ T, words ka kb from_ n = T := ⟨_, rfl⟩
  rw [hT]
  unfold words at hT
  by_cases h1 : from_ < 0
  · rw [if_pos (.inl h1)] at hT
    have HT := Lib.hid hT
    clear hT
    go_enter Try.func7, Try.ntmps7
    go_wp2
    go_ret
    exact retW_nil HT.out.symm (below_alloc _ _)
  · by_cases h2 : 1125899906842624 < from_
    · rw [if_pos (.inr (.inl h2))] at hT
      have HT := Lib.hid hT
      clear hT
      go_enter Try.func7, Try.ntmps7
      go_wp2
      go_ret
      exact retW_nil HT.out.symm (below_alloc _ _)
    · by_cases h3 : n < 0
      · rw [if_pos (.inr (.inr (.inl h3)))] at hT
        have HT := Lib.hid hT
        clear hT
        go_enter Try.func7, Try.ntmps7
        go_wp2
        go_ret
        exact retW_nil HT.out.symm (below_alloc _ _)
      · by_cases h4 : 512 < n
        · rw [if_pos (.inr (.inr (.inr h4)))] at hT
          have HT := Lib.hid hT
          clear hT
          go_enter Try.func7, Try.ntmps7
          go_wp2
          go_ret
          exact retW_nil HT.out.symm (below_alloc _ _)
        · rw [if_neg (fun h => h.elim h1 (fun h => h.elim h2 (fun h => h.elim h3 h4)))] at hT
          obtain ⟨m, rfl⟩ := Int.eq_ofNat_of_zero_le (show 0 ≤ n by omega)
          rw [Int.toNat_natCast] at hT
          have HT := Lib.hid hT
          clear hT
          have k0 := keep3_0 w (u64 ka) (u64 kb) 25
          go_enter Try.func7, Try.ntmps7
          go_wp2_with (refine wpList_make_typed u64 0 _ rfl _ _ 43 rfl 23 (.int .u64 0) 8 Try.underlying43 infoW rfl .i64 .i64 _ _ m rfl rfl rfl rfl (by omega) (by unfold maxLen; omega) ?_)
          intro w1 ho1 hb1
          have k1 := keep3 (w1 := w.alloc (.cells #[u64 ka, u64 kb] 25)) (by simpa using hb1) k0
          clear k0 hb1
          go_wp2_with fail
          go_loopw [27] (fun i wr => ∃ (k : Nat) (L : List (BitVec 64)), k ≤ m ∧ i = .int .i64 k ∧ L.length = m ∧ Hid (∀ j, j < k → L.getD j 0 = wordAt ka kb from_ j) ∧ wr.ownsRow (w.heap.size + 1) 23 1 (.slice (some ⟨w.heap.size + 1, 0, none⟩) m m) m (cs u64 L) ∧ wr.cell? ⟨w.heap.size, 0, none⟩ = some (u64 ka) ∧ wr.cell? ⟨w.heap.size, 1, none⟩ = some (u64 kb) ∧ Below w.heap.size w wr) (fun i _ => m - (intOf i).toNat)
          case atStart => exact ⟨0, _, by omega, rfl, by simp, fun j hj => absurd hj (by omega), ho1, k1.1, k1.2.1, k1.2.2⟩
          case round =>
            obtain ⟨k, L, hk, rfl, hL, hall, ho, c0, c1, hb⟩ := hrel
            by_cases hkm : k < m
            · have hkm' : (k : Int) < (m : Int) := by omega
              have hk0 : (0 : Int) ≤ (k : Int) := by omega
              have hz : w.heap.size < wr.heap.size := World.block_lt_of_cell? _ _ c0
              have hsl := sl_lit (f := i64v) wr 3 [from_ + (k : Int)] #[.int .i64 (from_ + (k : Int))] rfl 1 rfl (by decide)
              have HSL := Lib.hid hsl
              clear hsl
              go_wp2_with fail
              refine (tag_any ka kb [from_ + (k : Int)] _ 1 1 _ HSL.out (by intro q hq; simp at hq; subst hq; omega) (by decide)).mono ?_
              rintro e w2 ⟨rfl, hb2⟩
              have hb12 : Below wr.heap.size wr w2 := below_step (below_alloc _ _) hb2
              have ho2 := ownsRow_ext ho hb12
              have c02 := cell_keep hb12 c0
              have c12 := cell_keep hb12 c1
              have hb02 := below_step hb hb12
              obtain ⟨d1, f1, z1, z2⟩ := own_cell ho2 k hkm 0
              have hwa : sipSum ka kb (putInts [from_ + (k : Int)]) = wordAt ka kb from_ k := rfl
              rw [hwa]
              have ho3 := Lib.hid (own_set ho2 k (wordAt ka kb from_ k))
              have hall2 : Hid (∀ j, j < k + 1 → (L.set k (wordAt ka kb from_ k)).getD j 0 = wordAt ka kb from_ j) := fun j hj => by
                by_cases hjk : j = k
                · subst hjk; simp [List.getD, show j < L.length by omega]
                · rw [← hall.out j (by omega)]
                  simp only [List.getD]
                  rw [List.getElem?_set_ne (fun e => hjk e.symm)]
              have hLs : (L.set k (wordAt ka kb from_ k)).length = m := by rw [List.length_set]; exact hL
              clear hall ho ho2 c0 c1 hb2 hb12 HSL hwa
              generalize L.set k (wordAt ka kb from_ k) = L2 at *
              generalize wordAt ka kb from_ k = y at *
              go_wp2_with fail
              go_roundw
              case rel => exact ⟨k + 1, L2, by omega, by go_num, hLs, hall2, ho3.out, cell_far (by simp) c02, cell_far (by simp) c12, hb02.setCell (p := ⟨w.heap.size + 1, k, none⟩) (by simp) _⟩
              case measure => simp [intOf]; omega
            · have hke : k = m := by omega
              subst hke
              have hLi := wordsL_of hL hall.out
              subst hLi
              clear hall
              go_wp2
              go_ret
              exact ⟨_, k, rfl, by rw [← HT.out]; exact ownsRow_mono ho (by omega), hb⟩

end Go.Proofs.Ytjfakdbgcinpcaa
