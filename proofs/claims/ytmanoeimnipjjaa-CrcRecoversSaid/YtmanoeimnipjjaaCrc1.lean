/-
  CRC, THE WALKS: the table. No condition.
-/
import Derived.Test.YtmanoeimnipjjaaProg
import Derived.Test.YtmanoeimnipjjaaBase3
import Derived.Test.YtmanoeimnipjjaaBase5
import Derived.Test.YtmanoeimnipjjaaBase6
import Derived.Test.YtmanoeimnipjjaaBase7
import Derived.Test.YtmanoeimnipjjaaBase8
import Derived.Test.YtmanoeimnipjjaaCrcP
import Derived.Test.YtmanoeimnipjjaaHeld
import Derived.BigQuiet
import Derived.Deep.QuietTactic
import Derived.Deep.WholeRow
import Derived.Deep.MidRow
import Derived.Deep.DeepCutAuto
import Derived.WalkSpells
import Derived.WalkLawsBesides
namespace Go.Proofs.Ytmanoeimnipjjaa
open Go.RowKit
set_option linter.unusedVariables false

theorem info_tab : (Try.prog.info? 123).map (fun i => (i.zero, i.size)) = some (some (.agg (Array.replicate 256 (.int .u32 0))), 256) := by kernel_rfl

theorem odd_iff (x : BitVec 32) : (x.toNat : Int) % 2 = 1 ↔ x.getLsbD 0 = true := by
  rw [BitVec.getLsbD, Nat.testBit_zero, decide_eq_true_eq]
  omega

/-- The block g holds the array L. -/
def Tab (w : World) (g : Nat) (L : List (BitVec 32)) : Prop := w.heap[g]? = some (.cells (cs u32 L).toArray 123)
theorem Tab.cell {w : World} {g : Nat} {L : List (BitVec 32)} (h : Tab w g L) (k : Nat) (hk : k < L.length) : w.cell? ⟨g, k, none⟩ = some (u32 (L.getD k 0)) ∧ w.frozen? ⟨g, k, none⟩ = false := by
  refine ⟨?_, frozen_of_row _ _ _ _ _ h⟩
  rw [cell_of_row _ _ _ _ _ _ h]
  simp [cs, List.getD, hk]
theorem Tab.set {w : World} {g : Nat} {L : List (BitVec 32)} (h : Tab w g L) (k : Nat) (x : BitVec 32) : Tab (w.setCell ⟨g, k, none⟩ (u32 x)) g (L.set k x) := by
  have := heap_setCell_same w g k _ _ (u32 x) h
  unfold Tab
  rw [this]
  congr 2
  apply Array.toList_inj.1
  simp [cs]
theorem Tab.far {w : World} {g : Nat} {L : List (BitVec 32)} (h : Tab w g L) {p : Addr} (u : Value) (hp : g ≠ p.block) : Tab (w.setCell p u) g L := (Below.heap_setCell w p u g hp).trans h

theorem below_setCells {B g : Nat} {a : World} (hg : B ≤ g) : ∀ (vs : List Value) (o : Nat) {w : World}, Below B a w → Below B a (w.setCells g o vs)
  | [], _, _, h => h
  | v :: r, o, w, h => below_setCells hg r (o + 1) (h.setCell hg v)

set_option maxRecDepth 100000 in
set_option maxHeartbeats 4000000 in
theorem table_any (w : World) :
    Calls Try.prog 79 #[] w (RetB (.agg ((cs u32 ((List.range 256).map fun i => stepN 8 (BitVec.ofNat 32 i))).toArray)) w) := by
  obtain ⟨hz, hi⟩ := zero_of_info info_tab
  have hZ0 : Array.replicate 256 (Value.int .u32 0) = (cs u32 (List.replicate 256 0#32)).toArray := by
    unfold cs; rw [List.map_replicate]; rfl
  rw [hZ0] at hz
  generalize hL0 : List.replicate 256 0#32 = L0 at hz
  have HL0 := Lib.hid hL0
  clear hL0 hZ0
  go_enter Try.func79, Try.ntmps79
  go_wp2_with fail
  go_loopw [5] (fun i wr => ∃ (k : Nat) (L : List (BitVec 32)), k ≤ 256 ∧ i = .int .i64 k ∧ L.length = 256 ∧ Hid (∀ j, j < k → L.getD j 0 = stepN 8 (BitVec.ofNat 32 j)) ∧ Tab wr (w.heap.size + 1) L ∧ Tab wr w.heap.size L0 ∧ Below w.heap.size w wr) (fun i _ => 256 - (intOf i).toNat)
  case atStart =>
    refine ⟨0, L0, by omega, rfl, by rw [← HL0.out]; simp, fun j hj => absurd hj (by omega), ?_, ?_, below_step (below_alloc _ _) (below_alloc _ _)⟩
    · exact hp_new (by simp)
    · exact hp_old (hp_new rfl)
  case round =>
    obtain ⟨k, L, hk, rfl, hL, hall, ht, ht0, hb⟩ := hrel
    by_cases hk2 : k < 256
    · have hk0 : (0 : Int) ≤ (k : Int) := by omega
      have hk1 : (k : Int) < 256 := by omega
      obtain ⟨hc, hf⟩ := ht.cell k (by omega)
      generalize L.getD k 0 = y0 at hc
      go_wp2_with fail
      go_loop [10, 3] (fun j x => ∃ m : Nat, m ≤ 8 ∧ j = .int .i64 m ∧ x = u32 (stepN m (BitVec.ofNat 32 k))) (fun j _ => 8 - (intOf j).toNat)
      case atStart => exact ⟨0, by omega, rfl, rfl⟩
      case round =>
        obtain ⟨m, hm, rfl, rfl⟩ := hrel
        by_cases hm8 : m < 8
        · have hs1 : stepN (m + 1) (BitVec.ofNat 32 k) = step1 (stepN m (BitVec.ofNat 32 k)) := rfl
          have HS := Lib.hid hs1
          clear hs1
          generalize stepN m (BitVec.ofNat 32 k) = x at *
          by_cases hx0 : (x.toNat : Int) % 2 = 1
          · go_wp2_with fail
            refine ⟨⟨m + 1, by omega, by go_num, ?_⟩, by simp [intOf]; omega⟩
            rw [HS.out]
            unfold step1
            rw [if_pos ((odd_iff _).1 hx0)]
            rfl
          · go_wp2_with fail
            refine ⟨⟨m + 1, by omega, by go_num, ?_⟩, by simp [intOf]; omega⟩
            rw [HS.out]
            unfold step1
            rw [if_neg (fun h => hx0 ((odd_iff _).2 h))]
        · obtain rfl : m = 8 := by omega
          go_wp2_with fail
          refine ⟨⟨k + 1, L.set k (stepN 8 (BitVec.ofNat 32 k)), by omega, by go_num, by rw [List.length_set]; exact hL, ?_, ht.set k _, ht0.far _ (by simp), hb.setCell (by simp) _⟩, by simp [intOf]; omega⟩
          intro j hj
          by_cases hjk : j = k
          · subst hjk; simp [List.getD, show j < L.length by omega]
          · rw [← hall.out j (by omega)]
            simp only [List.getD]
            rw [List.getElem?_set_ne (fun e => hjk e.symm)]
    · obtain rfl : k = 256 := by omega
      have hLL : L = (List.range 256).map fun i => stepN 8 (BitVec.ofNat 32 i) := by
        apply List.ext_getElem
        · simp [hL]
        · intro i h1 h2
          have := hall.out i (by omega)
          simp only [List.getD, List.getElem?_eq_getElem h1, Option.getD_some] at this
          rw [this]
          simp
      have HLL := Lib.hid hLL
      clear hLL hall
      have hrng : wr.rangeAt (w.heap.size + 1) 0 (cs u32 L) := fun j v hv => by
        rw [Nat.zero_add, cell_of_row _ _ _ _ _ _ ht]
        simpa using hv
      have hL0 : L0.length = 256 := by rw [← HL0.out]; simp
      have hthere : wr.there w.heap.size 0 (cs u32 L).toArray.size := fun j hj => by
        have hj' : j < L0.length := by simp [cs_length, hL] at hj; omega
        obtain ⟨h1, h2⟩ := ht0.cell j hj'
        rw [Nat.zero_add]
        exact ⟨by rw [h1]; rfl, h2⟩
      have hone : (cs u32 L).toArray.all (·.oneCell') = true := all_oneCell_toArray (fun v hv => by
        simp only [cs, List.mem_map] at hv
        obtain ⟨x, _, rfl⟩ := hv
        rfl)
      have hisz : (Try.prog.info? 123).map (·.size) = some (cs u32 L).toArray.size := by
        rw [hi, List.size_toArray, cs_length, hL]
      have hisz' : (Try.prog.info? 123).map (·.size) = some (cs u32 L).length := by rw [hi, cs_length, hL]
      have hb2 : Below w.heap.size w (wr.setCells w.heap.size 0 (cs u32 L)) := below_setCells (Nat.le_refl _) _ _ hb
      have hrng2 : (wr.setCells w.heap.size 0 (cs u32 L)).rangeAt w.heap.size 0 (cs u32 L) := World.rangeAt_setCells_same _ _ _ _ (by simpa using hthere)
      have hload2 := run_loadVar_mid (P := Try.prog) (wr.setCells w.heap.size 0 (cs u32 L)) w.heap.size 0 123 (cs u32 L) (.array 256 122) hrng2 Try.underlying123 rfl (by rw [hi, cs_length, hL])
      clear hrng2 ht ht0 hi hz
      generalize hC : cs u32 L = C at *
      have HC := Lib.hid hC
      clear hC
      go_wp2_with (first
        | (refine wpList_load_mid rfl 123 _ rfl (w.heap.size + 1) 0 rfl C (.array 256 122) hrng Try.underlying123 rfl hisz' ?_)
        | (refine wpList_store_mid rfl 123 _ _ rfl w.heap.size 0 C.toArray rfl rfl hthere hisz hone ?_))
      (try simp only [Exit.inBlock, Exit.then])
      refine bodyPost_ret (v := .agg C.toArray) ?_ rfl ⟨by rw [← HC.out, HLL.out], hb2⟩
      rw [results_cell1 rfl]
      exact hload2
end Go.Proofs.Ytmanoeimnipjjaa
