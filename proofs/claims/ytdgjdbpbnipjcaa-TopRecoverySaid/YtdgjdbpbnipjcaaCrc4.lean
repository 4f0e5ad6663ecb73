/-
  CRC, THE WALKS: the table. No condition.
-/
import Derived.Test.YtdgjdbpbnipjcaaProg
import Derived.Test.YtdgjdbpbnipjcaaBase7
import Derived.Test.YtdgjdbpbnipjcaaBase9
import Derived.Test.YtdgjdbpbnipjcaaCrcP2
import Derived.Test.YtdgjdbpbnipjcaaFlat
import Derived.BigQuiet
import Derived.Deep.QuietTactic
import Derived.Deep.WholeRow
import Derived.Deep.MidRow
import Derived.Deep.DeepCutAuto
import Derived.WalkSpells
import Derived.WalkLawsBesides
import Derived.Test.YtdgjdbpbnipjcaaWireP5
import Derived.Test.YtdgjdbpbnipjcaaWire1
import Derived.Laws.StructEq
import Derived.StillTailTactics
import Derived.RegionTactic
namespace Go.Proofs.Ytdgjdbpbnipjcaa
open Go.RowKit
set_option linter.unusedVariables false

theorem info_tab : (Try.prog.info? 98).map (fun i => (i.zero, i.size)) = some (some (.agg (Array.replicate 256 (.int .u32 0))), 256) := by kernel_rfl

theorem odd_iff (x : BitVec 32) : (x.toNat : Int) % 2 = 1 ↔ x.getLsbD 0 = true := by
  rw [BitVec.getLsbD, Nat.testBit_zero, decide_eq_true_eq]
  omega

/-- The block g holds the array L. -/
def Tab (w : World) (g : Nat) (L : List (BitVec 32)) : Prop := w.heap[g]? = some (.cells (cs u32 L).toArray 98)
theorem Tab.cell {w : World} {g : Nat} {L : List (BitVec 32)} (h : Tab w g L) (k : Nat) (hk : k < L.length) : w.cell? ⟨g, k, none⟩ = some (u32 (L.getD k 0)) ∧ w.frozen? ⟨g, k, none⟩ = false := by
  refine ⟨?_, frozen_of_row _ _ _ _ _ h⟩
  rw [cell_of_row _ _ _ _ _ _ h]
  simp [cs, List.getD, hk]
theorem Tab.set {w : World} {g : Nat} {L : List (BitVec 32)} (h : Tab w g L) (k : Nat) (x : BitVec 32) : Tab (w.setCell ⟨g, k, none⟩ (u32 x)) g (L.set k x) := by
  have := heap_setCell_same w g k _ _ (u32 x) h
  unfold Tab
  rw [this]
  congr 2
  apply Array.toList_inj.1
  simp [cs]
theorem Tab.far {w : World} {g : Nat} {L : List (BitVec 32)} (h : Tab w g L) {p : Addr} (u : Value) (hp : g ≠ p.block) : Tab (w.setCell p u) g L := (Below.heap_setCell w p u g hp).trans h

theorem below_setCells {B g : Nat} {a : World} (hg : B ≤ g) : ∀ (vs : List Value) (o : Nat) {w : World}, Below B a w → Below B a (w.setCells g o vs)
  | [], _, _, h => h
  | v :: r, o, w, h => below_setCells hg r (o + 1) (h.setCell hg v)

set_option maxRecDepth 100000 in
set_option maxHeartbeats 4000000 in
theorem table_any (w : World) :
    Calls Try.prog 52 #[] w (RetB (.agg ((cs u32 ((List.range 256).map fun i => stepN 8 (BitVec.ofNat 32 i))).toArray)) w) := by
  obtain ⟨hz, hi⟩ := zero_of_info info_tab
  have hZ0 : Array.replicate 256 (Value.int .u32 0) = (cs u32 (List.replicate 256 0#32)).toArray := by
    unfold cs; rw [List.map_replicate]; rfl
  rw [hZ0] at hz
  generalize hL0 : List.replicate 256 0#32 = L0 at hz
  have HL0 := Lib.hid hL0
  clear hL0 hZ0
  go_enter Try.func52, Try.ntmps52
  go_wp2_with fail
  go_loopw [5] (fun i wr => ∃ (k : Nat) (L : List (BitVec 32)), k ≤ 256 ∧ i = .int .i64 k ∧ L.length = 256 ∧ Hid (∀ j, j < k → L.getD j 0 = stepN 8 (BitVec.ofNat 32 j)) ∧ Tab wr (w.heap.size + 1) L ∧ Tab wr w.heap.size L0 ∧ Below w.heap.size w wr) (fun i _ => 256 - (intOf i).toNat)
  case atStart =>
    refine ⟨0, L0, by omega, rfl, by rw [← HL0.out]; simp, fun j hj => absurd hj (by omega), ?_, ?_, below_step (below_alloc _ _) (below_alloc _ _)⟩
    · exact hp_new (by simp)
    · exact hp_old (hp_new rfl)
  case round =>
    obtain ⟨k, L, hk, rfl, hL, hall, ht, ht0, hb⟩ := hrel
    by_cases hk2 : k < 256
    · have hk0 : (0 : Int) ≤ (k : Int) := by omega
      have hk1 : (k : Int) < 256 := by omega
      obtain ⟨hc, hf⟩ := ht.cell k (by omega)
      generalize L.getD k 0 = y0 at hc
      go_wp2_with fail
      go_loop [10, 3] (fun j x => ∃ m : Nat, m ≤ 8 ∧ j = .int .i64 m ∧ x = u32 (stepN m (BitVec.ofNat 32 k))) (fun j _ => 8 - (intOf j).toNat)
      case atStart => exact ⟨0, by omega, rfl, rfl⟩
      case round =>
        obtain ⟨m, hm, rfl, rfl⟩ := hrel
        by_cases hm8 : m < 8
        · have hs1 : stepN (m + 1) (BitVec.ofNat 32 k) = step1 (stepN m (BitVec.ofNat 32 k)) := rfl
          have HS := Lib.hid hs1
          clear hs1
          generalize stepN m (BitVec.ofNat 32 k) = x at *
          by_cases hx0 : (x.toNat : Int) % 2 = 1
          · go_wp2_with fail
            refine ⟨⟨m + 1, by omega, by go_num, ?_⟩, by simp [intOf]; omega⟩
            rw [HS.out]
            unfold step1
            rw [if_pos ((odd_iff _).1 hx0)]
            rfl
          · go_wp2_with fail
            refine ⟨⟨m + 1, by omega, by go_num, ?_⟩, by simp [intOf]; omega⟩
            rw [HS.out]
            unfold step1
            rw [if_neg (fun h => hx0 ((odd_iff _).2 h))]
        · obtain rfl : m = 8 := by omega
          go_wp2_with fail
          refine ⟨⟨k + 1, L.set k (stepN 8 (BitVec.ofNat 32 k)), by omega, by go_num, by rw [List.length_set]; exact hL, ?_, ht.set k _, ht0.far _ (by simp), hb.setCell (by simp) _⟩, by simp [intOf]; omega⟩
          intro j hj
          by_cases hjk : j = k
          · subst hjk; simp [List.getD, show j < L.length by omega]
          · rw [← hall.out j (by omega)]
            simp only [List.getD]
            rw [List.getElem?_set_ne (fun e => hjk e.symm)]
    · obtain rfl : k = 256 := by omega
      have hLL : L = (List.range 256).map fun i => stepN 8 (BitVec.ofNat 32 i) := by
        apply List.ext_getElem
        · simp [hL]
        · intro i h1 h2
          have := hall.out i (by omega)
          simp only [List.getD, List.getElem?_eq_getElem h1, Option.getD_some] at this
          rw [this]
          simp
      have HLL := Lib.hid hLL
      clear hLL hall
      have hrng : wr.rangeAt (w.heap.size + 1) 0 (cs u32 L) := fun j v hv => by
        rw [Nat.zero_add, cell_of_row _ _ _ _ _ _ ht]
        simpa using hv
      have hL0 : L0.length = 256 := by rw [← HL0.out]; simp
      have hthere : wr.there w.heap.size 0 (cs u32 L).toArray.size := fun j hj => by
        have hj' : j < L0.length := by simp [cs_length, hL] at hj; omega
        obtain ⟨h1, h2⟩ := ht0.cell j hj'
        rw [Nat.zero_add]
        exact ⟨by rw [h1]; rfl, h2⟩
      have hone : (cs u32 L).toArray.all (·.oneCell') = true := all_oneCell_toArray (fun v hv => by
        simp only [cs, List.mem_map] at hv
        obtain ⟨x, _, rfl⟩ := hv
        rfl)
      have hisz : (Try.prog.info? 98).map (·.size) = some (cs u32 L).toArray.size := by
        rw [hi, List.size_toArray, cs_length, hL]
      have hisz' : (Try.prog.info? 98).map (·.size) = some (cs u32 L).length := by rw [hi, cs_length, hL]
      have hb2 : Below w.heap.size w (wr.setCells w.heap.size 0 (cs u32 L)) := below_setCells (Nat.le_refl _) _ _ hb
      have hrng2 : (wr.setCells w.heap.size 0 (cs u32 L)).rangeAt w.heap.size 0 (cs u32 L) := World.rangeAt_setCells_same _ _ _ _ (by simpa using hthere)
      have hload2 := run_loadVar_mid (P := Try.prog) (wr.setCells w.heap.size 0 (cs u32 L)) w.heap.size 0 98 (cs u32 L) (.array 256 97) hrng2 Try.underlying98 rfl (by rw [hi, cs_length, hL])
      clear hrng2 ht ht0 hi hz
      generalize hC : cs u32 L = C at *
      have HC := Lib.hid hC
      clear hC
      go_wp2_with (first
        | (refine wpList_load_mid rfl 98 _ rfl (w.heap.size + 1) 0 rfl C (.array 256 97) hrng Try.underlying98 rfl hisz' ?_)
        | (refine wpList_store_mid rfl 98 _ _ rfl w.heap.size 0 C.toArray rfl rfl hthere hisz hone ?_))
      (try simp only [Exit.inBlock, Exit.then])
      refine bodyPost_ret (v := .agg C.toArray) ?_ rfl ⟨by rw [← HC.out, HLL.out], hb2⟩
      rw [results_cell1 rfl]
      exact hload2
end Go.Proofs.Ytdgjdbpbnipjcaa

namespace Go.Proofs.Ytdgjdbpbnipjcaa
open Go.RowKit
set_option linter.unusedVariables false

theorem idx_arr (a : Addr) (c : UInt8) (w : World) : (Instr.indexAt 98 (.pointer (some a)) (b8 c)).run Try.prog w = .ok (.pointer (some (a.add c.toNat))) w := by
  have h1 : Try.prog.underlying 98 = some (.array (Try.prog.arrayLen 98) (Try.prog.elem 98)) := by kernel_rfl
  have h2 : Try.prog.arrayLen 98 = 256 := by kernel_rfl
  have h3 : (sizeOf (Try.prog.elem 98)).run Try.prog w = .ok 1 w := by kernel_rfl
  have := c.toNat_lt
  unfold b8
  rw [run_indexAt_array _ _ _ _ _ h1, h2, if_pos (by omega), h3]
  simp [Result.andThen]
def crcT : List (BitVec 32) := (List.range 256).map fun i => stepN 8 (BitVec.ofNat 32 i)
theorem crcT_len : crcT.length = 256 := by simp [crcT]
theorem crcT_get (c : UInt8) : crcT.getD c.toNat 0 = stepN 8 (BitVec.ofNat 32 c.toNat) := by
  have := c.toNat_lt
  simp [crcT, List.getD, this]
theorem crc_round (x : BitVec 32) (c : UInt8) : x >>> 8 ^^^ crcT.getD (UInt8.ofNat x.toNat ^^^ c).toNat 0 = crcByte x c := by
  rw [crcT_get]
  apply table_way
  have h1 := (UInt8.ofNat x.toNat ^^^ c).toNat_lt
  apply BitVec.eq_of_toNat_eq
  rw [BitVec.toNat_ofNat, BitVec.toNat_and, BitVec.toNat_xor]
  have h2 : (zx c).toNat = c.toNat := by
    have := c.toNat_lt
    unfold zx
    rw [BitVec.toNat_setWidth]
    show c.toNat % _ = _
    omega
  have h3 : (UInt8.ofNat x.toNat ^^^ c).toNat = (x.toNat % 256) ^^^ c.toNat := by
    rw [UInt8.toNat_xor, UInt8.toNat_ofNat']
  have h4 : (255#32).toNat = 2 ^ 8 - 1 := by decide
  have h5 := c.toNat_lt
  rw [Nat.mod_eq_of_lt (by omega), h2, h3, h4, Nat.and_two_pow_sub_one_eq_mod]
  rw [Nat.xor_mod_two_pow]
  congr 1
  omega

set_option maxRecDepth 100000 in
set_option maxHeartbeats 4000000 in
theorem crcSum_any (bs : List UInt8) (ao : Option Addr) (len cap : Nat) (w : World) (hs : Sl w 1 ao len cap (cs b8 bs)) (hlen : len ≤ 1000000000) :
    Calls Try.prog 32 #[.slice ao len cap] w (RetB (.int .i64 ((crc bs).toNat : Int)) w) := by
  have hcount := hs.count
  have HC := Lib.hid hcount
  clear hcount
  obtain ⟨hz, hi⟩ := zero_of_info info_tab
  have hone : (cs u32 crcT).toArray.all (·.oneCell') = true := all_oneCell_toArray (fun v hv => by
    simp only [cs, List.mem_map] at hv
    obtain ⟨x, _, rfl⟩ := hv
    rfl)
  have hst : ∀ w1 : World, (Instr.storeAt 98 (.pointer (some ⟨w1.heap.size, 0, none⟩)) (.agg (cs u32 crcT).toArray)).run Try.prog (w1.alloc (.cells (Array.replicate 256 (.int .u32 0)) 98)) = .ok () (w1.alloc (.cells (cs u32 crcT).toArray 98)) :=
    fun w1 => run_storeAt_new w1 _ _ _ (by rw [hi]; simp [cs_length, crcT_len]) (by simp [cs_length, crcT_len]) hone
  have htab : ∀ w1 : World, Calls Try.prog 52 #[] w1 (RetB (.agg (cs u32 crcT).toArray) w1) := fun w1 => table_any w1
  clear hi hone
  obtain ⟨T0, hT0⟩ : ∃ T0, T0 = (cs u32 crcT).toArray := ⟨_, rfl⟩
  rw [← hT0] at hst htab
  have HT0 := Lib.hid hT0
  clear hT0
  generalize Array.replicate 256 (Value.int .u32 0) = Z0 at hz hst
  go_enter Try.func32, Try.ntmps32
  go_wp2_with (first
    | (go_at_call 52; refine (htab _).mono ?_; rintro e w1 ⟨rfl, hb1⟩)
    | (refine wpList_store_run rfl 98 _ _ rfl _ _ rfl rfl (hst _) ?_))
  go_loopw [4, 10] (fun x i wr => ∃ (k : Nat) (z : BitVec 32), k ≤ len ∧ i = .int .i64 k ∧ x = u32 z ∧ Hid (crcSt z (bs.drop k) = crcSt 4294967295#32 bs) ∧ wr.heap[w1.heap.size]? = some (.cells T0 98) ∧ Below w.heap.size w wr) (fun _ i _ => len - (intOf i).toNat)
  case atStart => exact ⟨0, _, by omega, rfl, rfl, rfl, hp_new rfl, below_step hb1 (below_alloc _ _)⟩
  case round =>
    obtain ⟨k, z, hk, rfl, rfl, hle, hT, hb⟩ := hrel
    by_cases hkl : k < len
    · obtain ⟨b, off, e0, hcell⟩ := (hs.ext hb).at_ k hkl 0
      subst e0
      have hd : bs.drop k = bs.getD k 0 :: bs.drop (k + 1) := by
        have := HC.out
        rw [List.drop_eq_getElem_cons (by omega)]; simp [List.getD, show k < bs.length by omega]
      have hl := hle.out
      rw [hd, crcSt_cons] at hl
      generalize bs.getD k 0 = c at *
      rw [← crc_round] at hl
      have HL := Lib.hid hl
      clear hd hl hle
      have hTab : Tab wr w1.heap.size crcT := by unfold Tab; rw [hT, HT0.out]
      obtain ⟨hc2, _⟩ := hTab.cell (UInt8.ofNat z.toNat ^^^ c).toNat (by rw [crcT_len]; exact (UInt8.ofNat z.toNat ^^^ c).toNat_lt)
      clear hTab
      generalize crcT.getD (UInt8.ofNat z.toNat ^^^ c).toNat 0 = y at *
      have hix := fun (a : Addr) (w : World) => idx_arr a (UInt8.ofNat z.toNat ^^^ c) w
      generalize (UInt8.ofNat z.toNat ^^^ c).toNat = q at hix hc2
      go_wp2
      go_roundw
      case rel => exact ⟨k + 1, _, by omega, by go_num, rfl, HL, hT, hb⟩
      case measure => simp [intOf]; omega
    · have hl := hle.out
      rw [List.drop_of_length_le (by have := HC.out; omega), crcSt_nil] at hl
      go_wp2
      go_ret
      exact ⟨congrArg (fun n : Nat => Ending.returned (.int .i64 (n : Int))) (by unfold crc; rw [← hl, BitVec.toNat_not]), hb⟩

end Go.Proofs.Ytdgjdbpbnipjcaa

namespace Go.Proofs.Ytdgjdbpbnipjcaa
open Go.RowKit
set_option linter.unusedVariables false

theorem nil_eq (ao : Option Addr) (n c : Nat) (w : World) : (binOp .eql 30 (.slice ao n c) (.slice none 0 0)).run Try.prog w = .ok (.bool ao.isNone) w :=
  Lib.run_eql_slice_nil w _ _ _ _ _ _ _ Try.underlying30
theorem own_lit4 {w w0 : World} (hb : Below w0.heap.size w0 w) (a b c d : UInt8) (e : TypeId) : (w.alloc (.cells #[b8 a, b8 b, b8 c, b8 d] e)).ownsRow w0.heap.size e 1 (.slice (some ⟨w.heap.size, 0, none⟩) 4 4) 4 (cs b8 [a, b, c, d]) :=
  World.ownsRow_lit w _ 4 hb.size (by unfold maxLen; omega) rfl

set_option maxRecDepth 100000 in
set_option maxHeartbeats 1000000 in
theorem tail_any (bs : List UInt8) (ao : Option Addr) (len cap : Nat) (w : World) (hs : Sl w 1 ao len cap (cs b8 bs)) (hlen : len ≤ 1000000000) :
    Calls Try.prog 22 #[.slice ao len cap] w (RetOwn w 5 4 (cs b8 (tail4 (crc bs)))) := by
  obtain ⟨x, hx⟩ : ∃ x, x = crc bs := ⟨_, rfl⟩
  have hsum := crcSum_any bs ao len cap w hs hlen
  rw [← hx] at hsum ⊢
  clear hx hs
  have hxl := x.isLt
  generalize hn : x.toNat = n at hsum hxl
  have HN := Lib.hid hn
  clear hn
  go_enter Try.func22, Try.ntmps22
  go_wp2_with (go_at_call 32; refine hsum.mono ?_; rintro e w1 ⟨rfl, hb1⟩)
  go_ret
  refine ⟨_, rfl, ?_, below_step hb1 (below_alloc _ _)⟩
  unfold tail4
  rw [HN.out]
  exact own_lit4 hb1 _ _ _ _ _

set_option maxRecDepth 100000 in
set_option maxHeartbeats 1000000 in
theorem equal_any (xs ys : List UInt8) (ao bo : Option Addr) (la ca lb cb : Nat) (w : World) (ha : Sl w 1 ao la ca (cs b8 xs)) (hb : Sl w 1 bo lb cb (cs b8 ys)) :
    Calls Try.prog 24 #[.slice ao la ca, .slice bo lb cb] w (RetB (.bool (decide (xs = ys))) w) := by
  go_enter Try.func24, Try.ntmps24
  go_wp2_with (first
    | (with_reducible refine wpList_b2s (o := ⟨some 6, _, _, _, _, _⟩) _ rfl 30 9 5 _ rfl Try.underlying30 Try.underlying9 Try.underlying5 ha rfl ?_)
    | (with_reducible refine wpList_b2s (o := ⟨some 8, _, _, _, _, _⟩) _ rfl 30 9 5 _ rfl Try.underlying30 Try.underlying9 Try.underlying5 hb rfl ?_))
  go_ret
  exact ⟨congrArg (fun b => Ending.returned (.bool b)) (by rw [Bool.eq_iff_iff]; simp), Below.refl _ _⟩

set_option maxRecDepth 100000 in
set_option maxHeartbeats 1000000 in
theorem clone_any (xs : List UInt8) (ao : Option Addr) (la ca : Nat) (w : World) (ha : Sl w 1 ao la ca (cs b8 xs)) (hla : la ≤ 1000000000000) :
    Calls Try.prog 25 #[.slice ao la ca] w (RetOwn w 5 la (cs b8 xs)) := by
  cases ao with
  | none =>
    have h0 := ha.hbare rfl
    have hle := ha.hle
    have hc := ha.count
    obtain rfl : la = 0 := by omega
    have hx : xs = [] := List.eq_nil_of_length_eq_zero hc
    subst hx
    subst h0
    have hnil : ∀ w : World, (binOp .eql 30 (.slice none 0 0) (.slice none 0 0)).run Try.prog w = .ok (.bool true) w := nil_eq _ _ _
    clear ha hle
    go_enter Try.func25, Try.ntmps25
    go_wp2
    go_ret
    exact ⟨_, rfl, World.ownsRow_nil _ _ _ _, Below.refl _ _⟩
  | some a =>
    have hnil : ∀ w : World, (binOp .eql 30 (.slice (some a) la ca) (.slice none 0 0)).run Try.prog w = .ok (.bool false) w := nil_eq _ _ _
    go_enter Try.func25, Try.ntmps25
    go_wp2_with (at_builtin; refine wpList_append_many b8 (fun _ => rfl) _ rfl _ _ 30 rfl w.heap.size 5 (.int .u8 0) 1 Try.underlying30 Try.infoU8 rfl (v := .slice (some ⟨w.heap.size, 0, none⟩) 0 0) (n := 0) (xs := []) (World.ownsRow_lit w #[] 0 (Nat.le_refl _) (by decide) rfl) rfl (ha.ext (below_alloc _ _)) rfl (by unfold maxLen; omega) (by omega) (by simp) ?_)
    intro v1 w1 ho1 hb1
    go_wp2
    go_ret
    refine ⟨v1, rfl, ?_, (below_alloc _ _).trans hb1⟩
    simpa using ho1
end Go.Proofs.Ytdgjdbpbnipjcaa

namespace Go.Proofs.Ytdgjdbpbnipjcaa
open Go.RowKit
set_option linter.unusedVariables false

/-- The frame of bs. -/
def frameB (bs : List UInt8) : List UInt8 := putInt bs.length ++ bs ++ tail4 (crc bs)
/-- A slice of its own, and an error. -/
def RetOwnE (w : World) (t : TypeId) (n : Nat) (xs : List Value) (er : Int) (e : Ending) (w' : World) : Prop :=
  ∃ v, e = .returned (.tuple #[v, .int .i64 er]) ∧ w'.ownsRow w.heap.size t 1 v n xs ∧ Below w.heap.size w w'

set_option maxRecDepth 100000 in
set_option maxHeartbeats 1000000 in
theorem seal_any (bs : List UInt8) (ao : Option Addr) (len cap : Nat) (w : World) (hs : Sl w 1 ao len cap (cs b8 bs)) (hlen : len ≤ 65536) :
    Calls Try.prog 15 #[.slice ao len cap] w (RetOwnE w 5 (frameB bs).length (cs b8 (frameB bs)) 0) := by
  have hpl := putInt_length len
  have hc := hs.count
  have hF : frameB bs = putInt len ++ bs ++ tail4 (crc bs) := by unfold frameB; rw [hc]
  have hFl : (frameB bs).length = (putInt len).length + len + 4 := by rw [hF]; simp [tail4_len, hc]; omega
  have HF := Lib.hid hF
  have HFL := Lib.hid hFl
  clear hF hFl hc
  have h : ¬ (65536 : Int) < (len : Int) := by omega
  go_enter Try.func15, Try.ntmps15
  go_wp2_with fail
  refine (putInt_any [] (len : Int) none 0 0 _ (Sl.nil _ _) (by omega) (by omega) (by omega)).mono ?_
  rintro e w1 ⟨v1, rfl, ho1, hb1⟩
  rw [List.nil_append, Nat.zero_add] at ho1
  generalize putInt (len : Int) = P at *
  have z1 := hb1.size
  go_wp2_with (at_builtin; refine wpList_append_many b8 (fun _ => rfl) _ rfl _ _ 30 rfl w.heap.size 5 (.int .u8 0) 1 Try.underlying30 Try.infoU8 rfl ho1 rfl (hs.ext hb1) rfl (by unfold maxLen; omega) (by omega) (by omega) ?_)
  intro v2 w2 ho2 hb2
  have hb12 := hb1.trans hb2
  have z2 := hb12.size
  go_wp2_with fail
  refine (tail_any bs ao len cap _ (hs.ext hb12) (by omega)).mono ?_
  rintro e w3 ⟨v3, rfl, ho3, hb3⟩
  have ho2' := ownsRow_ext ho2 hb3
  have hb13 := hb12.trans (hb3.mono z2)
  have z3 := hb13.size
  obtain ⟨a3, c3, rfl, hs3⟩ := sl_of_own ho3
  go_wp2_with (at_builtin; refine wpList_append_many b8 (fun _ => rfl) _ rfl _ _ 30 rfl w.heap.size 5 (.int .u8 0) 1 Try.underlying30 Try.infoU8 rfl ho2' rfl hs3 rfl (by unfold maxLen; omega) (by omega) (by omega) ?_)
  intro v4 w4 ho4 hb4
  go_wp2
  go_ret2
  exact ⟨v4, rfl, by rw [HFL.out, HF.out, List.append_assoc]; exact ho4, hb13.trans hb4⟩

end Go.Proofs.Ytdgjdbpbnipjcaa
