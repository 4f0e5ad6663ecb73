/-
  TOKENS, THE WALKS: read.
-/
import Derived.Test.YtomilmaeiokaaaaProg
import Derived.Test.YtomilmaeiokaaaaBase15
import Derived.Test.YtomilmaeiokaaaaMacP
import Derived.Test.YtomilmaeiokaaaaTokP
import Derived.Test.YtomilmaeiokaaaaTkP
import Derived.Test.YtomilmaeiokaaaaTok1
import Derived.Test.YtomilmaeiokaaaaTok2
import Derived.Test.YtomilmaeiokaaaaWire1
import Derived.Test.YtomilmaeiokaaaaWire2
import Derived.Test.YtomilmaeiokaaaaWire5
import Derived.Test.YtomilmaeiokaaaaWire6
import Derived.Test.YtomilmaeiokaaaaWireP3
import Derived.Test.YtomilmaeiokaaaaTkE
import Derived.Test.YtomilmaeiokaaaaTkT
import Derived.Test.YtomilmaeiokaaaaTkV
import Derived.Test.YtomilmaeiokaaaaHeld
import Derived.BigQuiet
import Derived.Laws.StructEq
import Derived.StillTailTactics
import Derived.RegionTactic
import Derived.BigRegion
import Derived.Deep.DeepCutAuto
import Derived.Deep.QuietTactic
import Derived.WalkSpells
import Derived.WalkLawsBesides
namespace Go.Proofs.Ytomilmaeiokaaaa
open Go.RowKit
set_option linter.unusedVariables false

/-- The numbers that were read, and where the next one lies. -/
def rdS (bs : List UInt8) : Nat → Option (List Int × Int)
  | 0 => some ([], 0)
  | k + 1 => match rdS bs k with
    | none => none
    | some s => if (intRes bs s.2).2.2 = 0 then some (s.1 ++ [(intRes bs s.2).1], (intRes bs s.2).2.1) else none
theorem rdS_some {bs : List UInt8} {k : Nat} {l : List Int} {at_ n nx : Int} (h : rdS bs k = some (l, at_)) (hr : intRes bs at_ = (n, nx, 0)) : rdS bs (k + 1) = some (l ++ [n], nx) := by
  unfold rdS
  rw [h]
  dsimp only
  rw [hr, if_pos rfl]
theorem rdS_none {bs : List UInt8} {k : Nat} {l : List Int} {at_ n nx er : Int} (h : rdS bs k = some (l, at_)) (hr : intRes bs at_ = (n, nx, er)) (he : er ≠ 0) : rdS bs (k + 1) = none := by
  unfold rdS
  rw [h]
  dsimp only
  rw [hr, if_neg he]
theorem rdS_mono {bs : List UInt8} : ∀ (k m : Nat), rdS bs k = none → k ≤ m → rdS bs m = none := by
  intro k m h hm
  induction hm with
  | refl => exact h
  | step _ ih => unfold rdS; rw [ih]
theorem rdS_len {bs : List UInt8} : ∀ (k : Nat) {l : List Int} {at_ : Int}, rdS bs k = some (l, at_) → l.length = k ∧ 0 ≤ at_ ∧ at_ ≤ bs.length ∧ ∀ x ∈ l, -9223372036854775808 ≤ x ∧ x ≤ 9223372036854775807
  | 0, l, at_, h => by
    simp [rdS] at h
    obtain ⟨rfl, rfl⟩ := h
    exact ⟨rfl, by omega, by omega, fun x hx => by cases hx⟩
  | k + 1, l, at_, h => by
    unfold rdS at h
    cases hk : rdS bs k with
    | none => rw [hk] at h; cases h
    | some s =>
      rw [hk] at h
      dsimp only at h
      obtain ⟨l0, a0⟩ := s
      obtain ⟨i1, i2, i3, i4⟩ := rdS_len k hk
      obtain ⟨⟨n, nx, er⟩, hr⟩ : ∃ r, intRes bs a0 = r := ⟨_, rfl⟩
      rw [hr] at h
      dsimp only at h
      by_cases he : er = 0
      · rw [if_pos he] at h
        simp only [Option.some.injEq, Prod.mk.injEq] at h
        obtain ⟨rfl, rfl⟩ := h
        subst he
        obtain ⟨_, hnb, hnx, _⟩ := intRes_props hr
        have hnx := hnx rfl
        refine ⟨by simp [i1], by omega, by omega, fun x hx => ?_⟩
        rcases List.mem_append.1 hx with hx | hx
        · exact i4 x hx
        · simp only [List.mem_singleton] at hx
          subst hx
          exact hnb
      · rw [if_neg he] at h; cases h
/-- The tag of eight bytes. -/
def tagR (cs : List UInt8) : BitVec 64 := cs.foldl (fun t c => (t <<< (8 : Int).toNat) ||| c.toBitVec.setWidth 64) 0
theorem tagR_snoc (cs : List UInt8) (k : Nat) (hk : k < cs.length) : tagR (cs.take (k + 1)) = (tagR (cs.take k) <<< (8 : Int).toNat) ||| (cs.getD k 0).toBitVec.setWidth 64 := by
  rw [List.take_add_one, List.getElem?_eq_getElem hk]
  unfold tagR
  rw [List.foldl_append]
  simp [List.getD, hk]
/-- The array of the numbers, as far as it is filled. -/
def arr6 (l : List Int) : Array Value := ((l ++ List.replicate (6 - l.length) 0).map (Value.int .i64)).toArray
theorem arr6_zero : arr6 [] = #[.int .i64 0, .int .i64 0, .int .i64 0, .int .i64 0, .int .i64 0, .int .i64 0] := by simp [arr6]
theorem arr6_set (l : List Int) (n : Int) (h : l.length < 6) : (arr6 l).setIfInBounds l.length (.int .i64 n) = arr6 (l ++ [n]) := by
  match l, h with
  | [], _ => rfl
  | [a], _ => rfl
  | [a, b], _ => rfl
  | [a, b, c], _ => rfl
  | [a, b, c, d], _ => rfl
  | [a, b, c, d, e], _ => rfl
theorem arr6_at (l : List Int) (k : Nat) (h : l.length = k) (hk : k < 6) : (arr6 l)[k]? = some (.int .i64 0) := by
  subst h
  match l, hk with
  | [], _ => rfl
  | [a], _ => rfl
  | [a, b], _ => rfl
  | [a, b, c], _ => rfl
  | [a, b, c, d], _ => rfl
  | [a, b, c, d, e], _ => rfl
/-- The blocks of read: the result, the array. -/
structure RdW (w : World) (A : Array Value) (W : World) : Prop where
  r : BlkAt W w.heap.size #[.int .i64 0, .int .i64 0, .int .i64 0, .int .i64 0, .int .i64 0, .int .i64 0, .int .u64 0]
  a : BlkAt W (w.heap.size + 1) A
  lo : Below w.heap.size w W
theorem rd_mk0 (w : World) (E F : TypeId) : RdW w #[.int .i64 0, .int .i64 0, .int .i64 0, .int .i64 0, .int .i64 0, .int .i64 0] ((w.alloc (.cells #[.int .i64 0, .int .i64 0, .int .i64 0, .int .i64 0, .int .i64 0, .int .i64 0, .int .u64 0] E)).alloc (.cells #[.int .i64 0, .int .i64 0, .int .i64 0, .int .i64 0, .int .i64 0, .int .i64 0] F)) := ⟨blkOld (blkNew rfl), blkNew (by simp), below_step (below_alloc _ _) (below_alloc _ _)⟩
theorem rd_set {w W : World} {A : Array Value} (h : RdW w A W) (k : Nat) (v : Value) : RdW w (A.setIfInBounds k v) (W.setCell ⟨w.heap.size + 1, k, none⟩ v) :=
  ⟨blkX_other h.r (by simp), blkX_set h.a, h.lo.setCell (p := ⟨w.heap.size + 1, k, none⟩) (by simp) v⟩
theorem arr_idx (b k : Nat) (hk : k < 6) (w : World) : (Instr.indexAt 86 (.pointer (some ⟨b, 0, none⟩)) (.int .i64 (k : Int))).run Try.prog w = .ok (.pointer (some ⟨b, k, none⟩)) w := by
  have h1 : Try.prog.underlying 86 = some (.array (Try.prog.arrayLen 86) (Try.prog.elem 86)) := by kernel_rfl
  have h2 : Try.prog.arrayLen 86 = 6 := by kernel_rfl
  have h3 : (sizeOf (Try.prog.elem 86)).run Try.prog w = .ok 1 w := by kernel_rfl
  rw [run_indexAt_array _ _ _ _ _ h1, h2, if_pos (by omega), h3]
  simp [Result.andThen, Addr.add]
  exact fun h => h.symm
theorem six_cells9 {W : World} {k : Nat} {x0 x1 x2 x3 x4 x5 : Value} (h : BlkAt W k #[x0, x1, x2, x3, x4, x5]) : W.cell? ⟨k, 0, none⟩ = some x0 ∧ W.cell? ⟨k, 1, none⟩ = some x1 ∧ W.cell? ⟨k, 2, none⟩ = some x2 ∧ W.cell? ⟨k, 3, none⟩ = some x3 ∧ W.cell? ⟨k, 4, none⟩ = some x4 ∧ W.cell? ⟨k, 5, none⟩ = some x5 := by
  obtain ⟨E, h⟩ := h
  refine ⟨?_, ?_, ?_, ?_, ?_, ?_⟩ <;> rw [cell_of_row _ _ _ _ _ _ h] <;> rfl
theorem blk_lt9 {W : World} {k : Nat} {C : Array Value} (h : BlkAt W k C) : k < W.heap.size := h.elim fun E h => (Array.getElem?_eq_some_iff.1 h).1
/-- .. behind the numbers: the result, the token. -/
structure RdT (w : World) (tb : Nat) (T : Array Value) (W : World) : Prop where
  r : BlkAt W w.heap.size #[.int .i64 0, .int .i64 0, .int .i64 0, .int .i64 0, .int .i64 0, .int .i64 0, .int .u64 0]
  t : BlkAt W tb T
  lo : Below w.heap.size w W
  ht : w.heap.size < tb
theorem rt_set {w W : World} {tb : Nat} {T : Array Value} (h : RdT w tb T W) (k : Nat) (v : Value) : RdT w tb (T.setIfInBounds k v) (W.setCell ⟨tb, k, none⟩ v) :=
  ⟨blkX_other h.r (by have := h.ht; show w.heap.size ≠ tb; omega), blkX_set h.t, h.lo.setCell (p := ⟨tb, k, none⟩) (by have := h.ht; show w.heap.size ≤ tb; omega) v, h.ht⟩
theorem belowR0 {w W : World} {x0 x1 x2 x3 x4 x5 x6 : Value} (h : Below w.heap.size w W) : Below w.heap.size w (((((((W.setCell ⟨w.heap.size, 0, none⟩ x0).setCell ⟨w.heap.size, 1, none⟩ x1).setCell ⟨w.heap.size, 2, none⟩ x2).setCell ⟨w.heap.size, 3, none⟩ x3).setCell ⟨w.heap.size, 4, none⟩ x4).setCell ⟨w.heap.size, 5, none⟩ x5).setCell ⟨w.heap.size, 6, none⟩ x6) :=
  ((((((h.setCell (by simp) _).setCell (by simp) _).setCell (by simp) _).setCell (by simp) _).setCell (by simp) _).setCell (by simp) _).setCell (by simp) _
set_option maxRecDepth 100000 in
set_option maxHeartbeats 1000000 in
theorem read_ok (bs : List UInt8) (l1 l2 l3 l4 l5 l6 : Int) (at_ : Nat) (ao : Option Addr) (len cap : Nat) (w : World) (hs : Sl w 1 ao len cap (cs b8 bs)) (hlen : len ≤ 1000) (hrd : rdS bs 6 = some ([l1, l2, l3, l4, l5, l6], (at_ : Int))) (h8 : len = at_ + 8) :
    Calls Try.prog 50 #[.slice ao len cap] w (RetB (.agg #[.int .i64 l1, .int .i64 l2, .int .i64 l3, .int .i64 l4, .int .i64 l5, .int .i64 l6, Ytomilmaeiokaaaa.u64 (tagR (bs.drop at_))]) w) := by
  have HS := Lib.hid hs
  have HRD := Lib.hid hrd
  have HQ := Lib.hid (rd_mk0 w 36 86)
  have hbl := hs.count
  have HBL := Lib.hid hbl
  have H8 := Lib.hid h8
  have hat0 : (at_ : Int) ≤ 1000 := by omega
  clear hs hrd hbl h8
  go_enter Try.func50, Try.ntmps50
  go_upto_region 4 with (fail)
  generalize (w.alloc (.cells #[.int .i64 0, .int .i64 0, .int .i64 0, .int .i64 0, .int .i64 0, .int .i64 0, .int .u64 0] 36)).alloc (.cells #[.int .i64 0, .int .i64 0, .int .i64 0, .int .i64 0, .int .i64 0, .int .i64 0] 86) = W0 at *
  go_loopw [4, 5, 6, 7, 8, 12] (fun av _ _ _ _ i wr => ∃ (k : Nat) (l0 : List Int) (a0 : Int), k ≤ 6 ∧ i = .int .i64 k ∧ av = .int .i64 a0 ∧ Hid (rdS bs k = some (l0, a0)) ∧ Hid (RdW w (arr6 l0) wr)) (fun _ _ _ _ _ i _ => 6 - (intOf i).toNat)
  case atStart => exact ⟨0, [], 0, by omega, rfl, rfl, rfl, HQ.out⟩
  case round =>
    obtain ⟨k, l0, a0, hk, rfl, rfl, HK, HR⟩ := hrel
    clear HQ
    by_cases hk6 : k < 6
    · have hk6' : (k : Int) < 6 := by omega
      have hk0 : (0 : Int) ≤ (k : Int) := by omega
      obtain ⟨⟨n, nx, er⟩, hr⟩ : ∃ r, intRes bs a0 = r := ⟨_, rfl⟩
      have her : er = 0 := by
        by_cases he : er = 0
        · exact he
        · have h1 := rdS_none HK.out hr he
          have h2 := rdS_mono (k + 1) 6 h1 (by omega)
          rw [HRD.out] at h2
          cases h2
      subst her
      have hl0 := (rdS_len k HK.out).1
      have HNX := Lib.hid (rdS_some HK.out hr)
      have HR0 := Lib.hid hr
      have HL0 := Lib.hid hl0
      have hidx := arr_idx (w.heap.size + 1) k hk6
      have hcell : wr.cell? ⟨w.heap.size + 1, k, none⟩ = some (.int .i64 0) := HR.out.a.elim fun E hE => by rw [cell_of_row _ _ _ _ _ _ hE]; exact arr6_at l0 k hl0 hk6
      have hfz := blkX_frozen (i := k) HR.out.a
      clear hr hl0 HK
      go_wp2_with fail
      refine (int_val (HS.out.ext HR.out.lo) (by omega) HR0).mono ?_
      rintro e w1 ⟨rfl, hw⟩
      subst w1
      have HSET : Hid (RdW w (arr6 (l0 ++ [n])) (wr.setCell ⟨w.heap.size + 1, k, none⟩ (.int .i64 n))) := by
        have h1 := rd_set HR.out k (.int .i64 n)
        have h2 := arr6_set l0 n (by rw [HL0.out]; exact hk6)
        rw [HL0.out] at h2
        rw [h2] at h1
        exact h1
      go_wp2
      go_roundw
      case rel => exact ⟨k + 1, l0 ++ [n], nx, by omega, by go_num, rfl, HNX, HSET⟩
      case measure => simp [intOf]; omega
    · have hk6' : ¬ (k : Int) < 6 := by omega
      have hk6e : k = 6 := by omega
      have hkk := HK.out
      rw [hk6e, HRD.out] at hkk
      simp only [Option.some.injEq, Prod.mk.injEq] at hkk
      obtain ⟨e1, e2⟩ := hkk
      subst e1
      have ha := HR.out.a
      have ha' : BlkAt wr (w.heap.size + 1) #[.int .i64 l1, .int .i64 l2, .int .i64 l3, .int .i64 l4, .int .i64 l5, .int .i64 l6] := ha
      obtain ⟨q0, q1, q2, q3, q4, q5⟩ := six_cells9 ha'
      have i0 : ∀ w', (Instr.indexAt 86 (.pointer (some ⟨w.heap.size + 1, 0, none⟩)) (.int .i64 0)).run Try.prog w' = .ok (.pointer (some ⟨w.heap.size + 1, 0, none⟩)) w' := fun w' => arr_idx _ 0 (by omega) w'
      have i1 : ∀ w', (Instr.indexAt 86 (.pointer (some ⟨w.heap.size + 1, 0, none⟩)) (.int .i64 1)).run Try.prog w' = .ok (.pointer (some ⟨w.heap.size + 1, 1, none⟩)) w' := fun w' => arr_idx _ 1 (by omega) w'
      have i2 : ∀ w', (Instr.indexAt 86 (.pointer (some ⟨w.heap.size + 1, 0, none⟩)) (.int .i64 2)).run Try.prog w' = .ok (.pointer (some ⟨w.heap.size + 1, 2, none⟩)) w' := fun w' => arr_idx _ 2 (by omega) w'
      have i3 : ∀ w', (Instr.indexAt 86 (.pointer (some ⟨w.heap.size + 1, 0, none⟩)) (.int .i64 3)).run Try.prog w' = .ok (.pointer (some ⟨w.heap.size + 1, 3, none⟩)) w' := fun w' => arr_idx _ 3 (by omega) w'
      have i4 : ∀ w', (Instr.indexAt 86 (.pointer (some ⟨w.heap.size + 1, 0, none⟩)) (.int .i64 4)).run Try.prog w' = .ok (.pointer (some ⟨w.heap.size + 1, 4, none⟩)) w' := fun w' => arr_idx _ 4 (by omega) w'
      have i5 : ∀ w', (Instr.indexAt 86 (.pointer (some ⟨w.heap.size + 1, 0, none⟩)) (.int .i64 5)).run Try.prog w' = .ok (.pointer (some ⟨w.heap.size + 1, 5, none⟩)) w' := fun w' => arr_idx _ 5 (by omega) w'
      have hl8 : (len : Int) - a0 = 8 := by have := H8.out; rw [← e2]; omega
      obtain ⟨ao', hslc, hsl'⟩ := slice_from (P := Try.prog) 22 5 Try.underlying22 Try.sizeU8 HS.out at_ (by have := H8.out; omega)
      rw [show len - at_ = 8 from by have := H8.out; omega, e2] at hslc
      rw [show len - at_ = 8 from by have := H8.out; omega] at hsl'
      have HSL := Lib.hid hsl'
      obtain ⟨ds, hds⟩ : ∃ ds, bs.drop at_ = ds := ⟨_, rfl⟩
      rw [hds] at hsl'
      have HDD := Lib.hid hds
      have hdl := hsl'.count
      have HDS := Lib.hid hsl'
      have HDL := Lib.hid hdl
      have hlt := blk_lt9 HR.out.r
      clear hsl' hds hdl ha HSL
      go_upto_region 14 with (fail)
      have HT : Hid (RdT w wr.heap.size #[.int .i64 l1, .int .i64 l2, .int .i64 l3, .int .i64 l4, .int .i64 l5, .int .i64 l6, Ytomilmaeiokaaaa.u64 (tagR (ds.take 0))] (wr.alloc (.cells #[.int .i64 l1, .int .i64 l2, .int .i64 l3, .int .i64 l4, .int .i64 l5, .int .i64 l6, .int .u64 0] 36))) := ⟨blkOld HR.out.r, blkNew rfl, below_step HR.out.lo (below_alloc _ _), hlt⟩
      generalize wr.alloc (.cells #[.int .i64 l1, .int .i64 l2, .int .i64 l3, .int .i64 l4, .int .i64 l5, .int .i64 l6, .int .u64 0] 36) = W5 at *
      generalize wr.heap.size = tb at *
      clear q0 q1 q2 q3 q4 q5 i0 i1 i2 i3 i4 i5 ha' HR
      go_upto_region 15 with (fail)
      clear hslc hl8
      go_loopw [11, 56] (fun _ i wx => ∃ j : Nat, j ≤ 8 ∧ i = .int .i64 j ∧ Hid (RdT w tb #[.int .i64 l1, .int .i64 l2, .int .i64 l3, .int .i64 l4, .int .i64 l5, .int .i64 l6, Ytomilmaeiokaaaa.u64 (tagR (ds.take j))] wx)) (fun _ i _ => 8 - (intOf i).toNat)
      case atStart => exact ⟨0, by omega, rfl, HT⟩
      case round =>
        obtain ⟨j, hj, rfl, HT1⟩ := hrel
        clear HT
        obtain ⟨t0, t1, t2, t3, t4, t5, t6⟩ := tok_cells (w := w) (E := 0) HT1.out.t
        by_cases hj8 : j < 8
        · have hj8' : (j : Int) < 8 := by omega
          have hj0 : (0 : Int) ≤ (j : Int) := by omega
          obtain ⟨b1, o1, e1, hc1⟩ := (HDS.out.ext HT1.out.lo).at_ j hj8 0
          subst e1
          have htg := tagR_snoc ds j (by rw [HDL.out]; exact hj8)
          have HTG := Lib.hid htg
          clear htg
          generalize ds.getD j 0 = c at *
          have hf6 := blkX_frozen (i := 6) HT1.out.t
          have HT2 := Lib.hid (rt_set HT1.out 6 (Ytomilmaeiokaaaa.u64 ((tagR (ds.take j) <<< (8 : Int).toNat) ||| c.toBitVec.setWidth 64)))
          generalize tagR (ds.take j) = tg at *
          go_wp2
          go_roundw
          case rel => exact ⟨j + 1, by omega, by go_num, by rw [HTG.out]; exact HT2⟩
          case measure => simp [intOf]; omega
        · have hj8' : ¬ (j : Int) < 8 := by omega
          have htk : ds.take j = ds := List.take_of_length_le (by rw [HDL.out]; omega)
          rw [htk] at t6
          obtain ⟨z0, z1, z2, z3, z4, z5, z6⟩ := tok_cells (w := w) (E := 0) HT1.out.r
          have e0 := blkX_frozen (i := 0) HT1.out.r
          have e1' := blkX_frozen (i := 1) HT1.out.r
          have e2' := blkX_frozen (i := 2) HT1.out.r
          have e3 := blkX_frozen (i := 3) HT1.out.r
          have e4 := blkX_frozen (i := 4) HT1.out.r
          have e5 := blkX_frozen (i := 5) HT1.out.r
          have e6 := blkX_frozen (i := 6) HT1.out.r
          clear htk
          go_wp2
          refine bodyPost_ret (v := .agg #[.int .i64 l1, .int .i64 l2, .int .i64 l3, .int .i64 l4, .int .i64 l5, .int .i64 l6, Ytomilmaeiokaaaa.u64 (tagR ds)]) ?_ rfl ⟨by rw [HDD.out], ?_⟩
          · rw [results_cell1 rfl]
            go_simp
          · exact belowR0 HT1.out.lo
set_option maxRecDepth 100000 in
set_option maxHeartbeats 1000000 in
theorem read_bad (bs : List UInt8) (ao : Option Addr) (len cap : Nat) (w : World) (hs : Sl w 1 ao len cap (cs b8 bs)) (hlen : len ≤ 1000) (hbad : ∀ l at_, rdS bs 6 = some (l, at_) → ¬ (len : Int) - at_ = 8) :
    Calls Try.prog 50 #[.slice ao len cap] w (fun e w' => e = .panicked badPanic ∧ Below w.heap.size w w') := by
  have HS := Lib.hid hs
  have HBAD := Lib.hid hbad
  have HQ := Lib.hid (rd_mk0 w 36 86)
  have hbl := hs.count
  have HBL := Lib.hid hbl
  clear hs hbl hbad
  go_enter Try.func50, Try.ntmps50
  go_upto_region 4 with (fail)
  generalize (w.alloc (.cells #[.int .i64 0, .int .i64 0, .int .i64 0, .int .i64 0, .int .i64 0, .int .i64 0, .int .u64 0] 36)).alloc (.cells #[.int .i64 0, .int .i64 0, .int .i64 0, .int .i64 0, .int .i64 0, .int .i64 0] 86) = W0 at *
  go_loopw [4, 5, 6, 7, 8, 12] (fun av _ _ _ _ i wr => ∃ (k : Nat) (l0 : List Int) (a0 : Int), k ≤ 6 ∧ i = .int .i64 k ∧ av = .int .i64 a0 ∧ Hid (rdS bs k = some (l0, a0)) ∧ Hid (RdW w (arr6 l0) wr)) (fun _ _ _ _ _ i _ => 6 - (intOf i).toNat)
  case atStart => exact ⟨0, [], 0, by omega, rfl, rfl, rfl, HQ.out⟩
  case round =>
    obtain ⟨k, l0, a0, hk, rfl, rfl, HK, HR⟩ := hrel
    clear HQ
    by_cases hk6 : k < 6
    · have hk6' : (k : Int) < 6 := by omega
      have hk0 : (0 : Int) ≤ (k : Int) := by omega
      obtain ⟨⟨n, nx, er⟩, hr⟩ : ∃ r, intRes bs a0 = r := ⟨_, rfl⟩
      have HR0 := Lib.hid hr
      have hl0 := (rdS_len k HK.out).1
      by_cases her : er = 0
      · subst her
        have HNX := Lib.hid (rdS_some HK.out hr)
        have HL0 := Lib.hid hl0
        have hidx := arr_idx (w.heap.size + 1) k hk6
        have hcell : wr.cell? ⟨w.heap.size + 1, k, none⟩ = some (.int .i64 0) := HR.out.a.elim fun E hE => by rw [cell_of_row _ _ _ _ _ _ hE]; exact arr6_at l0 k hl0 hk6
        have hfz := blkX_frozen (i := k) HR.out.a
        clear hr hl0 HK
        go_wp2_with fail
        refine (int_val (HS.out.ext HR.out.lo) (by omega) HR0).mono ?_
        rintro e w1 ⟨rfl, hw⟩
        subst w1
        have HSET : Hid (RdW w (arr6 (l0 ++ [n])) (wr.setCell ⟨w.heap.size + 1, k, none⟩ (.int .i64 n))) := by
          have h1 := rd_set HR.out k (.int .i64 n)
          have h2 := arr6_set l0 n (by rw [HL0.out]; exact hk6)
          rw [HL0.out] at h2
          rw [h2] at h1
          exact h1
        go_wp2
        go_roundw
        case rel => exact ⟨k + 1, l0 ++ [n], nx, by omega, by go_num, rfl, HNX, HSET⟩
        case measure => simp [intOf]; omega
      · clear hr hl0 HK
        have HLO := Lib.hid HR.out.lo
        go_wp2_with fail
        refine (int_val (HS.out.ext HR.out.lo) (by omega) HR0).mono ?_
        rintro e w1 ⟨rfl, hw⟩
        subst w1
        go_wp2
        simp [bodyPost]
        exact HLO.out
    · have hk6' : ¬ (k : Int) < 6 := by omega
      have hk6e : k = 6 := by omega
      have hkk := HK.out
      rw [hk6e] at hkk
      have hne := HBAD.out _ _ hkk
      have hrange := rdS_len 6 hkk
      have ha0 : 0 ≤ a0 := hrange.2.1
      have ha1 : a0 ≤ 1000 := by have := hrange.2.2.1; have := HBL.out; omega
      have HLO := Lib.hid HR.out.lo
      clear hkk hrange hk6e
      go_wp2
      simp [bodyPost]
      exact HLO.out
end Go.Proofs.Ytomilmaeiokaaaa
