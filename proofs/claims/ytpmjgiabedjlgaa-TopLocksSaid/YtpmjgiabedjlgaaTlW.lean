/-
  LOCKS OVER A LINK: what is delivered.
-/
import Derived.Test.YtpmjgiabedjlgaaLk6
import Derived.Test.YtpmjgiabedjlgaaTlV
import Derived.Test.YtpmjgiabedjlgaaTlL
import Derived.Test.YtpmjgiabedjlgaaTlP
import Derived.Test.YtpmjgiabedjlgaaLock5
import Derived.Test.YtpmjgiabedjlgaaLock6
import Derived.Test.YtpmjgiabedjlgaaWire7
import Derived.Test.YtpmjgiabedjlgaaBase14
import Derived.BigQuiet
import Derived.BigRegion
import Derived.Deep.RegionLaw
import Derived.Deep.RegionHeld3
import Derived.Laws.StructEq
import Derived.StillTailTactics
import Derived.RegionTactic
import Derived.Deep.DeepCutAuto
import Derived.Deep.QuietTactic
import Derived.WalkSpells
import Derived.WalkLawsBesides
namespace Go.Proofs.Ytpmjgiabedjlgaa
open Go.RowKit Go.Maps
set_option linter.unusedVariables false

@[go_sem ↓] theorem b8_shr_w (t : TypeId) (a : UInt8) (s : BitVec 64) : binOp .shr t (b8 a) (u64 s) = pure (b8 ⟨a.toBitVec >>> s.toNat⟩) := by
  conv => lhs; arg 4; unfold u64
  rw [b8_shr t a _ .u64 (Int.natCast_nonneg _), Int.toNat_natCast]
/-- The six ints of a literal. -/
theorem sl_six {W : World} {g : Nat} {x0 x1 x2 x3 x4 x5 : Int} (h : BlkAt W g #[.int .i64 x0, .int .i64 x1, .int .i64 x2, .int .i64 x3, .int .i64 x4, .int .i64 x5]) : Sl W 1 (some ⟨g, 0, none⟩) 6 6 (cs i64v [x0, x1, x2, x3, x4, x5]) := by
  obtain ⟨E, h⟩ := h
  refine ⟨by rw [cs_length]; rfl, Nat.le_refl _, by unfold maxLen; omega, (fun h => by cases h), fun j u hj => ⟨g, 0, rfl, ?_⟩⟩
  rw [Nat.zero_add, cell_of_row _ _ _ _ _ _ h]
  change [Value.int IntKind.i64 x0, Value.int IntKind.i64 x1, Value.int IntKind.i64 x2, Value.int IntKind.i64 x3, Value.int IntKind.i64 x4, Value.int IntKind.i64 x5][j]? = some u at hj
  simpa using hj
def RowR (B : Nat) (v : Value) (n : Nat) (l : List Rep) (W : World) : Prop := W.ownsRow B 45 6 v n (rcs l)
theorem rowDrew {B n : Nat} {v : Value} {l : List Rep} {W : World} (h : Hid (RowR B v n l W)) : Hid (RowR B v n l W.drew) := Lib.hid (ownsRow_ext h.out (below_drew (Below.refl _ _)))
theorem rowAlloc {B n : Nat} {v : Value} {l : List Rep} {W : World} {o : Obj} (h : Hid (RowR B v n l W)) : Hid (RowR B v n l (W.alloc o)) := Lib.hid (ownsRow_ext h.out (below_alloc _ _))
theorem rowOut {B n : Nat} {v : Value} {l : List Rep} {W : World} (h : Hid (RowR B v n l W)) : W.ownsRow B 45 6 v n (rcs l) := h.out
theorem row_more {w0 W W2 W3 : World} {v v' : Value} {j : Nat} {l l' : List Rep} {x : Rep} (hr : Hid (RowR w0.heap.size v j l W)) (hb : Below w0.heap.size w0 W) (h2 : Below W.heap.size W W2) (ho : W3.ownsRow w0.heap.size 45 6 v' (j + 1) (rcs l ++ (repA x).toList)) (hg : W2.grownBy W3 v.ownBlock) (hl : l' = l ++ [x]) : Hid (W3.ownsRow w0.heap.size 45 6 v' (j + 1) (rcs l')) ∧ Hid (Below w0.heap.size w0 W3) := by
  rw [hl, rcs_append, rcs_one]
  refine ⟨Lib.hid ho, Lib.hid ((hb.trans (h2.mono hb.size)).grown hg (by have := hb.size; have := h2.size; omega) (fun k hk => (own_ltF (B := w0.heap.size) hr.out hk).2.1))⟩
section
variable {w1 w2 : World} {a0 a1 a2 a3 a4 a5 : Addr} {x0 x1 x2 x3 x4 x5 : Value}
theorem keep6 (hb : Below w1.heap.size w1 w2) (h : w1.cell? a0 = some x0 ∧ w1.cell? a1 = some x1 ∧ w1.cell? a2 = some x2 ∧ w1.cell? a3 = some x3 ∧ w1.cell? a4 = some x4 ∧ w1.cell? a5 = some x5) : w2.cell? a0 = some x0 ∧ w2.cell? a1 = some x1 ∧ w2.cell? a2 = some x2 ∧ w2.cell? a3 = some x3 ∧ w2.cell? a4 = some x4 ∧ w2.cell? a5 = some x5 := ⟨cell_keep hb h.1, cell_keep hb h.2.1, cell_keep hb h.2.2.1, cell_keep hb h.2.2.2.1, cell_keep hb h.2.2.2.2.1, cell_keep hb h.2.2.2.2.2⟩
theorem keep6D (h : w1.cell? a0 = some x0 ∧ w1.cell? a1 = some x1 ∧ w1.cell? a2 = some x2 ∧ w1.cell? a3 = some x3 ∧ w1.cell? a4 = some x4 ∧ w1.cell? a5 = some x5) : w1.drew.cell? a0 = some x0 ∧ w1.drew.cell? a1 = some x1 ∧ w1.drew.cell? a2 = some x2 ∧ w1.drew.cell? a3 = some x3 ∧ w1.drew.cell? a4 = some x4 ∧ w1.drew.cell? a5 = some x5 := h
theorem keep6A (o : Obj) (h : w1.cell? a0 = some x0 ∧ w1.cell? a1 = some x1 ∧ w1.cell? a2 = some x2 ∧ w1.cell? a3 = some x3 ∧ w1.cell? a4 = some x4 ∧ w1.cell? a5 = some x5) : (w1.alloc o).cell? a0 = some x0 ∧ (w1.alloc o).cell? a1 = some x1 ∧ (w1.alloc o).cell? a2 = some x2 ∧ (w1.alloc o).cell? a3 = some x3 ∧ (w1.alloc o).cell? a4 = some x4 ∧ (w1.alloc o).cell? a5 = some x5 := keep6 (below_alloc _ _) h
theorem cell_grown {a : Addr} {x : Value} {r : Option Nat} (hg : w1.grownBy w2 r) (hne : r ≠ some a.block) (h : w1.cell? a = some x) : w2.cell? a = some x := (World.cell?_of_block (hg.block a.block (World.block_lt_of_cell? _ _ h) (Ne.symm hne))).trans h
theorem keep6G {nb : Nat} {r : Option Nat} (hg : w1.grownBy w2 r) (hne : Hid (r ≠ some nb)) (b0 : a0.block = nb) (b1 : a1.block = nb) (b2 : a2.block = nb) (b3 : a3.block = nb) (b4 : a4.block = nb) (b5 : a5.block = nb) (h : w1.cell? a0 = some x0 ∧ w1.cell? a1 = some x1 ∧ w1.cell? a2 = some x2 ∧ w1.cell? a3 = some x3 ∧ w1.cell? a4 = some x4 ∧ w1.cell? a5 = some x5) : w2.cell? a0 = some x0 ∧ w2.cell? a1 = some x1 ∧ w2.cell? a2 = some x2 ∧ w2.cell? a3 = some x3 ∧ w2.cell? a4 = some x4 ∧ w2.cell? a5 = some x5 :=
  ⟨cell_grown hg (by rw [b0]; exact hne.out) h.1, cell_grown hg (by rw [b1]; exact hne.out) h.2.1, cell_grown hg (by rw [b2]; exact hne.out) h.2.2.1, cell_grown hg (by rw [b3]; exact hne.out) h.2.2.2.1, cell_grown hg (by rw [b4]; exact hne.out) h.2.2.2.2.1, cell_grown hg (by rw [b5]; exact hne.out) h.2.2.2.2.2⟩
end
def RetPut (bs : List UInt8) (W : World) (e : Ending) (W' : World) : Prop := ∃ a c, e = .returned (.slice a bs.length c) ∧ Hid (Sl W' 1 a bs.length c (cs b8 bs)) ∧ Below W.heap.size W W'
theorem put6 {W : World} {g : Nat} (x : Rep) (hx : I64s (enL x)) (h : BlkAt W g (repA x)) : Calls Try.prog 11 #[.slice none 0 0, .slice (some ⟨g, 0, none⟩) 6 6] W (RetPut (enR x) W) := by
  have hl := enR_len x
  refine (putInts_any [] (enL x) none (some ⟨g, 0, none⟩) 0 0 6 6 _ (Sl.nil _ _) (sl_six h) hx (by decide) (by decide)).mono ?_
  rintro e w2 ⟨v, rfl, ho, hb⟩
  obtain ⟨a, c, e, s⟩ := sl_of_own ho
  rw [List.nil_append] at s
  rw [show 0 + (putInts (enL x)).length = (enR x).length from by unfold enR; omega] at s e
  exact ⟨a, c, by rw [e], Lib.hid s, hb⟩
set_option maxRecDepth 100000 in
set_option maxHeartbeats 16000000 in
theorem delivered_any (reps : List Rep) (a : Option Addr) (len cap : Nat) (losses : List UInt8) (a2 : Option Addr) (len2 cap2 : Nat) (w : World) (hl : reps.length = len) (hs : Sl w 6 a len cap (rcs reps)) (h12 : len ≤ 12) (hx : ∀ x ∈ reps, I64s (enL x)) (hs2 : Sl w 1 a2 len2 cap2 (cs b8 losses)) (h8 : len2 ≤ 8) : Calls Try.prog 15 #[.slice a len cap, .slice a2 len2 cap2] w (RetReps reps w) := by
  have HS := Lib.hid hs
  have HS2 := Lib.hid hs2
  have HL := Lib.hid hl
  have HL2 := Lib.hid hs2.count
  have HX := Lib.hid hx
  obtain ⟨all, hall⟩ : ∃ all, all = reps.map enR := ⟨_, rfl⟩
  have HALL := Lib.hid hall
  have hal : all.length = len := by rw [hall, List.length_map, hl]
  have HSZ : Hid (∀ j, (all.getD j []).length ≤ 256) := Lib.hid (fun j => by
    rw [hall, List.getD_eq_getElem?_getD, List.getElem?_map]
    cases reps[j]? with
    | none => simp
    | some x => simpa using enR_len x)
  have HAL := Lib.hid hal
  clear hs hs2 hl hx hall hal
  go_enter Try.func15, Try.ntmps15
  go_wp2_with fail
  refine (newSender_any _).mono ?_
  rintro e w1 ⟨rfl, hs1, hb1⟩
  go_wp2_with fail
  refine (newReceiver_any _).mono ?_
  rintro e w2 ⟨rfl, hr2, hb2⟩
  have HD0 : Hid (DvS w w.heap.size (w1.heap.size + 1) w1.heap.size 0 0 (len2 < 0) all w2) := dvStart (by omega) hs1 hb1 hr2 hb2
  clear hs1 hb1 hr2 hb2
  generalize w1.heap.size + 1 = r at *
  generalize w1.heap.size = b at *
  generalize w.heap.size = g at *
  go_upto_region 6 with (fail)
  have hN : (len2 : Int) + (len : Int) + 1 ≤ 21 := by omega
  have hN0 : 0 ≤ (len2 : Int) + (len : Int) := by omega
  have hN1 : 0 ≤ (len2 : Int) + (len : Int) + 1 := by omega
  go_loopw [8, 9] (fun s i wr => ∃ (q m : Nat), q ≤ len2 + len + 1 ∧ m ≤ len ∧ (0 < q → m = len) ∧ i = .int .i64 (q : Int) ∧ s = .int .i64 (m : Int) ∧ Hid (DvS w g r b m (24 * q) (len2 < q) all wr)) (fun _ i _ => len2 + len + 1 - (intOf i).toNat)
  case atStart => exact ⟨0, 0, by omega, by omega, by omega, rfl, rfl, by simpa using HD0⟩
  case round =>
    obtain ⟨q, m, hq, hm, hqm, rfl, rfl, HD⟩ := hrel
    clear HD0
    have hq0 : (0 : Int) ≤ (q : Int) := by omega
    have hm0 : (0 : Int) ≤ (m : Int) := by omega
    by_cases hqn : q < len2 + len + 1
    · have hqn' : (q : Int) < (len2 : Int) + (len : Int) + 1 := by omega
      go_wp2_with fail
      go_loopw [8] (fun s wr => ∃ (m : Nat), m ≤ len ∧ s = .int .i64 (m : Int) ∧ Hid (DvS w g r b m (24 * q) (len2 < q) all wr)) (fun s _ => len - (intOf s).toNat)
      case atStart => exact ⟨m, hm, rfl, HD⟩
      case round =>
        clear HD hm hqm hm0
        obtain ⟨m, hm, rfl, HD⟩ := hrel
        have hm0 : (0 : Int) ≤ (m : Int) := by omega
        by_cases hml : m < len
        · have hml' : (m : Int) < (len : Int) := by omega
          obtain ⟨bb, oo, e, hc⟩ := sl_rep (HS.out.ext (dvLo HD)) HL.out m hml
          subst e
          have HXM : Hid (I64s (enL (reps.getD m (0, 0, 0, 0, 0, 0)))) := Lib.hid (HX.out _ (by rw [List.getD_eq_getElem?_getD, List.getElem?_eq_getElem (by have := HL.out; omega)]; exact List.getElem_mem _))
          have HAM : Hid (all.getD m [] = enR (reps.getD m (0, 0, 0, 0, 0, 0))) := Lib.hid (by
            rw [HALL.out, List.getD_eq_getElem?_getD, List.getD_eq_getElem?_getD, List.getElem?_map, List.getElem?_eq_getElem (by have := HL.out; omega)]
            rfl)
          generalize reps.getD m (0, 0, 0, 0, 0, 0) = x at *
          obtain ⟨x1, x2, x3, x4, x5, x6⟩ := x
          have p0 : wr.cell? ⟨bb, oo + m * 6, none⟩ = some (.int .i64 x1) := hc 0 _ rfl
          have p1 : wr.cell? ⟨bb, oo + m * 6 + 1, none⟩ = some (.int .i64 x2) := hc 1 _ rfl
          have p2 : wr.cell? ⟨bb, oo + m * 6 + 2, none⟩ = some (.int .i64 x3) := hc 2 _ rfl
          have p3 : wr.cell? ⟨bb, oo + m * 6 + 3, none⟩ = some (.int .i64 x4) := hc 3 _ rfl
          have p4 : wr.cell? ⟨bb, oo + m * 6 + 4, none⟩ = some (.int .i64 x5) := hc 4 _ rfl
          have p5 : wr.cell? ⟨bb, oo + m * 6 + 5, none⟩ = some (.int .i64 x6) := hc 5 _ rfl
          clear hc
          go_upto_region 10 with (fail)
          have HD1 := dvBelow (below_alloc wr (.cells #[.int .i64 x1, .int .i64 x2, .int .i64 x3, .int .i64 x4, .int .i64 x5, .int .i64 x6] 45)) HD
          have HR1 : Hid (BlkAt (wr.alloc (.cells #[.int .i64 x1, .int .i64 x2, .int .i64 x3, .int .i64 x4, .int .i64 x5, .int .i64 x6] 45)) wr.heap.size #[.int .i64 x1, .int .i64 x2, .int .i64 x3, .int .i64 x4, .int .i64 x5, .int .i64 x6]) := Lib.hid (blkNew rfl)
          generalize wr.alloc (.cells #[.int .i64 x1, .int .i64 x2, .int .i64 x3, .int .i64 x4, .int .i64 x5, .int .i64 x6] 45) = W1 at *
          generalize wr.heap.size = xb at *
          obtain ⟨d0, d1, d2, d3, d4, d5⟩ := six_cells HR1.out
          clear p0 p1 p2 p3 p4 p5 HD HR1
          go_wp2_with fail
          refine (put6 (x1, x2, x3, x4, x5, x6) HXM.out (blkNew rfl)).mono ?_
          rintro e w4 ⟨ea, ec, rfl, hs4, hb4⟩
          have HD4 := dvBelow hb4 (dvBelow (below_alloc W1 _) HD1)
          have hen := enR_len (x1, x2, x3, x4, x5, x6)
          have HEN := Lib.hid hen
          clear hen HD1 hb4 d0 d1 d2 d3 d4 d5
          have hal1 : all.length ≤ 12 := by have := HAL.out; omega
          have hal2 : m < all.length := by have := HAL.out; omega
          go_wp2_with fail
          refine (dv_put HD4 hal1 hal2 ea _ ec _ HAM.out.symm hs4.out HEN.out).mono ?_
          rintro e w5 ⟨⟨mm, rfl⟩, HD5⟩
          clear HD4 hs4
          go_wp2_with fail
          go_roundw
          case rel => exact ⟨m + 1, by omega, by go_num, HD5⟩
          case measure => simp [intOf]; omega
        · obtain rfl : m = len := by omega
          have e := HAL.out
          subst e
          have hml' : ¬ (all.length : Int) < (all.length : Int) := by omega
          clear hm hml HAL
          go_upto_if 74 with (fail)
          go_cut [13] (fun v wx => ∃ x : UInt8, v = b8 x ∧ Hid (len2 ≤ q → x = 0) ∧ wx = wr)
          case first =>
            by_cases hql : q < len2
            · have hql' : (q : Int) < (len2 : Int) := by omega
              obtain ⟨bl, ol, e, hc⟩ := (HS2.out.ext (dvLo HD)).at_ q hql 0
              subst e
              go_wp2_with fail
              go_meet
              exact ⟨_, rfl, Lib.hid (fun h => by omega), rfl⟩
            · have hql' : ¬ (q : Int) < (len2 : Int) := by omega
              go_wp2_with fail
              go_meet
              exact ⟨(0 : UInt8), rfl, Lib.hid (fun h => rfl), rfl⟩
          case rest =>
          obtain ⟨x, rfl, HX0, rfl⟩ := hcut
          obtain ⟨k, v, xs, hkx, hxe, hfr⟩ := dv_frames HD h12 HSZ.out (x = 0)
          have HFR := Lib.hid hfr
          have HXE := Lib.hid hxe
          have hxl : xs.length ≤ 12 := by omega
          clear hfr hxe HD
          go_wp2_with fail
          refine HFR.out.mono ?_
          rintro e w5 ⟨fa, fc, zs, rfl, hz, HT0⟩
          have HZ := Lib.hid hz
          clear hz HFR
          have hxl0 : (0 : Int) ≤ (xs.length : Int) := by omega
          have hxl9 : (xs.length : Int) ≤ 12 := by omega
          go_upto_region 18 with (fail)
          go_loopw [15] (fun i wr => ∃ t : Int, -1 ≤ t ∧ t < (xs.length : Int) ∧ i = .int .i64 t ∧ Hid (DvT w g v k xs r b (.slice fa xs.length fc) zs (24 * q + 2 * ((xs.length : Int) - 1 - t).toNat) (x = 0) all t wr)) (fun i _ => (intOf i + 1).toNat)
          case atStart => exact ⟨(xs.length : Int) - 1, by omega, by omega, rfl, dvtCnt (by omega) HT0⟩
          case round =>
            obtain ⟨t, ht0, ht1, rfl, HT⟩ := hrel
            clear HT0
            by_cases htn : 0 ≤ t
            · obtain ⟨i, rfl⟩ := Int.eq_ofNat_of_zero_le htn
              have hil : i < xs.length := by omega
              have hzl : zs.length = xs.length := by have := congrArg List.length HZ.out; simpa using this
              obtain ⟨bb, oo, e, c0, c1⟩ := dvt_cells HT rfl hzl i hil
              subst e
              clear hzl
              obtain ⟨z, hze⟩ : ∃ z, zs.getD i nilB = z := ⟨_, rfl⟩
              have hki : ((k + i : Nat) : Int) = (k : Int) + (i : Int) := by omega
              rw [hki] at c0
              rw [hze] at c1
              have HZE := Lib.hid hze
              clear hze hki
              by_cases hbit : ((x.toNat : Int) >>> (i % 8)) % 2 = 0
              · have hc1 : 24 * q + 2 * ((xs.length : Int) - 1 - (i : Int)).toNat + 1 ≤ 10000 := by omega
                go_wp2_with fail
                refine (dv_take HT rfl HZ.out h12 HSZ.out (by omega) i hil (by omega) (by omega) z HZE.out ((k : Int) + (i : Int)) (by omega)).mono ?_
                rintro e w6 ⟨rfl, HT6, _⟩
                clear c0 c1 HT
                have hzl : zs.length = xs.length := by have := congrArg List.length HZ.out; simpa using this
                obtain ⟨bb2, oo2, e, c0, c1⟩ := dvt_cells HT6 rfl hzl i hil
                cases e
                have hki : ((k + i : Nat) : Int) = (k : Int) + (i : Int) := by omega
                rw [hki] at c0
                rw [HZE.out] at c1
                clear hki hzl
                go_wp2_with fail
                refine (dv_take HT6 rfl HZ.out h12 HSZ.out (by omega) i hil (by omega) (by omega) z HZE.out ((k : Int) + (i : Int)) (by omega)).mono ?_
                rintro e w7 ⟨rfl, _, HT7⟩
                clear c0 c1 HT6
                go_wp2_with fail
                go_roundw
                case rel => exact ⟨(i : Int) - 1, by omega, by omega, rfl, dvtCnt (by omega) HT7⟩
                case measure => simp [intOf] <;> omega
              · have hx0 : ¬ x = 0 := fun e => hbit (by subst e; simp)
                have HT6 := dvt_lost HT hx0 ((i : Int) - 1)
                clear HT
                go_wp2_with fail
                go_roundw
                case rel => exact ⟨(i : Int) - 1, by omega, by omega, rfl, dvtCnt (by omega) HT6⟩
                case measure => simp [intOf] <;> omega
            · have HD9 : Hid (DvS w g r b all.length (24 * (q + 1)) (len2 < q + 1) all wr) := dvCnt (by omega) (dvt_end HT (by omega) (fun h => HX0.out (by omega)))
              clear HT
              obtain ⟨m9, hm9, hak, hack⟩ := dv_acked HD9
              have HAK := Lib.hid hak
              have HACK := Lib.hid (hack rfl h12)
              clear hak hack
              by_cases hq2 : (q : Int) % 2 = 0
              · go_wp2_with fail
                refine HAK.out.mono ?_
                rintro e w8 ⟨rfl, hw8⟩
                subst w8
                go_wp2_with fail
                refine HACK.out.mono ?_
                rintro e w9 ⟨rfl, HD10⟩
                clear HD9 HAK HACK
                go_wp2_with fail
                go_roundw
                case rel => exact ⟨q + 1, all.length, by omega, Nat.le_refl _, fun _ => rfl, by go_num, rfl, HD10⟩
                case measure => simp [intOf] <;> omega
              · clear HAK HACK
                go_wp2_with fail
                go_roundw
                case rel => exact ⟨q + 1, all.length, by omega, Nat.le_refl _, fun _ => rfl, by go_num, rfl, HD9⟩
                case measure => simp [intOf] <;> omega
    · obtain rfl : m = len := hqm (by omega)
      have e := HAL.out
      subst e
      have hqn' : ¬ (q : Int) < (len2 : Int) + (all.length : Int) + 1 := by omega
      have hfin : len2 < q := by omega
      obtain ⟨m9, hm9, hak, hack⟩ := dv_acked HD
      have HAK := Lib.hid hak
      have HACK := Lib.hid (hack rfl h12)
      clear hak hack HAL hm hqm
      go_wp2_with fail
      refine HAK.out.mono ?_
      rintro e w8 ⟨rfl, hw8⟩
      subst w8
      go_wp2_with fail
      refine HACK.out.mono ?_
      rintro e w9 ⟨rfl, HD9⟩
      clear HD HAK HACK
      go_wp2_with fail
      refine (dv_out HD9 hfin h12 HSZ.out).mono ?_
      rintro e w10 ⟨oa, oc, zs, rfl, HZ, HO, HB0⟩
      have HLO := Lib.hid (below_step (dvLo HD9) HB0.out)
      clear HD9
      go_upto_region 29 with (fail)
      have HLZ : Hid (zs.length = all.length) := Lib.hid (by rw [← HZ.out, List.length_map])
      go_loopw [16, 18] (fun v i wr => ∃ (j : Nat) (ra : Option Addr) (rc : Nat), j ≤ all.length ∧ i = .int .i64 (j : Int) ∧ v = .slice ra j rc ∧ Hid (wr.ownsRow w10.heap.size 45 6 (.slice ra j rc) j (rcs (reps.take j))) ∧ Hid (Below w10.heap.size w10 wr)) (fun _ i _ => all.length - (intOf i).toNat)
      case atStart => exact ⟨0, none, 0, by omega, rfl, rfl, Lib.hid (World.ownsRow_nil _ _ _ _), Lib.hid (Below.refl _ _)⟩
      case round =>
        obtain ⟨j, ra, rc, hj, rfl, rfl, HR, HB⟩ := hrel
        have hj0 : (0 : Int) ≤ (j : Int) := by omega
        by_cases hjl : j < all.length
        · have hjl' : (j : Int) < (all.length : Int) := by omega
          obtain ⟨oa', oc', e, hos⟩ := sl_of_own HO.out.row
          rw [HLZ.out] at e hos
          cases e
          obtain ⟨bo, oo, e, hc⟩ := hos.at_ j hjl nilB
          subst e
          have hc' := cell_keep HB.out hc
          have hbd := (HO.out.bds (zs.getD j nilB) (by rw [List.getD_eq_getElem?_getD, List.getElem?_eq_getElem (by have := HLZ.out; omega)]; exact List.getElem_mem _)).sl.ext HB.out
          have hxi := HX.out (reps.getD j (0, 0, 0, 0, 0, 0)) (by rw [List.getD_eq_getElem?_getD, List.getElem?_eq_getElem (by have := HL.out; omega)]; exact List.getElem_mem _)
          have hbs : (zs.getD j nilB).bs = enR (reps.getD j (0, 0, 0, 0, 0, 0)) := by
            have h5 : (zs.map Bv.bs).getD j [] = (zs.getD j nilB).bs := getD_map_bs zs j (by have := HLZ.out; omega)
            rw [← h5, HZ.out, HALL.out, List.getD_eq_getElem?_getD, List.getD_eq_getElem?_getD, List.getElem?_map, List.getElem?_eq_getElem (by have := HL.out; omega)]
            rfl
          have htk : reps.take (j + 1) = reps.take j ++ [reps.getD j (0, 0, 0, 0, 0, 0)] := by
            rw [List.take_add_one, List.getElem?_eq_getElem (by have := HL.out; omega), List.getD_eq_getElem?_getD, List.getElem?_eq_getElem (by have := HL.out; omega)]
            rfl
          generalize zs.getD j nilB = z at *
          obtain ⟨za, zc, zb⟩ := z
          dsimp only [bsv] at hc' hbd hbs
          subst hbs
          have HTK := Lib.hid htk
          clear hc htk
          generalize reps.getD j (0, 0, 0, 0, 0, 0) = x at *
          have hrs := ints_any (enR x) 0 za (enR x).length zc wr hbd (by have := enR_len x; omega)
          rw [enR_back x hxi] at hrs
          have HIN := Lib.hid hrs
          have hen := enR_len x
          generalize (enR x).length = en at *
          have hen0 : (0 : Int) ≤ (en : Int) := by omega
          obtain ⟨x1, x2, x3, x4, x5, x6⟩ := x
          clear hrs hbd hxi
          go_wp2_with fail
          refine HIN.out.mono ?_
          rintro e w12 ⟨v, rfl, ho12, hb12⟩
          obtain ⟨na, nc, e, hsl⟩ := sl_of_own ho12
          change v = .slice na 6 nc at e
          subst e
          have hsl6 : Sl w12 1 na 6 nc (cs i64v [x1, x2, x3, x4, x5, x6]) := hsl
          obtain ⟨nb, no, e, n0⟩ := hsl6.at_ 0 (by decide) 0
          subst e
          obtain ⟨_, _, e1, n1⟩ := hsl6.at_ 1 (by decide) 0
          cases e1
          obtain ⟨_, _, e1, n2⟩ := hsl6.at_ 2 (by decide) 0
          cases e1
          obtain ⟨_, _, e1, n3⟩ := hsl6.at_ 3 (by decide) 0
          cases e1
          obtain ⟨_, _, e1, n4⟩ := hsl6.at_ 4 (by decide) 0
          cases e1
          obtain ⟨_, _, e1, n5⟩ := hsl6.at_ 5 (by decide) 0
          cases e1
          change w12.cell? ⟨nb, no, none⟩ = some (.int .i64 x1) at n0
          change w12.cell? ⟨nb, no + 1, none⟩ = some (.int .i64 x2) at n1
          change w12.cell? ⟨nb, no + 2, none⟩ = some (.int .i64 x3) at n2
          change w12.cell? ⟨nb, no + 3, none⟩ = some (.int .i64 x4) at n3
          change w12.cell? ⟨nb, no + 4, none⟩ = some (.int .i64 x5) at n4
          change w12.cell? ⟨nb, no + 5, none⟩ = some (.int .i64 x6) at n5
          have hnb : (Value.slice ra j rc).ownBlock ≠ some nb := fun e => by
            have h1 := (own_ltF HR.out e).1
            have h2 := (own_ltF ho12 (k := nb) rfl).2.1
            omega
          have HR12 : Hid (RowR w10.heap.size (.slice ra j rc) j (reps.take j) w12) := Lib.hid (ownsRow_ext HR.out hb12)
          have HB12 := Lib.hid (HB.out.trans (hb12.mono HB.out.size))
          have hsz12 : w10.heap.size ≤ w12.heap.size := HB12.out.size
          clear hc' hos ho12 hsl hsl6 HIN hb12 HR
          go_upto_region 34 with (fail)
          clear hen hen0 hj0 hjl' hN hN0 hN1 hq0 hm0 hqn'
          have HNE : Hid ((Value.slice ra j rc).ownBlock ≠ some nb) := Lib.hid (fun e => hnb e)
          clear hnb
          have hS0 := And.intro n0 (And.intro n1 (And.intro n2 (And.intro n3 (And.intro n4 n5))))
          go_region_held3 (fun w9 => w9.cell? ⟨nb, no, none⟩ = some (.int .i64 x1) ∧ w9.cell? ⟨nb, no + 1, none⟩ = some (.int .i64 x2) ∧ w9.cell? ⟨nb, no + 2, none⟩ = some (.int .i64 x3) ∧ w9.cell? ⟨nb, no + 3, none⟩ = some (.int .i64 x4) ∧ w9.cell? ⟨nb, no + 4, none⟩ = some (.int .i64 x5) ∧ w9.cell? ⟨nb, no + 5, none⟩ = some (.int .i64 x6))
            (repeat (with_reducible first | assumption | refine keep6D ?_ | refine keep6A _ ?_ | (apply keep6G hgr HNE rfl rfl rfl rfl rfl rfl)))
            (((refine step_append_row _ rfl (.tmp 142) (.tmp 162) 34 rfl w10.heap.size 45 (.agg #[.int .i64 0, .int .i64 0, .int .i64 0, .int .i64 0, .int .i64 0, .int .i64 0]) 6 48 Try.underlying34 infoR rfl (by decide) (v := .slice ra j rc) (n := j) (xs := rcs (reps.take j)) (by rfl) (rowOut (by (repeat (first | (with_reducible assumption) | (with_reducible refine rowDrew ?_) | (with_reducible refine rowAlloc ?_))))) (k := w12.heap.size) (C := #[.int .i64 x1, .int .i64 x2, .int .i64 x3, .int .i64 x4, .int .i64 x5, .int .i64 x6]) (by rfl) (by (repeat (first | ((with_reducible refine blkNew ?_); focus (simp; done)) | (with_reducible refine blkDrew ?_) | (with_reducible refine blkOld ?_)))) rfl (repA_one (x1, x2, x3, x4, x5, x6)) (by unfold maxLen; omega) (by omega) (by first | (simp; done) | (simp; omega)) ?_); intro v9 w9 ho9 hgr hf9; obtain ⟨a9, n9, e9, s9⟩ := sl_of_own ho9; subst e9; clear s9 hf9; have HO9 := Lib.hid ho9; clear ho9))
          all_goals
            have hm := row_more (x := (x1, x2, x3, x4, x5, x6)) HR12 HB12.out (below_step (below_drew (Below.refl w12.heap.size w12)) (below_alloc w12.drew _)) HO9.out hgr HTK.out
            have HM1 := hm.1
            have HM2 := hm.2
            clear hm hgr HO9 HR12 hS0 n0 n1 n2 n3 n4 n5
            go_wp2
            go_roundw
            case rel => exact ⟨j + 1, a9, n9, by omega, by go_num, rfl, HM1, HM2⟩
            case measure => simp [intOf]; omega
        · obtain rfl : j = all.length := by omega
          have hjl' : ¬ (all.length : Int) < (all.length : Int) := by omega
          obtain ⟨ra', rc', e, hsl⟩ := sl_of_own HR.out
          cases e
          have HLO2 := Lib.hid (HLO.out.trans (HB.out.mono HLO.out.size))
          have HSL : Hid (Sl wr 6 ra reps.length rc (rcs reps)) := Lib.hid (by
            have h1 := HL.out
            rw [List.take_of_length_le (by omega)] at hsl
            rw [h1]
            exact hsl)
          clear hsl HR HB
          go_wp2
          go_ret2
          exact ⟨ra, rc, by have h := HL.out; rw [h]; rfl, HSL, HLO2.out⟩
end Go.Proofs.Ytpmjgiabedjlgaa
