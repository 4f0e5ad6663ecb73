/-
  TOKENS, THE WALKS: encoded.
-/
import Derived.Test.YtomilmaeiokaaaaProg
import Derived.Test.YtomilmaeiokaaaaBase15
import Derived.Test.YtomilmaeiokaaaaMacP
import Derived.Test.YtomilmaeiokaaaaTokP
import Derived.Test.YtomilmaeiokaaaaTkP
import Derived.Test.YtomilmaeiokaaaaTok1
import Derived.Test.YtomilmaeiokaaaaTok2
import Derived.Test.YtomilmaeiokaaaaWire1
import Derived.Test.YtomilmaeiokaaaaWire2
import Derived.Test.YtomilmaeiokaaaaWire5
import Derived.Test.YtomilmaeiokaaaaHeld
import Derived.BigQuiet
import Derived.Laws.StructEq
import Derived.StillTailTactics
import Derived.RegionTactic
import Derived.BigRegion
import Derived.Deep.DeepCutAuto
import Derived.Deep.QuietTactic
import Derived.WalkSpells
import Derived.WalkLawsBesides
namespace Go.Proofs.Ytomilmaeiokaaaa
open Go.RowKit
set_option linter.unusedVariables false

theorem tag_snoc (g : BitVec 64) (q : Nat) (hq : q < 8) : (List.range (8 - q)).map (tagF g) = (List.range (7 - q)).map (tagF g) ++ [UInt8.ofNat (g.toNat >>> (8 * q))] := by
  rw [show 8 - q = (7 - q) + 1 from by omega, List.range_succ, List.map_append]
  simp only [List.map_cons, List.map_nil, tagF]
  rw [show 8 * (7 - (7 - q)) = 8 * q from by omega, BitVec.toNat_ushiftRight]
set_option maxRecDepth 100000 in
set_option maxHeartbeats 1000000 in
theorem encoded_any (b r d f t n : Int) (g : BitVec 64) (w : World) (hok : ¬ Tok.bad ⟨b, r, d, f, t, n⟩) :
    Calls Try.prog 46 #[.agg #[.int .i64 b, .int .i64 r, .int .i64 d, .int .i64 f, .int .i64 t, .int .i64 n, u64 g]] w (fun e w' => ∃ a c, e = .returned (.slice a (encB b r d f t n g).length c) ∧ Hid (Sl w' 1 a (encB b r d f t n g).length c (cs b8 (encB b r d f t n g))) ∧ Below w.heap.size w w') := by
  have HI := Lib.hid (six_small hok)
  have HQ : Hid (BlkAt (w.alloc (.cells #[.int .i64 b, .int .i64 r, .int .i64 d, .int .i64 f, .int .i64 t, .int .i64 n, u64 g] 36)) w.heap.size #[.int .i64 b, .int .i64 r, .int .i64 d, .int .i64 f, .int .i64 t, .int .i64 n, u64 g] ∧ Below w.heap.size w (w.alloc (.cells #[.int .i64 b, .int .i64 r, .int .i64 d, .int .i64 f, .int .i64 t, .int .i64 n, u64 g] 36))) := ⟨blkNew rfl, below_alloc _ _⟩
  have hs1 : (w.alloc (.cells #[.int .i64 b, .int .i64 r, .int .i64 d, .int .i64 f, .int .i64 t, .int .i64 n, u64 g] 36)).heap.size = w.heap.size + 1 := by simp
  clear hok
  go_enter Try.func46, Try.ntmps46
  go_wp2_with fail
  refine (numbers_any b r d f t n g _).mono ?_
  rintro e w1 ⟨k1, rfl, HS1, hb1⟩
  have HQ1 : Hid (BlkAt w1 w.heap.size #[.int .i64 b, .int .i64 r, .int .i64 d, .int .i64 f, .int .i64 t, .int .i64 n, u64 g] ∧ Below w.heap.size w w1 ∧ w.heap.size + 1 ≤ w1.heap.size) := ⟨blkBelow hb1 HQ.out.1, below_step HQ.out.2 hb1, by have := hb1.size; omega⟩
  clear hb1 HQ hs1
  go_upto_region 3 with (fail)
  go_loopw [3, 5, 10] (fun v u i wr => ∃ k : Nat, k ≤ 6 ∧ i = .int .i64 k ∧ Hid (wr.ownsRow (w.heap.size + 1) 5 1 v (([b, r, d, f, t, n].take k).flatMap putInt).length (cs b8 (([b, r, d, f, t, n].take k).flatMap putInt)) ∧ Below w1.heap.size w1 wr)) (fun _ _ i _ => 6 - (intOf i).toNat)
  case atStart => exact ⟨0, by omega, rfl, World.ownsRow_nil _ _ _ _, Below.refl _ _⟩
  case round =>
    obtain ⟨k, hk, rfl, HR⟩ := hrel
    obtain ⟨a0, c0, hv0, hs0⟩ := sl_of_own HR.out.1
    subst hv0
    by_cases hk6 : k < 6
    · have hk6' : (k : Int) < 6 := by omega
      have hk0 : (0 : Int) ≤ (k : Int) := by omega
      have hfl := flat_len ([b, r, d, f, t, n].take k)
      rw [List.length_take] at hfl
      have hsn := flat_take [b, r, d, f, t, n] k (by simpa using hk6)
      have hnum : ∃ x, [b, r, d, f, t, n].getD k 0 = x := ⟨_, rfl⟩
      obtain ⟨x, hx⟩ := hnum
      have hx64 := HI.out x (by rw [← hx]; simp [List.getD, hk6])
      have hcell : wr.cell? ⟨k1, k, none⟩ = some (.int .i64 x) := by
        obtain ⟨b1, o1, e1, hc⟩ := (HS1.out.ext HR.out.2).at_ k hk6 0
        cases e1
        rw [Nat.zero_add, hx] at hc
        exact hc
      rw [hx] at hsn
      have hput := putInt_any (([b, r, d, f, t, n].take k).flatMap putInt) x a0 _ c0 wr hs0 (by omega) hx64.1 hx64.2
      have HPUT := Lib.hid hput
      have HSN := Lib.hid hsn
      have HFL := Lib.hid hfl
      clear hs0 hx hsn hput hfl hx64
      generalize (([b, r, d, f, t, n].take k).flatMap putInt) = pre at *
      go_wp2_with fail
      refine HPUT.out.mono ?_
      rintro e w2 ⟨v2, rfl, ho2, hb2⟩
      have HR2 : Hid (w2.ownsRow (w.heap.size + 1) 5 1 v2 (pre.length + (putInt x).length) (cs b8 (pre ++ putInt x)) ∧ Below w1.heap.size w1 w2) := ⟨ownsRow_mono ho2 (by have := HQ1.out.2.2; have := HR.out.2.size; omega), below_step HR.out.2 hb2⟩
      clear ho2 hb2
      go_wp2
      go_roundw
      case rel => exact ⟨k + 1, by omega, by go_num, by rw [HSN.out, List.length_append]; exact HR2.out.1, HR2.out.2⟩
      case measure => simp [intOf]; omega
    · have hk6' : ¬ (k : Int) < 6 := by omega
      obtain rfl : k = 6 := by omega
      have htk : [b, r, d, f, t, n].take 6 = [b, r, d, f, t, n] := rfl
      have hHR := HR.out
      rw [htk] at hHR
      have hfl := flat_len [b, r, d, f, t, n]
      obtain ⟨pre, hpre⟩ : ∃ pre, [b, r, d, f, t, n].flatMap putInt = pre := ⟨_, rfl⟩
      rw [hpre] at hHR hfl
      rw [show (([b, r, d, f, t, n].take 6).flatMap putInt).length = pre.length from by rw [htk, hpre]]
      have HR3 := Lib.hid hHR
      have HFL := Lib.hid hfl
      have HPRE := Lib.hid hpre
      clear hHR hfl hpre htk hs0 HR
      obtain ⟨t0, ht0⟩ : ∃ t0, t0 = HQ1 := ⟨_, rfl⟩
      clear ht0
      have HT1 := Lib.hid (HQ1.out.1)
      have hlo1 : Below w.heap.size w w1 ∧ w.heap.size + 1 ≤ w1.heap.size := HQ1.out.2
      have HLO1 := Lib.hid hlo1
      clear hlo1 t0
      go_upto_region 8 with (fail)
      go_loopw [3, 6] (fun v i wr => ∃ q : Nat, q ≤ 8 ∧ i = .int .i64 ((q : Int) - 1) ∧ Hid (wr.ownsRow (w.heap.size + 1) 5 1 v (pre.length + (8 - q)) (cs b8 (pre ++ (List.range (8 - q)).map (tagF g))) ∧ Below (w.heap.size + 1) w1 wr)) (fun _ i _ => (intOf i + 1).toNat)
      case atStart => exact ⟨8, by omega, rfl, by simpa using HR3.out.1, HR3.out.2.mono HLO1.out.2⟩
      case round =>
        obtain ⟨q, hq, rfl, HR⟩ := hrel
        clear HR3
        have HT : Hid (BlkAt wr w.heap.size #[.int .i64 b, .int .i64 r, .int .i64 d, .int .i64 f, .int .i64 t, .int .i64 n, u64 g]) := HT1.out.elim fun E h => ⟨E, by rw [HR.out.2.block _ (by omega)]; exact h⟩
        obtain ⟨z0, z1, z2, z3, z4, z5, z6⟩ := tok_cells (w := w) (E := 0) HT.out
        cases q with
        | zero =>
          have hneg : ¬ (0 : Int) ≤ ((0 : Nat) : Int) - 1 := by omega
          obtain ⟨a9, c9, hv9, hs9⟩ := sl_of_own HR.out.1
          subst hv9
          have HS9 := Lib.hid hs9
          have HB9 : Hid (Below w.heap.size w wr) := HLO1.out.1.trans (HR.out.2.mono (by omega))
          clear hs9
          go_wp2
          go_ret
          have hen : encB b r d f t n g = pre ++ (List.range (8 - 0)).map (tagF g) := by unfold encB tagB; rw [HPRE.out]
          have hle : (encB b r d f t n g).length = pre.length + (8 - 0) := by rw [hen]; simp
          rw [hle, hen]
          exact ⟨_, _, rfl, HS9, HB9.out⟩
        | succ q =>
          have e1 : ((q + 1 : Nat) : Int) - 1 = (q : Int) := by omega
          have hq8 : (q : Int) ≤ 7 := by omega
          have hq0 : (0 : Int) ≤ (q : Int) := by omega
          have hq80 : (0 : Int) ≤ 8 * (q : Int) := by omega
          have hacc : Acc wr (w.heap.size + 1) 5 1 _ (pre.length + (8 - (q + 1))) (cs b8 (pre ++ (List.range (8 - (q + 1))).map (tagF g))) := .own HR.out.1
          have hsz : w.heap.size + 1 ≤ wr.heap.size := Nat.le_trans HLO1.out.2 HR.out.2.size
          have hpl : pre.length ≤ 60 := by have := HFL.out; simpa using this
          rw [e1]
          go_wp2_with (at_builtin; refine wpList_append_one b8 (fun _ => rfl) _ rfl _ _ 22 rfl (w.heap.size + 1) 5 _ (.int .u8 0) 1 Try.underlying22 Try.infoU8 rfl hacc rfl _ rfl (by unfold maxLen; omega) (by omega) (by omega) ?_)
          intro v' w' ho hg hb
          have HO : Hid (w'.ownsRow (w.heap.size + 1) 5 1 v' (pre.length + (8 - q)) (cs b8 (pre ++ (List.range (8 - q)).map (tagF g))) ∧ Below (w.heap.size + 1) w1 w') := by
            refine ⟨?_, HR.out.2.trans hb⟩
            rw [tag_snoc g q (by omega), show pre.length + (8 - q) = pre.length + (7 - q) + 1 from by omega]
            exact ho
          clear ho hg hb hacc
          go_wp2
          go_roundw
          case rel => exact ⟨q, by omega, by go_num, HO⟩
          case measure => simp [intOf]
end Go.Proofs.Ytomilmaeiokaaaa
