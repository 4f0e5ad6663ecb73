/-
  TOKENS, THE WALKS: Text.
-/
import Derived.Test.YtomilmaeiokaaaaProg
import Derived.Test.YtomilmaeiokaaaaBase15
import Derived.Test.YtomilmaeiokaaaaMacP
import Derived.Test.YtomilmaeiokaaaaTokP
import Derived.Test.YtomilmaeiokaaaaTkP
import Derived.Test.YtomilmaeiokaaaaTok1
import Derived.Test.YtomilmaeiokaaaaTok2
import Derived.Test.YtomilmaeiokaaaaWire1
import Derived.Test.YtomilmaeiokaaaaWire2
import Derived.Test.YtomilmaeiokaaaaWire5
import Derived.Test.YtomilmaeiokaaaaTkE
import Derived.Test.YtomilmaeiokaaaaHeld
import Derived.BigQuiet
import Derived.Laws.StructEq
import Derived.StillTailTactics
import Derived.RegionTactic
import Derived.BigRegion
import Derived.Deep.DeepCutAuto
import Derived.Deep.QuietTactic
import Derived.WalkSpells
import Derived.WalkLawsBesides
namespace Go.Proofs.Ytomilmaeiokaaaa
open Go.RowKit
set_option linter.unusedVariables false

theorem alpha_idx (m : Nat) (h : m < 32) (w : World) : (Instr.index 9 (.string ⟨#[48, 49, 50, 51, 52, 53, 54, 55, 56, 57, 97, 98, 99, 100, 101, 102, 103, 104, 106, 107, 109, 110, 112, 113, 114, 115, 116, 118, 119, 120, 121, 122]⟩) (.int .i64 (m : Int))).run Try.prog w = .ok (b8 (alpha m)) w := by
  rw [run_index_string w 9 _ .i64 (m : Int) Try.underlying9, dif_pos ⟨by omega, by have : ByteArray.size ⟨#[48, 49, 50, 51, 52, 53, 54, 55, 56, 57, 97, 98, 99, 100, 101, 102, 103, 104, 106, 107, 109, 110, 112, 113, 114, 115, 116, 118, 119, 120, 121, 122]⟩ = 32 := rfl; omega⟩]
  have hall : ∀ q : Fin 32, (alphaL.getD q.val 0).toNat = (ByteArray.get ⟨#[48, 49, 50, 51, 52, 53, 54, 55, 56, 57, 97, 98, 99, 100, 101, 102, 103, 104, 106, 107, 109, 110, 112, 113, 114, 115, 116, 118, 119, 120, 121, 122]⟩ q.val (by have := q.isLt; exact this)).toNat := by decide
  have := hall ⟨m, h⟩
  unfold b8 alpha
  congr 2
  rw [this]
  rfl
set_option maxRecDepth 100000 in
set_option maxHeartbeats 1000000 in
theorem text_bad (b r d f t n : Int) (g : BitVec 64) (w : World) (hbad : Hid (Tok.chk ⟨b, r, d, f, t, n⟩ = 1)) : Calls Try.prog 29 #[.agg #[.int .i64 b, .int .i64 r, .int .i64 d, .int .i64 f, .int .i64 t, .int .i64 n, u64 g]] w (RetB (.tuple #[.string ⟨#[]⟩, .int .i64 1]) w) := by
  have HQ := Lib.hid (below_alloc w (.cells #[.int .i64 b, .int .i64 r, .int .i64 d, .int .i64 f, .int .i64 t, .int .i64 n, u64 g] 36))
  have hck := fun w => check_any b r d f t n g w
  rw [hbad.out] at hck
  have HCK := Lib.hid hck
  clear hck
  go_enter Try.func29, Try.ntmps29
  go_wp2_with fail
  refine (HCK.out _).mono ?_
  rintro e w1 ⟨rfl, hb1⟩
  have HQ1 := Lib.hid (below_step HQ.out hb1)
  clear hb1
  go_wp2
  go_ret2
  exact ⟨rfl, HQ1.out⟩
set_option maxRecDepth 100000 in
set_option maxHeartbeats 1000000 in
theorem text_ok (b r d f t n : Int) (g : BitVec 64) (w : World) (hok : ¬ Tok.bad ⟨b, r, d, f, t, n⟩) : Calls Try.prog 29 #[.agg #[.int .i64 b, .int .i64 r, .int .i64 d, .int .i64 f, .int .i64 t, .int .i64 n, u64 g]] w (RetB (.tuple #[.string ⟨(txtB (encB b r d f t n g)).toArray⟩, .int .i64 0]) w) := by
  have HQ : Hid (BlkAt (w.alloc (.cells #[.int .i64 b, .int .i64 r, .int .i64 d, .int .i64 f, .int .i64 t, .int .i64 n, u64 g] 36)) w.heap.size #[.int .i64 b, .int .i64 r, .int .i64 d, .int .i64 f, .int .i64 t, .int .i64 n, u64 g] ∧ Below w.heap.size w (w.alloc (.cells #[.int .i64 b, .int .i64 r, .int .i64 d, .int .i64 f, .int .i64 t, .int .i64 n, u64 g] 36))) := ⟨blkNew rfl, below_alloc _ _⟩
  have hck := fun w => check_any b r d f t n g w
  rw [chk_ok hok] at hck
  have HCK := Lib.hid hck
  have HEN := Lib.hid (fun w => encoded_any b r d f t n g w hok)
  have hlen := encB_len b r d f t n g
  clear hck hok
  obtain ⟨bs, hbs⟩ : ∃ bs, encB b r d f t n g = bs := ⟨_, rfl⟩
  rw [hbs] at hlen HEN ⊢
  clear hbs
  obtain ⟨L, hL⟩ : ∃ L, bs.length = L := ⟨_, rfl⟩
  rw [hL] at hlen HEN
  have HL := Lib.hid hL
  clear hL
  have hL68 : (L : Int) ≤ 68 := by omega
  go_enter Try.func29, Try.ntmps29
  go_wp2_with fail
  refine (HCK.out _).mono ?_
  rintro e w1 ⟨rfl, hb1⟩
  have HQ1 : Hid (BlkAt w1 w.heap.size #[.int .i64 b, .int .i64 r, .int .i64 d, .int .i64 f, .int .i64 t, .int .i64 n, u64 g] ∧ Below w.heap.size w w1) := ⟨blkBelow hb1 HQ.out.1, below_step HQ.out.2 hb1⟩
  clear hb1 HQ
  obtain ⟨z0, z1, z2, z3, z4, z5, z6⟩ := tok_cells (w := w) (E := 0) HQ1.out.1
  go_wp2_with fail
  refine (HEN.out _).mono ?_
  rintro e w2 ⟨a2, c2, rfl, HS2, hb2⟩
  have HQ2 := Lib.hid (below_step HQ1.out.2 hb2)
  clear hb2 HQ1 z0 z1 z2 z3 z4 z5 z6
  go_upto_region 7 with (fail)
  go_loopw [5, 6, 7, 9, 18] (fun v gg bb cc i wr => ∃ (k : Nat) (o : List UInt8) (G q : Nat), k ≤ L ∧ i = .int .i64 k ∧ gg = .int .i64 (G : Int) ∧ bb = .int .i64 (q : Int) ∧ Hid (txtS (bs.take k) = (o, G, q) ∧ GrpI (o, G, q) k) ∧ Hid (wr.ownsRow w2.heap.size 5 1 v o.length (cs b8 o) ∧ Below w2.heap.size w2 wr)) (fun _ _ _ _ i _ => L - (intOf i).toNat)
  case atStart => exact ⟨0, [], 0, 0, by omega, rfl, rfl, rfl, ⟨rfl, grp_zero⟩, World.ownsRow_nil _ _ _ _, Below.refl _ _⟩
  case round =>
    obtain ⟨k, o, G, q, hk, rfl, rfl, rfl, HG, HR⟩ := hrel
    obtain ⟨wo, hwo⟩ : ∃ wo : World, wo = wr := ⟨_, rfl⟩
    subst hwo
    obtain ⟨a0, c0, hv0, hs0⟩ := sl_of_own HR.out.1
    subst hv0
    have hq4 : q < 5 := HG.out.2.hb
    have hG16 : G < 16 := Nat.lt_of_lt_of_le HG.out.2.hg (Nat.pow_le_pow_right (by decide) (show q ≤ 4 by omega))
    by_cases hkL : k < L
    · clear hs0
      have hkL' : (k : Int) < (L : Int) := by omega
      have hk0 : (0 : Int) ≤ (k : Int) := by omega
      obtain ⟨b1, o1, e1, hc1⟩ := (HS2.out.ext HR.out.2).at_ k hkL 0
      subst e1
      have hsnoc : txtS (bs.take (k + 1)) = txtStep (o, G, q) (bs.getD k 0) := by
        rw [← HG.out.1, ← txtS_snoc, List.take_add_one, List.getElem?_eq_getElem (by rw [HL.out]; exact hkL)]
        simp [List.getD, show k < bs.length from by rw [HL.out]; exact hkL]
      have HSN := Lib.hid hsnoc
      generalize bs.getD k 0 = c at *
      have hc256 : (c.toNat : Int) < 256 := by have := c.toNat_lt; omega
      have hc0 : (0 : Int) ≤ (c.toNat : Int) := by omega
      have hG6 : (G : Int) < 1000000 := by omega
      have hq8 : (q : Int) ≤ 4 := by omega
      have ho8 := fun t => i64_shl_8 t G hG6
      have hor := fun t => i64_or_8 t G c.toNat hG6 hc256
      have hin := grp_in c HG.out.2
      have HJ : Hid (grpN 2 (o, G * 256 + c.toNat, q + 8) = txtStep (o, G, q) c ∧ q + 8 ≤ 4 + 5 * 2 ∧ GrpJ o (G * 256 + c.toNat) (q + 8) (k + 1)) := ⟨rfl, by omega, hin⟩
      clear hsnoc hin
      go_upto_region 10 with (fail)
      go_loopw [5, 6, 7] (fun v gg bb wr => ∃ (o' : List UInt8) (G' b' f' : Nat), gg = .int .i64 (G' : Int) ∧ bb = .int .i64 (b' : Int) ∧ Hid (grpN f' (o', G', b') = txtStep (o, G, q) c ∧ b' ≤ 4 + 5 * f' ∧ GrpJ o' G' b' (k + 1)) ∧ Hid (wr.ownsRow w2.heap.size 5 1 v o'.length (cs b8 o') ∧ Below w2.heap.size w2 wr)) (fun _ _ b' _ => (intOf b').toNat)
      case atStart => exact ⟨o, G * 256 + c.toNat, q + 8, 2, by first | rfl | (push_cast; rfl), by first | rfl | (push_cast; rfl), HJ, HR⟩
      case round =>
        obtain ⟨o', G', b', f', rfl, rfl, HJ2, HR2⟩ := hrel
        obtain ⟨a3, c3, hv3, _⟩ := sl_of_own HR2.out.1
        subst hv3
        have hb12 := HJ2.out.2.2.hb
        have hG4 : G' < 4096 := Nat.lt_of_lt_of_le HJ2.out.2.2.hg (Nat.pow_le_pow_right (by decide) hb12)
        have hol : o'.length ≤ 200 := by have := HJ2.out.2.2.hn; omega
        by_cases h5 : 5 ≤ b'
        · obtain ⟨p, hbp⟩ : ∃ p, b' = p + 5 := ⟨b' - 5, by omega⟩
          obtain ⟨f2, rfl⟩ : ∃ f2, f' = f2 + 1 := ⟨f' - 1, by have := HJ2.out.2.1; omega⟩
          have h5' : (5 : Int) ≤ (b' : Int) := by omega
          have hp5 : (b' : Int) - 5 = (p : Int) := by omega
          have hJ2 := HJ2.out
          rw [hbp] at hJ2
          have hp0 : (0 : Int) ≤ (p : Int) := by omega
          have hp7 : (p : Int) ≤ 7 := by omega
          have hGn : G' < 9223372036854775808 := by omega
          have hGi : (G' : Int) < 1000000000000 := by omega
          have hpb := p2_bounds p (by omega)
          have hpb1 := hpb.1
          have hpb2 := hpb.2
          have hpq : (p : Int) ≤ 40 := by omega
          have hR := fun t => i64_shr_n t G' p hGn
          have hS := fun t => i64_one_shl t p hpq
          have hA := fun t => i64_and_mask t G' p hGi hpq
          have hidx := fun w => alpha_idx (dv G' p) (alpha_pow hJ2.2.2.hg) w
          have hacc : Acc wr w2.heap.size 5 1 (.slice a3 o'.length c3) o'.length (cs b8 o') := .own HR2.out.1
          have hsz := HR2.out.2.size
          have HJ3 : Hid (grpN f2 (o' ++ [alpha (dv G' p)], md G' p, p) = txtStep (o, G, q) c ∧ p ≤ 4 + 5 * f2 ∧ GrpJ (o' ++ [alpha (dv G' p)]) (md G' p) p (k + 1)) := ⟨by rw [← grpN_go]; exact hJ2.1, by have := hJ2.2.1; omega, grp_out hJ2.2.2⟩
          have HBP := Lib.hid hbp
          clear hpb hb12 h5 hJ2 hbp
          go_wp2_with (at_builtin; refine wpList_append_one b8 (fun _ => rfl) _ rfl _ _ 22 rfl w2.heap.size 5 _ (.int .u8 0) 1 Try.underlying22 Try.infoU8 rfl hacc rfl _ rfl (by unfold maxLen; omega) (by omega) (by omega) ?_)
          intro v' w' ho hg hb
          have HO : Hid (w'.ownsRow w2.heap.size 5 1 v' (o' ++ [alpha (dv G' p)]).length (cs b8 (o' ++ [alpha (dv G' p)])) ∧ Below w2.heap.size w2 w') := ⟨by rw [List.length_append]; exact ho, HR2.out.2.trans hb⟩
          clear ho hg hb hacc hidx
          go_wp2
          go_roundw
          case rel => exact ⟨o' ++ [alpha (dv G' p)], md G' p, p, f2, by first | rfl | trivial, by first | rfl | trivial, HJ3, HO⟩
          case measure => have := HBP.out; simp [intOf]; omega
        · have h5' : ¬ (5 : Int) ≤ (b' : Int) := by omega
          have hfin := HJ2.out.1
          rw [grpN_stop (by omega)] at hfin
          have HFIN := Lib.hid hfin
          have hGI := grp_done HJ2.out.2.2 (by omega)
          have HGI := Lib.hid hGI
          clear hfin hGI
          go_wp2
          go_roundw
          case rel => exact ⟨k + 1, o', G', b', by omega, by go_num, rfl, rfl, ⟨by rw [HSN.out, HFIN.out], HGI.out⟩, HR2⟩
          case measure => simp [intOf]; omega
    · have hkL' : ¬ (k : Int) < (L : Int) := by omega
      have htxt : txtS bs = (o, G, q) := by rw [← HG.out.1, List.take_of_length_le (by rw [HL.out]; omega)]
      have hol : o.length ≤ 200 := by have := HG.out.2.hn; dsimp only at this; omega
      by_cases hq0 : 0 < q
      · have hq0' : (0 : Int) < (q : Int) := by omega
        obtain ⟨rr, hrr⟩ : ∃ rr, q + rr = 5 := ⟨5 - q, by omega⟩
        have hr5 : (5 : Int) - (q : Int) = (rr : Int) := by omega
        have hsl : sl2 G rr < 32 := sl_pow HG.out.2.hg hrr
        have hshl := fun t => i64_shl_n t G rr (by omega) (by omega)
        have hidx := fun w => alpha_idx (sl2 G rr) hsl w
        have hacc : Acc wo w2.heap.size 5 1 (.slice a0 o.length c0) o.length (cs b8 o) := .own HR.out.1
        have hsz := HR.out.2.size
        have HT : Hid (txtB bs = o ++ [alpha (sl2 G rr)]) := by
          show _ = _
          unfold txtB
          rw [htxt]
          dsimp only
          rw [if_pos hq0, show 5 - q = rr from by omega]
        clear htxt
        go_wp2_with (at_builtin; refine wpList_append_one b8 (fun _ => rfl) _ rfl _ _ 22 rfl w2.heap.size 5 _ (.int .u8 0) 1 Try.underlying22 Try.infoU8 rfl hacc rfl _ rfl (by unfold maxLen; omega) (by omega) (by omega) ?_)
        intro v' w' ho hg hb
        obtain ⟨a5, c5, hv5, hs5⟩ := sl_of_own ho
        subst hv5
        have HB5 := Lib.hid (below_step HQ2.out (HR.out.2.trans hb))
        clear ho hg hb hacc hidx
        go_wp2_with (with_reducible refine wpList_b2s _ rfl 22 9 5 _ rfl Try.underlying22 Try.underlying9 Try.underlying5 hs5 rfl ?_)
        go_ret2
        rw [HT.out]
        exact ⟨rfl, HB5.out⟩
      · have hq0' : ¬ (0 : Int) < (q : Int) := by omega
        have HT : Hid (txtB bs = o) := by
          show _ = _
          unfold txtB
          rw [htxt]
          dsimp only
          rw [if_neg hq0]
        have HB5 := Lib.hid (below_step HQ2.out HR.out.2)
        clear htxt
        go_wp2_with (with_reducible refine wpList_b2s _ rfl 22 9 5 _ rfl Try.underlying22 Try.underlying9 Try.underlying5 hs0 rfl ?_)
        go_ret2
        rw [HT.out]
        exact ⟨rfl, HB5.out⟩
end Go.Proofs.Ytomilmaeiokaaaa
