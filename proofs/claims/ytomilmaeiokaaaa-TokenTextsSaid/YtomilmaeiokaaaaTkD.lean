/-
  TOKENS, THE WALKS: decoded.
-/
import Derived.Test.YtomilmaeiokaaaaProg
import Derived.Test.YtomilmaeiokaaaaBase15
import Derived.Test.YtomilmaeiokaaaaMacP
import Derived.Test.YtomilmaeiokaaaaTokP
import Derived.Test.YtomilmaeiokaaaaTkP
import Derived.Test.YtomilmaeiokaaaaTok1
import Derived.Test.YtomilmaeiokaaaaTok2
import Derived.Test.YtomilmaeiokaaaaWire1
import Derived.Test.YtomilmaeiokaaaaWire2
import Derived.Test.YtomilmaeiokaaaaWire5
import Derived.Test.YtomilmaeiokaaaaTkE
import Derived.Test.YtomilmaeiokaaaaTkT
import Derived.Test.YtomilmaeiokaaaaTkV
import Derived.Test.YtomilmaeiokaaaaHeld
import Derived.BigQuiet
import Derived.Laws.StructEq
import Derived.StillTailTactics
import Derived.RegionTactic
import Derived.BigRegion
import Derived.Deep.DeepCutAuto
import Derived.Deep.QuietTactic
import Derived.WalkSpells
import Derived.WalkLawsBesides
namespace Go.Proofs.Ytomilmaeiokaaaa
open Go.RowKit
set_option linter.unusedVariables false

/-- A whole byte goes out. -/
def byteI (m : Nat) : UInt8 := UInt8.ofNat (((m : Nat) : Int) % 256).toNat
def decStep (s : List UInt8 × Nat × Nat) (v : Nat) : List UInt8 × Nat × Nat :=
  if 8 ≤ s.2.2 + 5 then (s.1 ++ [byteI (dv (s.2.1 * 32 + v) (s.2.2 + 5 - 8))], md (s.2.1 * 32 + v) (s.2.2 + 5 - 8), s.2.2 + 5 - 8) else (s.1, s.2.1 * 32 + v, s.2.2 + 5)
def decS (cs : List UInt8) : List UInt8 × Nat × Nat := cs.foldl (fun s c => decStep s (idxA c)) ([], 0, 0)
def decB (cs : List UInt8) : List UInt8 := (decS cs).1
theorem decS_snoc (cs : List UInt8) (c : UInt8) : decS (cs ++ [c]) = decStep (decS cs) (idxA c) := by unfold decS; rw [List.foldl_append]; rfl
structure DecI (s : List UInt8 × Nat × Nat) (k : Nat) : Prop where
  hb : s.2.2 < 8
  hg : s.2.1 < 2 ^ s.2.2
  hn : s.1.length * 8 + s.2.2 = 5 * k
theorem dec_zero : DecI ([], 0, 0) 0 := ⟨by decide, by decide, rfl⟩
theorem dec_lo {o : List UInt8} {G q k v : Nat} (h : DecI (o, G, q) k) (hv : v < 32) (hq : ¬ 8 ≤ q + 5) : decStep (o, G, q) v = (o, G * 32 + v, q + 5) ∧ DecI (o, G * 32 + v, q + 5) (k + 1) := by
  have h1 := h.hb; have h2 := h.hg; have h3 := h.hn
  dsimp only at h1 h2 h3
  refine ⟨by unfold decStep; rw [if_neg hq], by dsimp only; omega, ?_, by dsimp only; omega⟩
  dsimp only
  rw [Nat.pow_add]
  have : (G + 1) * 32 ≤ 2 ^ q * 32 := Nat.mul_le_mul_right 32 h2
  omega
theorem dec_hi {o : List UInt8} {G q k v p : Nat} (h : DecI (o, G, q) k) (hv : v < 32) (hp : q + 5 = p + 8) : decStep (o, G, q) v = (o ++ [byteI (dv (G * 32 + v) p)], md (G * 32 + v) p, p) ∧ DecI (o ++ [byteI (dv (G * 32 + v) p)], md (G * 32 + v) p, p) (k + 1) ∧ p ≤ 4 ∧ G * 32 + v < 4096 := by
  have h1 := h.hb; have h2 := h.hg; have h3 := h.hn
  dsimp only at h1 h2 h3
  have hG : G < 2 ^ 7 := Nat.lt_of_lt_of_le h2 (Nat.pow_le_pow_right (by decide) (by omega))
  refine ⟨by unfold decStep; rw [if_pos (by dsimp only; omega), show q + 5 - 8 = p from by omega], ⟨by dsimp only; omega, md_lt _ _, ?_⟩, by omega, by omega⟩
  dsimp only
  rw [List.length_append, List.length_singleton]
  omega
theorem str_idx (s : ByteArray) (k : Nat) (hk : k < s.data.toList.length) (w : World) : (Instr.index 9 (.string s) (.int .i64 (k : Int))).run Try.prog w = .ok (b8 (s.data.toList.getD k 0)) w := by
  have hs : s.size = s.data.toList.length := (Array.length_toList (xs := s.data)).symm
  rw [run_index_string w 9 _ .i64 (k : Int) Try.underlying9, dif_pos ⟨by omega, by omega⟩]
  unfold b8
  congr 2
  rw [List.getD, List.getElem?_eq_getElem hk]
  rfl
theorem shr_cast (G v p : Nat) (h : G * 32 + v < 9223372036854775808) (t : TypeId) : binOp .shr t (.int .i64 ((G : Int) * 32 + (v : Int))) (.int .i64 (p : Int)) = pure (.int .i64 ((dv (G * 32 + v) p : Nat) : Int)) := by
  have := i64_shr_n t (G * 32 + v) p h
  rw [show ((G * 32 + v : Nat) : Int) = (G : Int) * 32 + (v : Int) from by omega] at this
  exact this
theorem and_cast (G v p : Nat) (h : G * 32 + v < 4096) (hp : p ≤ 4) (t : TypeId) : binOp .and t (.int .i64 ((G : Int) * 32 + (v : Int))) (.int .i64 (p2 p - 1)) = pure (.int .i64 ((md (G * 32 + v) p : Nat) : Int)) := by
  have := i64_and_mask t (G * 32 + v) p (by omega) (by omega)
  rw [show ((G * 32 + v : Nat) : Int) = (G : Int) * 32 + (v : Int) from by omega] at this
  exact this
theorem decS_take (cs : List UInt8) (k : Nat) (hk : k < cs.length) : decS (cs.take (k + 1)) = decStep (decS (cs.take k)) (idxA (cs.getD k 0)) := by
  rw [List.take_add_one, List.getElem?_eq_getElem hk, ← decS_snoc]
  simp [List.getD, hk]
set_option maxRecDepth 100000 in
set_option maxHeartbeats 1000000 in
theorem decoded_ok (s : ByteArray) (w : World) (hlen : s.data.toList.length ≤ 200) (hall : ∀ j, j < s.data.toList.length → idxA (s.data.toList.getD j 0) < 32) : Calls Try.prog 51 #[.string s] w (fun e w' => ∃ a c, e = .returned (.slice a (decB s.data.toList).length c) ∧ Hid (Sl w' 1 a (decB s.data.toList).length c (cs b8 (decB s.data.toList))) ∧ Below w.heap.size w w') := by
  have hss : s.size = s.data.toList.length := (Array.length_toList (xs := s.data)).symm
  obtain ⟨L, hL⟩ : ∃ L, s.data.toList.length = L := ⟨_, rfl⟩
  rw [hL] at hlen hss hall
  have hL200 : (L : Int) ≤ 200 := by omega
  have hidx := fun k hk => str_idx s k hk
  obtain ⟨cl, hcl⟩ : ∃ cl, s.data.toList = cl := ⟨_, rfl⟩
  rw [hcl] at hL hidx hall ⊢
  have HALL := Lib.hid hall
  have HL := Lib.hid hL
  have HIDX := Lib.hid hidx
  clear hall hL hidx hcl
  obtain ⟨D, hDD⟩ : ∃ D, decB cl = D := ⟨_, rfl⟩
  rw [hDD]
  have HDD := Lib.hid hDD
  clear hDD
  go_enter Try.func51, Try.ntmps51
  go_wp2
  go_loopw [3, 4, 5, 6, 9] (fun v gg bb _ i wr => ∃ (k : Nat) (o : List UInt8) (G q : Nat), k ≤ L ∧ i = .int .i64 k ∧ gg = .int .i64 (G : Int) ∧ bb = .int .i64 (q : Int) ∧ Hid (decS (cl.take k) = (o, G, q) ∧ DecI (o, G, q) k) ∧ Hid (wr.ownsRow w.heap.size 5 1 v o.length (cs b8 o) ∧ Below w.heap.size w wr)) (fun _ _ _ _ i _ => L - (intOf i).toNat)
  case atStart => exact ⟨0, [], 0, 0, by omega, rfl, rfl, rfl, ⟨rfl, dec_zero⟩, World.ownsRow_nil _ _ _ _, Below.refl _ _⟩
  case round =>
    obtain ⟨k, o, G, q, hk, rfl, rfl, rfl, HG, HR⟩ := hrel
    obtain ⟨a0, c0, hv0, hs0⟩ := sl_of_own HR.out.1
    subst hv0
    have hq7 : q < 8 := HG.out.2.hb
    have hG128 : G < 128 := Nat.lt_of_lt_of_le HG.out.2.hg (Nat.pow_le_pow_right (by decide) (show q ≤ 7 by omega))
    have hol : o.length ≤ 200 := by have := HG.out.2.hn; dsimp only at this; omega
    by_cases hkL : k < L
    · have hkL' : (k : Int) < (L : Int) := by omega
      have hk0 : (0 : Int) ≤ (k : Int) := by omega
      have hsnoc := decS_take cl k (by rw [HL.out]; omega)
      rw [HG.out.1] at hsnoc
      have hvk := HALL.out k (by omega)
      have hix := HIDX.out k (by rw [HL.out]; omega)
      generalize cl.getD k 0 = c at *
      have hval := fun w => value_ok c w hvk
      have HVAL := Lib.hid hval
      have hlo := dec_lo (v := idxA c) HG.out.2 hvk
      have hhi := fun p => dec_hi (v := idxA c) (p := p) HG.out.2 hvk
      have HSN := Lib.hid hsnoc
      have HLO := Lib.hid hlo
      have HHI := Lib.hid hhi
      clear hval hsnoc hlo hhi hs0
      generalize idxA c = vv at *
      have hG6 : (G : Int) < 1000000 := by omega
      have hvv : (vv : Int) < 32 := by omega
      have hvv0 : (0 : Int) ≤ (vv : Int) := by omega
      have ho5 := fun t => i64_shl_5 t G hG6
      obtain ⟨g2, hg2⟩ : ∃ g2, G * 32 + vv = g2 := ⟨_, rfl⟩
      have hor : ∀ t, binOp .or t (.int .i64 ((G : Int) * 32)) (.int .i64 (vv : Int)) = pure (.int .i64 (g2 : Int)) := fun t => by rw [i64_or_5 t G vv hG6 hvv, show (G : Int) * 32 + (vv : Int) = (g2 : Int) from by omega]
      have HG2 := Lib.hid hg2
      clear hg2
      have hq8 : (q : Int) ≤ 7 := by omega
      go_wp2_with fail
      refine (HVAL.out _).mono ?_
      rintro e w1 ⟨rfl, hw⟩
      subst w1
      obtain ⟨b2, hb2⟩ : ∃ b2, q + 5 = b2 := ⟨_, rfl⟩
      have hq5 : (q : Int) + 5 = (b2 : Int) := by omega
      by_cases h8 : 8 ≤ q + 5
      · obtain ⟨p, hp⟩ : ∃ p, q + 5 = p + 8 := ⟨q + 5 - 8, by omega⟩
        have hhi2 := HHI.out p hp
        rw [HG2.out] at hhi2
        obtain ⟨d1, d2, d3, d4⟩ := hhi2
        have HD := Lib.hid (And.intro d1 d2)
        have h8' : (8 : Int) ≤ (b2 : Int) := by omega
        have hp8 : (b2 : Int) - 8 = (p : Int) := by omega
        have HB2 := Lib.hid hb2
        have hp0 : (0 : Int) ≤ (p : Int) := by omega
        have hp4 : (p : Int) ≤ 4 := by omega
        have hR := fun t => i64_shr_n t g2 p (by omega)
        have hS := fun t => i64_one_shl t p (by omega)
        have hA := fun t => i64_and_mask t g2 p (by omega) (by omega)
        have hpb := p2_bounds p (by omega)
        have hpb1 := hpb.1
        have hpb2 := hpb.2
        have hacc : Acc wr w.heap.size 5 1 (.slice a0 o.length c0) o.length (cs b8 o) := .own HR.out.1
        have hsz := HR.out.2.size
        clear h8 hp d1 d2 hpb HHI HLO hb2
        go_wp2_with (at_builtin; refine wpList_append_one b8 (fun _ => rfl) _ rfl _ _ 22 rfl w.heap.size 5 _ (.int .u8 0) 1 Try.underlying22 Try.infoU8 rfl hacc rfl _ rfl (by unfold maxLen; omega) (by omega) (by omega) ?_)
        intro v' w' ho hg hb
        have HO : Hid (w'.ownsRow w.heap.size 5 1 v' (o ++ [byteI (dv g2 p)]).length (cs b8 (o ++ [byteI (dv g2 p)])) ∧ Below w.heap.size w w') := ⟨by rw [List.length_append]; exact ho, HR.out.2.trans hb⟩
        clear ho hg hb hacc
        go_wp2
        go_roundw
        case rel => exact ⟨k + 1, o ++ [byteI (dv g2 p)], md g2 p, p, by omega, by go_num, by first | rfl | trivial, by first | rfl | trivial, ⟨by rw [HSN.out, HD.out.1], HD.out.2⟩, HO⟩
        case measure => simp [intOf]; omega
      · have h8' : ¬ (8 : Int) ≤ (b2 : Int) := by omega
        have hd := HLO.out h8
        rw [hb2, HG2.out] at hd
        have HD := Lib.hid hd
        clear h8 HHI HLO hd hb2 hvk hvv hvv0 hG6
        go_wp2
        go_roundw
        case rel => exact ⟨k + 1, o, g2, b2, by omega, by go_num, by first | rfl | (push_cast; rfl), by first | rfl | (push_cast; rfl), ⟨by rw [HSN.out, HD.out.1], HD.out.2⟩, HR⟩
        case measure => simp [intOf]; omega
    · have hkL' : ¬ (k : Int) < (L : Int) := by omega
      have hdec : D = o := by rw [← HDD.out]; unfold decB; rw [← List.take_of_length_le (show cl.length ≤ k by rw [HL.out]; omega), HG.out.1]
      have HS0 := Lib.hid hs0
      clear hs0 HDD HG
      subst hdec
      go_wp2
      go_ret
      exact ⟨_, _, rfl, HS0, HR.out.2⟩
set_option maxRecDepth 100000 in
set_option maxHeartbeats 1000000 in
theorem decoded_bad (s : ByteArray) (w : World) (hlen : s.data.toList.length ≤ 200) (m : Nat) (hm : m < s.data.toList.length) (hall : ∀ j, j < m → idxA (s.data.toList.getD j 0) < 32) (hbad : ¬ idxA (s.data.toList.getD m 0) < 32) : Calls Try.prog 51 #[.string s] w (fun e w' => e = .panicked badPanic ∧ Below w.heap.size w w') := by
  have hss : s.size = s.data.toList.length := (Array.length_toList (xs := s.data)).symm
  obtain ⟨L, hL⟩ : ∃ L, s.data.toList.length = L := ⟨_, rfl⟩
  rw [hL] at hlen hss hm
  have hL200 : (L : Int) ≤ 200 := by omega
  have hidx := fun k hk => str_idx s k hk
  obtain ⟨cl, hcl⟩ : ∃ cl, s.data.toList = cl := ⟨_, rfl⟩
  rw [hcl] at hL hidx hall hbad
  have HALL := Lib.hid hall
  have HL := Lib.hid hL
  have HIDX := Lib.hid hidx
  clear hall hL hidx hcl
  have HBAD := Lib.hid hbad
  clear hbad
  go_enter Try.func51, Try.ntmps51
  go_wp2
  go_loopw [3, 4, 5, 6, 9] (fun v gg bb _ i wr => ∃ (k : Nat) (o : List UInt8) (G q : Nat), k ≤ m ∧ i = .int .i64 k ∧ gg = .int .i64 (G : Int) ∧ bb = .int .i64 (q : Int) ∧ Hid (decS (cl.take k) = (o, G, q) ∧ DecI (o, G, q) k) ∧ Hid (wr.ownsRow w.heap.size 5 1 v o.length (cs b8 o) ∧ Below w.heap.size w wr)) (fun _ _ _ _ i _ => L - (intOf i).toNat)
  case atStart => exact ⟨0, [], 0, 0, by omega, rfl, rfl, rfl, ⟨rfl, dec_zero⟩, World.ownsRow_nil _ _ _ _, Below.refl _ _⟩
  case round =>
    obtain ⟨k, o, G, q, hk, rfl, rfl, rfl, HG, HR⟩ := hrel
    obtain ⟨a0, c0, hv0, hs0⟩ := sl_of_own HR.out.1
    subst hv0
    have hq7 : q < 8 := HG.out.2.hb
    have hG128 : G < 128 := Nat.lt_of_lt_of_le HG.out.2.hg (Nat.pow_le_pow_right (by decide) (show q ≤ 7 by omega))
    have hol : o.length ≤ 200 := by have := HG.out.2.hn; dsimp only at this; omega
    by_cases hkm : k < m
    · have hkL' : (k : Int) < (L : Int) := by omega
      have hk0 : (0 : Int) ≤ (k : Int) := by omega
      have hsnoc := decS_take cl k (by rw [HL.out]; omega)
      rw [HG.out.1] at hsnoc
      have hvk := HALL.out k (by omega)
      have hix := HIDX.out k (by rw [HL.out]; omega)
      generalize cl.getD k 0 = c at *
      have hval := fun w => value_ok c w hvk
      have HVAL := Lib.hid hval
      have hlo := dec_lo (v := idxA c) HG.out.2 hvk
      have hhi := fun p => dec_hi (v := idxA c) (p := p) HG.out.2 hvk
      have HSN := Lib.hid hsnoc
      have HLO := Lib.hid hlo
      have HHI := Lib.hid hhi
      clear hval hsnoc hlo hhi hs0
      generalize idxA c = vv at *
      have hG6 : (G : Int) < 1000000 := by omega
      have hvv : (vv : Int) < 32 := by omega
      have hvv0 : (0 : Int) ≤ (vv : Int) := by omega
      have ho5 := fun t => i64_shl_5 t G hG6
      obtain ⟨g2, hg2⟩ : ∃ g2, G * 32 + vv = g2 := ⟨_, rfl⟩
      have hor : ∀ t, binOp .or t (.int .i64 ((G : Int) * 32)) (.int .i64 (vv : Int)) = pure (.int .i64 (g2 : Int)) := fun t => by rw [i64_or_5 t G vv hG6 hvv, show (G : Int) * 32 + (vv : Int) = (g2 : Int) from by omega]
      have HG2 := Lib.hid hg2
      clear hg2
      have hq8 : (q : Int) ≤ 7 := by omega
      go_wp2_with fail
      refine (HVAL.out _).mono ?_
      rintro e w1 ⟨rfl, hw⟩
      subst w1
      obtain ⟨b2, hb2⟩ : ∃ b2, q + 5 = b2 := ⟨_, rfl⟩
      have hq5 : (q : Int) + 5 = (b2 : Int) := by omega
      by_cases h8 : 8 ≤ q + 5
      · obtain ⟨p, hp⟩ : ∃ p, q + 5 = p + 8 := ⟨q + 5 - 8, by omega⟩
        have hhi2 := HHI.out p hp
        rw [HG2.out] at hhi2
        obtain ⟨d1, d2, d3, d4⟩ := hhi2
        have HD := Lib.hid (And.intro d1 d2)
        have h8' : (8 : Int) ≤ (b2 : Int) := by omega
        have hp8 : (b2 : Int) - 8 = (p : Int) := by omega
        have HB2 := Lib.hid hb2
        have hp0 : (0 : Int) ≤ (p : Int) := by omega
        have hp4 : (p : Int) ≤ 4 := by omega
        have hR := fun t => i64_shr_n t g2 p (by omega)
        have hS := fun t => i64_one_shl t p (by omega)
        have hA := fun t => i64_and_mask t g2 p (by omega) (by omega)
        have hpb := p2_bounds p (by omega)
        have hpb1 := hpb.1
        have hpb2 := hpb.2
        have hacc : Acc wr w.heap.size 5 1 (.slice a0 o.length c0) o.length (cs b8 o) := .own HR.out.1
        have hsz := HR.out.2.size
        clear h8 hp d1 d2 hpb HHI HLO hb2
        go_wp2_with (at_builtin; refine wpList_append_one b8 (fun _ => rfl) _ rfl _ _ 22 rfl w.heap.size 5 _ (.int .u8 0) 1 Try.underlying22 Try.infoU8 rfl hacc rfl _ rfl (by unfold maxLen; omega) (by omega) (by omega) ?_)
        intro v' w' ho hg hb
        have HO : Hid (w'.ownsRow w.heap.size 5 1 v' (o ++ [byteI (dv g2 p)]).length (cs b8 (o ++ [byteI (dv g2 p)])) ∧ Below w.heap.size w w') := ⟨by rw [List.length_append]; exact ho, HR.out.2.trans hb⟩
        clear ho hg hb hacc
        go_wp2
        go_roundw
        case rel => exact ⟨k + 1, o ++ [byteI (dv g2 p)], md g2 p, p, by omega, by go_num, by first | rfl | trivial, by first | rfl | trivial, ⟨by rw [HSN.out, HD.out.1], HD.out.2⟩, HO⟩
        case measure => simp [intOf]; omega
      · have h8' : ¬ (8 : Int) ≤ (b2 : Int) := by omega
        have hd := HLO.out h8
        rw [hb2, HG2.out] at hd
        have HD := Lib.hid hd
        clear h8 HHI HLO hd hb2 hvk hvv hvv0 hG6
        go_wp2
        go_roundw
        case rel => exact ⟨k + 1, o, g2, b2, by omega, by go_num, by first | rfl | (push_cast; rfl), by first | rfl | (push_cast; rfl), ⟨by rw [HSN.out, HD.out.1], HD.out.2⟩, HR⟩
        case measure => simp [intOf]; omega
    · have hkm2 : k = m := by omega
      have hkL' : (k : Int) < (L : Int) := by omega
      have hk0 : (0 : Int) ≤ (k : Int) := by omega
      have hix := HIDX.out k (by rw [HL.out]; omega)
      have hval := fun w => value_bad (cl.getD k 0) w (by rw [hkm2]; exact HBAD.out)
      have HVAL := Lib.hid hval
      clear hval hs0 hkm2
      generalize cl.getD k 0 = c at *
      have hG6 : (G : Int) < 1000000 := by omega
      have ho5 := fun t => i64_shl_5 t G hG6
      go_wp2_with fail
      refine (HVAL.out _).mono ?_
      rintro e w1 ⟨rfl, hw⟩
      subst w1
      have HB := Lib.hid HR.out.2
      go_wp2
      simp [bodyPost]
      exact HB.out
end Go.Proofs.Ytomilmaeiokaaaa
