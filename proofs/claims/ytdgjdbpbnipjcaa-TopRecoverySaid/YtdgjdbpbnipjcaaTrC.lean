/-
  JOURNALS: event.Decode of what Encode wrote.
-/
import Derived.Test.YtdgjdbpbnipjcaaProg
import Derived.Test.YtdgjdbpbnipjcaaTrB
import Derived.Test.YtdgjdbpbnipjcaaTrU
import Derived.Test.YtdgjdbpbnipjcaaBase7
import Derived.Test.YtdgjdbpbnipjcaaWireP5
import Derived.BigQuiet
import Derived.Deep.QuietTactic
import Derived.WalkSpells
import Derived.WalkLawsBesides
import Derived.Test.YtdgjdbpbnipjcaaFlat
import Derived.Laws.StructEq
import Derived.StillTailTactics
import Derived.RegionTactic
import Derived.Deep.DeepCutAuto
namespace Go.Proofs.Ytdgjdbpbnipjcaa
open Go.RowKit
set_option linter.unusedVariables false

theorem int_valR {bs : List UInt8} {at_ n nx er : Int} {ao : Option Addr} {len cap : Nat} {w : World} (hs : Sl w 1 ao len cap (cs b8 bs)) (hlen : len ≤ 1000000000000) (hr : Hid (intRes bs at_ = (n, nx, er))) :
    Calls Try.prog 23 #[.slice ao len cap, .int .i64 at_] w (fun e w' => e = .returned (.tuple #[.int .i64 n, .int .i64 nx, .int .i64 er]) ∧ w = w') :=
  (int_any bs at_ ao len cap w hs hlen).mono fun _ _ ⟨h, h'⟩ => ⟨by rw [h, hr.out]; rfl, h'⟩
theorem int_at (x : EvL) (hx : EvR x) (q : Nat) (n : Int) (h : (evL x)[q]? = some n) : intRes (encE x) ((outE x q).length : Int) = (n, ((outE x (q + 1)).length : Int), 0) := by
  have hq : q < (evL x).length := by
    rcases Nat.lt_or_ge q (evL x).length with h' | h'
    · exact h'
    · rw [List.getElem?_eq_none h'] at h; cases h
  have e : encE x = outE x q ++ (putInt n ++ ((evL x).drop (q + 1)).flatMap putInt) := by
    rw [← List.append_assoc, ← outE_succ x q n h]
    unfold encE outE; rw [← List.flatMap_append, List.take_append_drop]
  have hn := hx n (List.mem_of_getElem? h)
  rw [e, intRes_put _ _ n hn.1 hn.2, outE_succ x q n h, List.length_append, Int.natCast_add]
set_option maxRecDepth 100000 in
set_option maxHeartbeats 4000000 in
theorem decode_any (x : EvL) (hx : EvR x) (ao : Option Addr) (len cap : Nat) (w : World) (hs : Sl w 1 ao len cap (cs b8 (encE x))) :
    Calls Try.prog 18 #[.slice ao len cap] w (RetB (.tuple #[.agg (evA x), .int .i64 0]) w) := by
  have hc := hs.count
  have hl90 := encE_len x
  have HX : Hid (∃ E : Nat → Nat, (∀ q, E q = (outE x q).length) ∧ E 0 = 0 ∧ E 9 = len) := Lib.hid ⟨fun q => (outE x q).length, fun q => rfl, rfl, hc⟩
  obtain ⟨E, hE, hE0, hE9⟩ := HX.out
  have hlen : len ≤ 90 := by omega
  clear hc hl90
  have H9 := Lib.hid hE9
  have H0 := Lib.hid hE0
  have HS : Hid (∀ q n, (evL x)[q]? = some n → intRes (encE x) (E q : Int) = (n, (E (q + 1) : Int), 0)) := Lib.hid (fun q n h => by rw [hE, hE]; exact int_at x hx q n h)
  clear hE0 hE9 hE HX hx
  generalize encE x = bs at *
  obtain ⟨d, s, a, l, k, b, p, r, e⟩ := x
  dsimp only [evA]
  go_enter Try.func18, Try.ntmps18
  go_wp2_with fail
  have HB0 : Hid (BlkAt ((w.alloc (.cells #[.int .i64 0, .int .i64 0, .int .i64 0, .int .i64 0, .int .i64 0, .int .i64 0, .int .i64 0, .int .i64 0, .int .i64 0] 27)).alloc (.cells #[.int .i64 0, .int .i64 0, .int .i64 0, .int .i64 0, .int .i64 0, .int .i64 0, .int .i64 0, .int .i64 0, .int .i64 0] 63)) w.heap.size #[.int .i64 0, .int .i64 0, .int .i64 0, .int .i64 0, .int .i64 0, .int .i64 0, .int .i64 0, .int .i64 0, .int .i64 0]) := Lib.hid (blkOld (blkNew rfl))
  have HB1 : Hid (BlkAt ((w.alloc (.cells #[.int .i64 0, .int .i64 0, .int .i64 0, .int .i64 0, .int .i64 0, .int .i64 0, .int .i64 0, .int .i64 0, .int .i64 0] 27)).alloc (.cells #[.int .i64 0, .int .i64 0, .int .i64 0, .int .i64 0, .int .i64 0, .int .i64 0, .int .i64 0, .int .i64 0, .int .i64 0] 63)) (w.heap.size + 1) #[.int .i64 0, .int .i64 0, .int .i64 0, .int .i64 0, .int .i64 0, .int .i64 0, .int .i64 0, .int .i64 0, .int .i64 0]) := Lib.hid (blkNew (by simp))
  have HW : Hid (Below w.heap.size w ((w.alloc (.cells #[.int .i64 0, .int .i64 0, .int .i64 0, .int .i64 0, .int .i64 0, .int .i64 0, .int .i64 0, .int .i64 0, .int .i64 0] 27)).alloc (.cells #[.int .i64 0, .int .i64 0, .int .i64 0, .int .i64 0, .int .i64 0, .int .i64 0, .int .i64 0, .int .i64 0, .int .i64 0] 63))) := Lib.hid (below_step (below_alloc _ _) (below_alloc _ _))
  generalize (w.alloc (.cells #[.int .i64 0, .int .i64 0, .int .i64 0, .int .i64 0, .int .i64 0, .int .i64 0, .int .i64 0, .int .i64 0, .int .i64 0] 27)).alloc (.cells #[.int .i64 0, .int .i64 0, .int .i64 0, .int .i64 0, .int .i64 0, .int .i64 0, .int .i64 0, .int .i64 0, .int .i64 0] 63) = W1 at *
  go_loopw [10, 5] (fun i t wr => ∃ (q : Nat) (C : Array Value), q ≤ 9 ∧ i = .int .i64 (q : Int) ∧ t = .int .i64 (E q : Int) ∧ Hid (BlkAt wr w.heap.size #[.int .i64 0, .int .i64 0, .int .i64 0, .int .i64 0, .int .i64 0, .int .i64 0, .int .i64 0, .int .i64 0, .int .i64 0]) ∧ Hid (BlkAt wr (w.heap.size + 1) C) ∧ Hid (C = #[.int .i64 (if 0 < q then d else 0), .int .i64 (if 1 < q then s else 0), .int .i64 (if 2 < q then a else 0), .int .i64 (if 3 < q then l else 0), .int .i64 (if 4 < q then k else 0), .int .i64 (if 5 < q then b else 0), .int .i64 (if 6 < q then p else 0), .int .i64 (if 7 < q then r else 0), .int .i64 (if 8 < q then e else 0)]) ∧ Hid (Below w.heap.size w wr))
    (fun i _ _ => 9 - (intOf i).toNat)
  case atStart => exact ⟨0, _, by omega, rfl, by rw [H0.out]; rfl, HB0, HB1, Lib.hid (by simp), HW⟩
  case round =>
    obtain ⟨q, C, hq, rfl, rfl, hb0, hb1, hC, hw⟩ := hrel
    have hs1 := Lib.hid (hs.ext hw.out)
    rcases (by omega : q = 0 ∨ q = 1 ∨ q = 2 ∨ q = 3 ∨ q = 4 ∨ q = 5 ∨ q = 6 ∨ q = 7 ∨ q = 8 ∨ q = 9) with rfl | rfl | rfl | rfl | rfl | rfl | rfl | rfl | rfl | rfl
    case inr.inr.inr.inr.inr.inr.inr.inr.inr =>
      have hC' : C = #[.int .i64 d, .int .i64 s, .int .i64 a, .int .i64 l, .int .i64 k, .int .i64 b, .int .i64 p, .int .i64 r, .int .i64 e] := by rw [hC.out]; simp
      subst hC'
      have hl9 := H9.out
      rw [hl9]
      obtain ⟨c0, c1, c2, c3, c4, c5, c6, c7, c8⟩ := nine_cellsE hb1.out
      obtain ⟨z0, z1, z2, z3, z4, z5, z6, z7, z8⟩ := nine_cellsE hb0.out
      have f0 := blkU_frozen (i := 0) hb0.out
      have f1 := blkU_frozen (i := 1) hb0.out
      have f2 := blkU_frozen (i := 2) hb0.out
      have f3 := blkU_frozen (i := 3) hb0.out
      have f4 := blkU_frozen (i := 4) hb0.out
      have f5 := blkU_frozen (i := 5) hb0.out
      have f6 := blkU_frozen (i := 6) hb0.out
      have f7 := blkU_frozen (i := 7) hb0.out
      have f8 := blkU_frozen (i := 8) hb0.out
      go_wp2
      refine bodyPost_ret (v := .tuple #[.agg #[.int .i64 d, .int .i64 s, .int .i64 a, .int .i64 l, .int .i64 k, .int .i64 b, .int .i64 p, .int .i64 r, .int .i64 e], .int .i64 0]) ?_ rfl ⟨rfl, ?_⟩
      · rw [results_cell_tmpU rfl]
        go_simp
      · iterate 9 (with_reducible refine below_set0 ?_)
        exact hw.out
    case inl =>
      have hC' : C = #[.int .i64 0, .int .i64 0, .int .i64 0, .int .i64 0, .int .i64 0, .int .i64 0, .int .i64 0, .int .i64 0, .int .i64 0] := by rw [hC.out]; simp
      subst hC'
      have HE := Lib.hid (HS.out 0 d rfl)
      have hc := blkU_cell (i := 0) hb1.out rfl
      have hf := blkU_frozen (i := 0) hb1.out
      go_wp2_with fail
      refine (int_valR hs1.out (by omega) HE).mono ?_
      rintro e' w2 ⟨rfl, rfl⟩
      go_wp2_with fail
      go_roundw
      case rel =>
        refine ⟨0 + 1, #[.int .i64 d, .int .i64 0, .int .i64 0, .int .i64 0, .int .i64 0, .int .i64 0, .int .i64 0, .int .i64 0, .int .i64 0], by omega, rfl, rfl, Lib.hid (blkU_off hb0.out (by simp)), Lib.hid (blkU_set hb1.out), Lib.hid (by simp), Lib.hid (hw.out.setCell (by simp) _)⟩
      case measure => simp [intOf]
    case inr.inl =>
      have hC' : C = #[.int .i64 d, .int .i64 0, .int .i64 0, .int .i64 0, .int .i64 0, .int .i64 0, .int .i64 0, .int .i64 0, .int .i64 0] := by rw [hC.out]; simp
      subst hC'
      have HE := Lib.hid (HS.out 1 s rfl)
      have hc := blkU_cell (i := 1) hb1.out rfl
      have hf := blkU_frozen (i := 1) hb1.out
      go_wp2_with fail
      refine (int_valR hs1.out (by omega) HE).mono ?_
      rintro e' w2 ⟨rfl, rfl⟩
      go_wp2_with fail
      go_roundw
      case rel =>
        refine ⟨1 + 1, #[.int .i64 d, .int .i64 s, .int .i64 0, .int .i64 0, .int .i64 0, .int .i64 0, .int .i64 0, .int .i64 0, .int .i64 0], by omega, rfl, rfl, Lib.hid (blkU_off hb0.out (by simp)), Lib.hid (blkU_set hb1.out), Lib.hid (by simp), Lib.hid (hw.out.setCell (by simp) _)⟩
      case measure => simp [intOf]
    case inr.inr.inl =>
      have hC' : C = #[.int .i64 d, .int .i64 s, .int .i64 0, .int .i64 0, .int .i64 0, .int .i64 0, .int .i64 0, .int .i64 0, .int .i64 0] := by rw [hC.out]; simp
      subst hC'
      have HE := Lib.hid (HS.out 2 a rfl)
      have hc := blkU_cell (i := 2) hb1.out rfl
      have hf := blkU_frozen (i := 2) hb1.out
      go_wp2_with fail
      refine (int_valR hs1.out (by omega) HE).mono ?_
      rintro e' w2 ⟨rfl, rfl⟩
      go_wp2_with fail
      go_roundw
      case rel =>
        refine ⟨2 + 1, #[.int .i64 d, .int .i64 s, .int .i64 a, .int .i64 0, .int .i64 0, .int .i64 0, .int .i64 0, .int .i64 0, .int .i64 0], by omega, rfl, rfl, Lib.hid (blkU_off hb0.out (by simp)), Lib.hid (blkU_set hb1.out), Lib.hid (by simp), Lib.hid (hw.out.setCell (by simp) _)⟩
      case measure => simp [intOf]
    case inr.inr.inr.inl =>
      have hC' : C = #[.int .i64 d, .int .i64 s, .int .i64 a, .int .i64 0, .int .i64 0, .int .i64 0, .int .i64 0, .int .i64 0, .int .i64 0] := by rw [hC.out]; simp
      subst hC'
      have HE := Lib.hid (HS.out 3 l rfl)
      have hc := blkU_cell (i := 3) hb1.out rfl
      have hf := blkU_frozen (i := 3) hb1.out
      go_wp2_with fail
      refine (int_valR hs1.out (by omega) HE).mono ?_
      rintro e' w2 ⟨rfl, rfl⟩
      go_wp2_with fail
      go_roundw
      case rel =>
        refine ⟨3 + 1, #[.int .i64 d, .int .i64 s, .int .i64 a, .int .i64 l, .int .i64 0, .int .i64 0, .int .i64 0, .int .i64 0, .int .i64 0], by omega, rfl, rfl, Lib.hid (blkU_off hb0.out (by simp)), Lib.hid (blkU_set hb1.out), Lib.hid (by simp), Lib.hid (hw.out.setCell (by simp) _)⟩
      case measure => simp [intOf]
    case inr.inr.inr.inr.inl =>
      have hC' : C = #[.int .i64 d, .int .i64 s, .int .i64 a, .int .i64 l, .int .i64 0, .int .i64 0, .int .i64 0, .int .i64 0, .int .i64 0] := by rw [hC.out]; simp
      subst hC'
      have HE := Lib.hid (HS.out 4 k rfl)
      have hc := blkU_cell (i := 4) hb1.out rfl
      have hf := blkU_frozen (i := 4) hb1.out
      go_wp2_with fail
      refine (int_valR hs1.out (by omega) HE).mono ?_
      rintro e' w2 ⟨rfl, rfl⟩
      go_wp2_with fail
      go_roundw
      case rel =>
        refine ⟨4 + 1, #[.int .i64 d, .int .i64 s, .int .i64 a, .int .i64 l, .int .i64 k, .int .i64 0, .int .i64 0, .int .i64 0, .int .i64 0], by omega, rfl, rfl, Lib.hid (blkU_off hb0.out (by simp)), Lib.hid (blkU_set hb1.out), Lib.hid (by simp), Lib.hid (hw.out.setCell (by simp) _)⟩
      case measure => simp [intOf]
    case inr.inr.inr.inr.inr.inl =>
      have hC' : C = #[.int .i64 d, .int .i64 s, .int .i64 a, .int .i64 l, .int .i64 k, .int .i64 0, .int .i64 0, .int .i64 0, .int .i64 0] := by rw [hC.out]; simp
      subst hC'
      have HE := Lib.hid (HS.out 5 b rfl)
      have hc := blkU_cell (i := 5) hb1.out rfl
      have hf := blkU_frozen (i := 5) hb1.out
      go_wp2_with fail
      refine (int_valR hs1.out (by omega) HE).mono ?_
      rintro e' w2 ⟨rfl, rfl⟩
      go_wp2_with fail
      go_roundw
      case rel =>
        refine ⟨5 + 1, #[.int .i64 d, .int .i64 s, .int .i64 a, .int .i64 l, .int .i64 k, .int .i64 b, .int .i64 0, .int .i64 0, .int .i64 0], by omega, rfl, rfl, Lib.hid (blkU_off hb0.out (by simp)), Lib.hid (blkU_set hb1.out), Lib.hid (by simp), Lib.hid (hw.out.setCell (by simp) _)⟩
      case measure => simp [intOf]
    case inr.inr.inr.inr.inr.inr.inl =>
      have hC' : C = #[.int .i64 d, .int .i64 s, .int .i64 a, .int .i64 l, .int .i64 k, .int .i64 b, .int .i64 0, .int .i64 0, .int .i64 0] := by rw [hC.out]; simp
      subst hC'
      have HE := Lib.hid (HS.out 6 p rfl)
      have hc := blkU_cell (i := 6) hb1.out rfl
      have hf := blkU_frozen (i := 6) hb1.out
      go_wp2_with fail
      refine (int_valR hs1.out (by omega) HE).mono ?_
      rintro e' w2 ⟨rfl, rfl⟩
      go_wp2_with fail
      go_roundw
      case rel =>
        refine ⟨6 + 1, #[.int .i64 d, .int .i64 s, .int .i64 a, .int .i64 l, .int .i64 k, .int .i64 b, .int .i64 p, .int .i64 0, .int .i64 0], by omega, rfl, rfl, Lib.hid (blkU_off hb0.out (by simp)), Lib.hid (blkU_set hb1.out), Lib.hid (by simp), Lib.hid (hw.out.setCell (by simp) _)⟩
      case measure => simp [intOf]
    case inr.inr.inr.inr.inr.inr.inr.inl =>
      have hC' : C = #[.int .i64 d, .int .i64 s, .int .i64 a, .int .i64 l, .int .i64 k, .int .i64 b, .int .i64 p, .int .i64 0, .int .i64 0] := by rw [hC.out]; simp
      subst hC'
      have HE := Lib.hid (HS.out 7 r rfl)
      have hc := blkU_cell (i := 7) hb1.out rfl
      have hf := blkU_frozen (i := 7) hb1.out
      go_wp2_with fail
      refine (int_valR hs1.out (by omega) HE).mono ?_
      rintro e' w2 ⟨rfl, rfl⟩
      go_wp2_with fail
      go_roundw
      case rel =>
        refine ⟨7 + 1, #[.int .i64 d, .int .i64 s, .int .i64 a, .int .i64 l, .int .i64 k, .int .i64 b, .int .i64 p, .int .i64 r, .int .i64 0], by omega, rfl, rfl, Lib.hid (blkU_off hb0.out (by simp)), Lib.hid (blkU_set hb1.out), Lib.hid (by simp), Lib.hid (hw.out.setCell (by simp) _)⟩
      case measure => simp [intOf]
    case inr.inr.inr.inr.inr.inr.inr.inr.inl =>
      have hC' : C = #[.int .i64 d, .int .i64 s, .int .i64 a, .int .i64 l, .int .i64 k, .int .i64 b, .int .i64 p, .int .i64 r, .int .i64 0] := by rw [hC.out]; simp
      subst hC'
      have HE := Lib.hid (HS.out 8 e rfl)
      have hc := blkU_cell (i := 8) hb1.out rfl
      have hf := blkU_frozen (i := 8) hb1.out
      go_wp2_with fail
      refine (int_valR hs1.out (by omega) HE).mono ?_
      rintro e' w2 ⟨rfl, rfl⟩
      go_wp2_with fail
      go_roundw
      case rel =>
        refine ⟨8 + 1, #[.int .i64 d, .int .i64 s, .int .i64 a, .int .i64 l, .int .i64 k, .int .i64 b, .int .i64 p, .int .i64 r, .int .i64 e], by omega, rfl, rfl, Lib.hid (blkU_off hb0.out (by simp)), Lib.hid (blkU_set hb1.out), Lib.hid (by simp), Lib.hid (hw.out.setCell (by simp) _)⟩
      case measure => simp [intOf]
end Go.Proofs.Ytdgjdbpbnipjcaa
