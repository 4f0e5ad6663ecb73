/-
  JOURNALS: journal.Read.
-/
import Derived.Test.YtdgjdbpbnipjcaaProg
import Derived.Test.YtdgjdbpbnipjcaaTrC
import Derived.Test.YtdgjdbpbnipjcaaTrD
import Derived.Test.YtdgjdbpbnipjcaaBase16
import Derived.Test.YtdgjdbpbnipjcaaFlat
import Derived.BigQuiet
import Derived.Laws.StructEq
import Derived.StillTailTactics
import Derived.RegionTactic
import Derived.Deep.DeepCutAuto
import Derived.Deep.QuietTactic
import Derived.WalkSpells
import Derived.WalkLawsBesides
namespace Go.Proofs.Ytdgjdbpbnipjcaa
open Go.RowKit
set_option linter.unusedVariables false

theorem infoEv : (Try.prog.info? 27).map (fun i => (i.zero, i.size, i.bytes)) = some (some (.agg #[.int .i64 0, .int .i64 0, .int .i64 0, .int .i64 0, .int .i64 0, .int .i64 0, .int .i64 0, .int .i64 0, .int .i64 0]), 9, 72) := by kernel_rfl
theorem open_is {bs : List UInt8} {at_ : Int} {ao : Option Addr} {len cap : Nat} {w : World} {r : List UInt8 × Int × Int} (hs : Sl w 1 ao len cap (cs b8 bs)) (hlen : len ≤ 1000000000) (hr : openRes bs at_ = r) :
    Calls Try.prog 17 #[.slice ao len cap, .int .i64 at_] w (RetOpen r w) := by
  rw [← hr]; exact open_any bs at_ ao len cap w hs hlen
/-- What Read meets: frames of events, and then none. -/
structure Jr (bs : List UInt8) (L : List EvL) (O : Nat → Nat) : Prop where
  z : O 0 = 0
  st : ∀ j, j < L.length → openRes bs (O j : Int) = (encE (L.getD j EvL.zero), (O (j + 1) : Int), 0)
  fr : ∀ j, j < L.length → framedB (L.getD j EvL.zero) = true
  fin : openRes bs (O L.length : Int) = ([], 0, 4)
theorem flat_takeV {l : List EvL} {k : Nat} (h : k < l.length) : flatV evA (l.take (k + 1)) = flatV evA (l.take k) ++ (evA (l.getD k EvL.zero)).toList := by
  rw [List.take_succ_eq_append_getElem h, flatV_append]
  simp [flatV, List.getD, h]
def RetEvN (w : World) (L : List EvL) (n : Nat) (e : Ending) (w' : World) : Prop :=
  ∃ v, e = .returned (.tuple #[v, .int .i64 (n : Int)]) ∧ w'.ownsRow w.heap.size 27 9 v L.length (flatV evA L) ∧ Below w.heap.size w w'
set_option maxRecDepth 100000 in
set_option maxHeartbeats 4000000 in
theorem read_any (bs : List UInt8) (L : List EvL) (O : Nat → Nat) (hj : Jr bs L O) (hL : L.length ≤ 41) (ao : Option Addr) (len cap : Nat) (w : World) (hs : Sl w 1 ao len cap (cs b8 bs)) (hlen : len ≤ 1000000) :
    Calls Try.prog 7 #[.slice ao len cap] w (RetEvN w L (O L.length)) := by
  have HJ := Lib.hid hj
  have HS := Lib.hid hs
  have h0 := hj.z
  clear hj hs
  go_enter Try.func7, Try.ntmps7
  go_wp2_with fail
  go_loopw [4, 5] (fun v t wr => ∃ (k : Nat), k ≤ L.length ∧ t = .int .i64 (O k : Int) ∧ Hid (wr.ownsRow w.heap.size 27 9 v k (flatV evA (L.take k))) ∧ Hid (Below w.heap.size w wr))
    (fun v _ _ => L.length - (match v with | .slice _ n _ => n | _ => 0))
  case atStart => exact ⟨0, by omega, by rw [h0]; rfl, Lib.hid (World.ownsRow_nil _ _ _ _), Lib.hid (Below.refl _ _)⟩
  case round =>
    obtain ⟨k, hk, rfl, HR, HB⟩ := hrel
    obtain ⟨av, cv, rfl, hsv⟩ := sl_of_own HR.out
    clear hsv
    have hk5 : (k : Int) < 512 := by omega
    by_cases hkl : k < L.length
    · have HO := Lib.hid (HJ.out.st k hkl)
      have HFR := Lib.hid (HJ.out.fr k hkl)
      have HFT := Lib.hid (flat_takeV hkl)
      go_wp2_with fail
      refine (open_is (HS.out.ext HB.out) (by omega) HO.out).mono ?_
      rintro e w1 ⟨v1, n1, rfl, ho1, hb1⟩
      obtain ⟨a1, c1, rfl, hs1⟩ := sl_of_own ho1
      have HB1 := Lib.hid (below_step HB.out hb1)
      have HR1 := Lib.hid (ownsRow_ext HR.out hb1)
      clear ho1 hb1
      have HDE := Lib.hid (decode_any (L.getD k EvL.zero) (framed_evR HFR.out) a1 n1 c1 w1 hs1)
      have HFA := Lib.hid (fun W => framed_any (L.getD k EvL.zero) W)
      clear hs1
      obtain ⟨x, hx⟩ : ∃ x, L.getD k EvL.zero = x := ⟨_, rfl⟩
      rw [hx] at HDE HFR HFA HFT
      clear hx HO
      obtain ⟨d, s, a, q, kk, b, p, r, e⟩ := x
      dsimp only [evA] at *
      go_wp2_with fail
      refine HDE.out.mono ?_
      rintro e' w2 ⟨rfl, hb2⟩
      have HB2 := Lib.hid (below_step HB1.out hb2)
      have HR2 := Lib.hid (ownsRow_ext HR1.out hb2)
      clear hb2
      go_wp2_with fail
      have hb3 : Below w2.heap.size w2 (w2.alloc (.cells #[.int .i64 d, .int .i64 s, .int .i64 a, .int .i64 q, .int .i64 kk, .int .i64 b, .int .i64 p, .int .i64 r, .int .i64 e] 27)) := below_alloc _ _
      have hc3 : BlkAt (w2.alloc (.cells #[.int .i64 d, .int .i64 s, .int .i64 a, .int .i64 q, .int .i64 kk, .int .i64 b, .int .i64 p, .int .i64 r, .int .i64 e] 27)) w2.heap.size #[.int .i64 d, .int .i64 s, .int .i64 a, .int .i64 q, .int .i64 kk, .int .i64 b, .int .i64 p, .int .i64 r, .int .i64 e] := blkNew rfl
      refine (HFA.out _).mono ?_
      rintro e' w4 ⟨rfl, hb4⟩
      rw [HFR.out]
      have HB4 := Lib.hid (below_step (below_step HB2.out hb3) hb4)
      have HR4 := Lib.hid (ownsRow_ext (ownsRow_ext HR2.out hb3) hb4)
      have HC4 := Lib.hid (blkBelow hb4 hc3)
      clear hb3 hc3 hb4
      generalize w2.heap.size = g at *
      obtain ⟨c0, c1, c2, c3, c4, c5, c6, c7, c8⟩ := nine_cellsE HC4.out
      have hz4 := HB4.out.size
      go_wp2_with (at_builtin; refine wpList_append_rowU _ rfl _ _ 25 rfl w.heap.size 27 (.agg #[.int .i64 0, .int .i64 0, .int .i64 0, .int .i64 0, .int .i64 0, .int .i64 0, .int .i64 0, .int .i64 0, .int .i64 0]) 9 72 Try.underlying25 infoEv rfl (by decide) rfl (ownsRow_ext HR4.out (below_alloc _ _)) (k := w4.heap.size) (C := #[.int .i64 d, .int .i64 s, .int .i64 a, .int .i64 q, .int .i64 kk, .int .i64 b, .int .i64 p, .int .i64 r, .int .i64 e]) rfl (blkNew rfl) rfl (by intro u hu; simp at hu; rcases hu with rfl | rfl | rfl | rfl | rfl | rfl | rfl | rfl | rfl <;> rfl) (by unfold maxLen; omega) (by omega) (by simp; omega) ?_)
      intro v5 w5 ho5 hg5 hf5
      have hb5 : Below w.heap.size w w5 := (below_step HB4.out (below_alloc w4 (.cells #[.int .i64 d, .int .i64 s, .int .i64 a, .int .i64 q, .int .i64 kk, .int .i64 b, .int .i64 p, .int .i64 r, .int .i64 e] 27))).trans (Below.grown (Below.refl _ _) hg5 (by simp; omega) (fun j hj => by
        rcases HR4.out.2 with ⟨hvn, _⟩ | ⟨g', cap', cur, hvg, hbg, _⟩
        · rw [hvn] at hj; cases hj
        · rw [hvg] at hj; simp [Value.ownBlock] at hj; omega))
      obtain ⟨a5, n5, rfl, hs5⟩ := sl_of_own ho5
      have HR5 := Lib.hid ho5
      have HB5 := Lib.hid hb5
      clear ho5 hg5 hf5 hb5 hs5 c0 c1 c2 c3 c4 c5 c6 c7 c8
      go_wp2_with fail
      go_roundw
      case rel => exact ⟨k + 1, by omega, rfl, Lib.hid (by rw [HFT.out]; exact HR5.out), HB5⟩
      case measure => simp; omega
    · obtain rfl : k = L.length := by omega
      have HO := Lib.hid HJ.out.fin
      have HRR := HR.out
      rw [List.take_length] at HRR
      have HR2 := Lib.hid HRR
      clear HRR
      go_wp2_with fail
      refine (open_is (HS.out.ext HB.out) (by omega) HO.out).mono ?_
      rintro e w1 ⟨v1, n1, rfl, ho1, hb1⟩
      have HQ := Lib.hid (And.intro (ownsRow_ext HR2.out hb1) (below_step HB.out hb1))
      clear ho1 hb1
      go_wp2
      go_ret2
      exact ⟨_, rfl, HQ.out.1, HQ.out.2⟩
end Go.Proofs.Ytdgjdbpbnipjcaa
