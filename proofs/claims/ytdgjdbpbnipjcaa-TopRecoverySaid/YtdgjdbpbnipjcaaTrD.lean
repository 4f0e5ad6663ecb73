/-
  JOURNALS: journal.Append.
-/
import Derived.Test.YtdgjdbpbnipjcaaProg
import Derived.Test.YtdgjdbpbnipjcaaTrB
import Derived.Test.YtdgjdbpbnipjcaaTrU
import Derived.Test.YtdgjdbpbnipjcaaCrc4
import Derived.Test.YtdgjdbpbnipjcaaFlat
import Derived.BigQuiet
import Derived.Laws.StructEq
import Derived.StillTailTactics
import Derived.RegionTactic
import Derived.Deep.DeepCutAuto
import Derived.Deep.QuietTactic
import Derived.WalkSpells
import Derived.WalkLawsBesides
namespace Go.Proofs.Ytdgjdbpbnipjcaa
open Go.RowKit
set_option linter.unusedVariables false

theorem framed_evR {x : EvL} (h : framedB x = true) : EvR x := by
  intro n hn
  unfold framedB at h
  have := List.all_eq_true.1 h n hn
  unfold inM at this
  simp only [Bool.and_eq_true, decide_eq_true_eq] at this
  unfold InI
  omega
/-- A record of an event. -/
def recE (x : EvL) : List UInt8 := frameB (encE x)
theorem recE_len (x : EvL) : (recE x).length ≤ 104 := by
  unfold recE frameB
  have h1 := encE_len x
  have h2 := (putInt_length ((encE x).length : Int)).1
  simp only [List.length_append, tail4_len]
  omega
/-- The event is checked, encoded, and sealed. -/
theorem seal_enc (x : EvL) (a : Option Addr) (c : Nat) (W : World) (hs : Sl W 1 a (encE x).length c (cs b8 (encE x))) :
    Calls Try.prog 15 #[.slice a (encE x).length c] W (RetOwnE W 5 (recE x).length (cs b8 (recE x)) 0) :=
  seal_any (encE x) a _ c W hs (by have := encE_len x; omega)
theorem app_full {W : World} {ao : Option Addr} {len cap : Nat} {bs : List UInt8} (hs : Sl W 1 ao len cap (cs b8 bs)) :
    ∃ a', (∀ w' : World, (Instr.slice 30 (.slice ao len cap) none (some (.int .i64 (len : Int))) (some (.int .i64 (len : Int)))).run Try.prog w' = .ok (.slice a' len len) w') ∧ Sl W 1 a' len len (cs b8 bs) := by
  refine ⟨if len = 0 then ao else ao.map (·.add (0 * 1)), fun w' => ?_, ?_⟩
  · have he : Try.prog.elem 30 = 5 := by kernel_rfl
    have hle := hs.hle
    rw [run_slice_hm w' 30 ao len cap (by rw [he]; exact Try.underlying30) .i64 .i64 (len : Int) (len : Int) (by omega) (Int.le_refl _) (by omega), he, Try.sizeU8]
    simp [Result.andThen, sliced]
  · have h := hs.partT 0 len len (Nat.zero_le _) (Nat.le_refl _) (Nat.le_refl _) hs.hle
    have hc := hs.count
    simpa [← hc] using h
set_option maxRecDepth 100000 in
set_option maxHeartbeats 2000000 in
theorem append_no (x : EvL) (hx : framedB x = false) (v : Value) (w : World) :
    Calls Try.prog 12 #[v, .agg (evA x)] w (RetB (.tuple #[.slice none 0 0, .int .i64 1]) w) := by
  have HFR := Lib.hid (fun W => framed_any x W)
  have HX := Lib.hid hx
  clear hx
  obtain ⟨d, s, a, l, k, b, p, r, e⟩ := x
  dsimp only [evA] at *
  go_enter Try.func12, Try.ntmps12
  go_wp2_with fail
  refine (HFR.out _).mono ?_
  rintro e' w1 ⟨rfl, hb1⟩
  rw [HX.out]
  go_wp2
  go_ret2
  exact ⟨rfl, below_step (below_alloc _ _) hb1⟩
set_option maxRecDepth 100000 in
set_option maxHeartbeats 4000000 in
theorem append_yes (x : EvL) (hx : framedB x = true) (bs : List UInt8) (ao : Option Addr) (len cap : Nat) (w : World) (hs : Sl w 1 ao len cap (cs b8 bs)) (hlen : len ≤ 1000000) :
    Calls Try.prog 12 #[.slice ao len cap, .agg (evA x)] w (RetOwnE w 5 (len + (recE x).length) (cs b8 (bs ++ recE x)) 0) := by
  have HFR := Lib.hid (fun W => framed_any x W)
  have HEN := Lib.hid (fun W => encode_any x (framed_evR hx) W)
  have HSE := Lib.hid (fun a c W h => seal_enc x a c W h)
  have HRL := recE_len x
  have HPOS : 0 < (recE x).length := by unfold recE frameB; simp only [List.length_append, tail4_len]; omega
  have HX := Lib.hid hx
  clear hx
  generalize recE x = R at *
  generalize encE x = en at *
  obtain ⟨d, s, a, l, k, b, p, r, e⟩ := x
  dsimp only [evA] at *
  go_enter Try.func12, Try.ntmps12
  go_wp2_with fail
  have hc0 : BlkAt (w.alloc (.cells #[.int .i64 d, .int .i64 s, .int .i64 a, .int .i64 l, .int .i64 k, .int .i64 b, .int .i64 p, .int .i64 r, .int .i64 e] 27)) w.heap.size #[.int .i64 d, .int .i64 s, .int .i64 a, .int .i64 l, .int .i64 k, .int .i64 b, .int .i64 p, .int .i64 r, .int .i64 e] := blkNew rfl
  have hb0 : Below w.heap.size w (w.alloc (.cells #[.int .i64 d, .int .i64 s, .int .i64 a, .int .i64 l, .int .i64 k, .int .i64 b, .int .i64 p, .int .i64 r, .int .i64 e] 27)) := below_alloc _ _
  refine (HFR.out _).mono ?_
  rintro e' w1 ⟨rfl, hb1⟩
  rw [HX.out]
  have HB1 := Lib.hid (below_step hb0 hb1)
  have HC1 := Lib.hid (blkBelow hb1 hc0)
  clear hb0 hc0 hb1
  obtain ⟨c0, c1, c2, c3, c4, c5, c6, c7, c8⟩ := nine_cellsE HC1.out
  go_wp2_with fail
  refine (HEN.out _).mono ?_
  rintro e' w2 ⟨v2, rfl, ho2, hb2⟩
  obtain ⟨a2, n2, rfl, hs2⟩ := sl_of_own ho2
  have HB2 := Lib.hid (below_step HB1.out hb2)
  clear c0 c1 c2 c3 c4 c5 c6 c7 c8 ho2
  go_wp2_with fail
  refine (HSE.out _ _ _ hs2).mono ?_
  rintro e' w3 ⟨v3, rfl, ho3, hb3⟩
  obtain ⟨a3, n3, rfl, hs3⟩ := sl_of_own ho3
  have HB3 := Lib.hid (below_step HB2.out hb3)
  have HS3 := Lib.hid hs3
  clear hb2 hb3 hs2 hs3 ho3
  obtain ⟨a4, hr4, hs4⟩ := app_full (hs.ext HB3.out)
  have HS4 := Lib.hid hs4
  have hz := HB3.out.size
  clear hs4
  go_wp2_with (at_builtin; refine wpList_append_acc _ rfl _ _ 30 30 rfl w.heap.size 5 (.int .u8 0) 1 1 Try.underlying30 Try.infoU8 rfl (by decide) (Acc.full HS4.out) rfl (src_sl _ Try.underlying30 HS3.out (by unfold cs; intro u hu; obtain ⟨y, _, rfl⟩ := List.mem_map.1 hu; rfl)) rfl (by unfold maxLen; omega) (by omega) hz ?_)
  intro v5 w5 _ ho5 _ hb5
  have ho5' := ho5
  go_wp2
  go_ret2
  refine ⟨v5, rfl, ?_, HB3.out.trans hb5⟩
  rw [cs_append]
  exact ho5'
end Go.Proofs.Ytdgjdbpbnipjcaa
