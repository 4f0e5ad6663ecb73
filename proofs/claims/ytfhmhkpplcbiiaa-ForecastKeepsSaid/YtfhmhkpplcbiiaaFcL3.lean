/-
  FORECAST, THE LAWS' WALKS: ForecastKeeps.
-/
import Derived.Test.YtfhmhkpplcbiiaaProg
import Derived.Test.YtfhmhkpplcbiiaaBase3
import Derived.Test.YtfhmhkpplcbiiaaBase5
import Derived.Test.YtfhmhkpplcbiiaaBase6
import Derived.Test.YtfhmhkpplcbiiaaBase7
import Derived.Test.YtfhmhkpplcbiiaaBase13
import Derived.Test.YtfhmhkpplcbiiaaDrawP
import Derived.Test.YtfhmhkpplcbiiaaDraw4
import Derived.Test.YtfhmhkpplcbiiaaDraw5
import Derived.Test.YtfhmhkpplcbiiaaDrawL0
import Derived.Test.YtfhmhkpplcbiiaaFcP
import Derived.Test.YtfhmhkpplcbiiaaFc1
import Derived.Test.YtfhmhkpplcbiiaaFc2
import Derived.Test.YtfhmhkpplcbiiaaFc3
import Derived.Test.YtfhmhkpplcbiiaaFcP2
import Derived.Test.YtfhmhkpplcbiiaaFcP3
import Derived.Test.YtfhmhkpplcbiiaaFc7
import Derived.Test.YtfhmhkpplcbiiaaFc9
import Derived.Test.YtfhmhkpplcbiiaaFc10
import Derived.Test.YtfhmhkpplcbiiaaFc11
import Derived.Test.YtfhmhkpplcbiiaaFcL1
import Derived.Test.YtfhmhkpplcbiiaaHeld
import Derived.BigQuiet
import Derived.Laws.StructEq
import Derived.StillTailTactics
import Derived.RegionTactic
import Derived.BigRegion
import Derived.Deep.RegionHeld3
import Derived.Deep.DeepCutAuto
import Derived.Deep.QuietTactic
import Derived.WalkSpells
import Derived.WalkLawsBesides
namespace Go.Proofs.Ytfhmhkpplcbiiaa
open Go.RowKit
set_option linter.unusedVariables false

section
variable {W w1 w2 : World} {g q : Nat} {x0 x1 x2 x3 x4 x5 x6 x7 : Value}
theorem keep9 (hb : Below w1.heap.size w1 w2) (h : w1.cell? ⟨g, 0, none⟩ = some x0 ∧ w1.cell? ⟨g, 1, none⟩ = some x1 ∧ w1.cell? ⟨g, 2, none⟩ = some x2 ∧ w1.cell? ⟨q, 0, none⟩ = some x3 ∧ w1.cell? ⟨q, 1, none⟩ = some x4 ∧ w1.cell? ⟨q, 2, none⟩ = some x5 ∧ w1.cell? ⟨q, 3, none⟩ = some x6 ∧ w1.cell? ⟨q, 4, none⟩ = some x7 ∧ Below W.heap.size W w1) : w2.cell? ⟨g, 0, none⟩ = some x0 ∧ w2.cell? ⟨g, 1, none⟩ = some x1 ∧ w2.cell? ⟨g, 2, none⟩ = some x2 ∧ w2.cell? ⟨q, 0, none⟩ = some x3 ∧ w2.cell? ⟨q, 1, none⟩ = some x4 ∧ w2.cell? ⟨q, 2, none⟩ = some x5 ∧ w2.cell? ⟨q, 3, none⟩ = some x6 ∧ w2.cell? ⟨q, 4, none⟩ = some x7 ∧ Below W.heap.size W w2 := ⟨cell_keep hb h.1, cell_keep hb h.2.1, cell_keep hb h.2.2.1, cell_keep hb h.2.2.2.1, cell_keep hb h.2.2.2.2.1, cell_keep hb h.2.2.2.2.2.1, cell_keep hb h.2.2.2.2.2.2.1, cell_keep hb h.2.2.2.2.2.2.2.1, below_step h.2.2.2.2.2.2.2.2 hb⟩
theorem keep9D (h : w1.cell? ⟨g, 0, none⟩ = some x0 ∧ w1.cell? ⟨g, 1, none⟩ = some x1 ∧ w1.cell? ⟨g, 2, none⟩ = some x2 ∧ w1.cell? ⟨q, 0, none⟩ = some x3 ∧ w1.cell? ⟨q, 1, none⟩ = some x4 ∧ w1.cell? ⟨q, 2, none⟩ = some x5 ∧ w1.cell? ⟨q, 3, none⟩ = some x6 ∧ w1.cell? ⟨q, 4, none⟩ = some x7 ∧ Below W.heap.size W w1) : w1.drew.cell? ⟨g, 0, none⟩ = some x0 ∧ w1.drew.cell? ⟨g, 1, none⟩ = some x1 ∧ w1.drew.cell? ⟨g, 2, none⟩ = some x2 ∧ w1.drew.cell? ⟨q, 0, none⟩ = some x3 ∧ w1.drew.cell? ⟨q, 1, none⟩ = some x4 ∧ w1.drew.cell? ⟨q, 2, none⟩ = some x5 ∧ w1.drew.cell? ⟨q, 3, none⟩ = some x6 ∧ w1.drew.cell? ⟨q, 4, none⟩ = some x7 ∧ Below W.heap.size W w1.drew := ⟨h.1, h.2.1, h.2.2.1, h.2.2.2.1, h.2.2.2.2.1, h.2.2.2.2.2.1, h.2.2.2.2.2.2.1, h.2.2.2.2.2.2.2.1, below_drew h.2.2.2.2.2.2.2.2⟩
theorem keep9A (o : Obj) (h : w1.cell? ⟨g, 0, none⟩ = some x0 ∧ w1.cell? ⟨g, 1, none⟩ = some x1 ∧ w1.cell? ⟨g, 2, none⟩ = some x2 ∧ w1.cell? ⟨q, 0, none⟩ = some x3 ∧ w1.cell? ⟨q, 1, none⟩ = some x4 ∧ w1.cell? ⟨q, 2, none⟩ = some x5 ∧ w1.cell? ⟨q, 3, none⟩ = some x6 ∧ w1.cell? ⟨q, 4, none⟩ = some x7 ∧ Below W.heap.size W w1) : (w1.alloc o).cell? ⟨g, 0, none⟩ = some x0 ∧ (w1.alloc o).cell? ⟨g, 1, none⟩ = some x1 ∧ (w1.alloc o).cell? ⟨g, 2, none⟩ = some x2 ∧ (w1.alloc o).cell? ⟨q, 0, none⟩ = some x3 ∧ (w1.alloc o).cell? ⟨q, 1, none⟩ = some x4 ∧ (w1.alloc o).cell? ⟨q, 2, none⟩ = some x5 ∧ (w1.alloc o).cell? ⟨q, 3, none⟩ = some x6 ∧ (w1.alloc o).cell? ⟨q, 4, none⟩ = some x7 ∧ Below W.heap.size W (w1.alloc o) := keep9 (below_alloc _ _) h
theorem keep9B (hb : Below W.heap.size w1 w2) (hg : g < W.heap.size) (hq : q < W.heap.size) (h : w1.cell? ⟨g, 0, none⟩ = some x0 ∧ w1.cell? ⟨g, 1, none⟩ = some x1 ∧ w1.cell? ⟨g, 2, none⟩ = some x2 ∧ w1.cell? ⟨q, 0, none⟩ = some x3 ∧ w1.cell? ⟨q, 1, none⟩ = some x4 ∧ w1.cell? ⟨q, 2, none⟩ = some x5 ∧ w1.cell? ⟨q, 3, none⟩ = some x6 ∧ w1.cell? ⟨q, 4, none⟩ = some x7 ∧ Below W.heap.size W w1) : w2.cell? ⟨g, 0, none⟩ = some x0 ∧ w2.cell? ⟨g, 1, none⟩ = some x1 ∧ w2.cell? ⟨g, 2, none⟩ = some x2 ∧ w2.cell? ⟨q, 0, none⟩ = some x3 ∧ w2.cell? ⟨q, 1, none⟩ = some x4 ∧ w2.cell? ⟨q, 2, none⟩ = some x5 ∧ w2.cell? ⟨q, 3, none⟩ = some x6 ∧ w2.cell? ⟨q, 4, none⟩ = some x7 ∧ Below W.heap.size W w2 :=
  ⟨(hb.cell (p := ⟨g, 0, none⟩) hg).trans h.1, (hb.cell (p := ⟨g, 1, none⟩) hg).trans h.2.1, (hb.cell (p := ⟨g, 2, none⟩) hg).trans h.2.2.1, (hb.cell (p := ⟨q, 0, none⟩) hq).trans h.2.2.2.1, (hb.cell (p := ⟨q, 1, none⟩) hq).trans h.2.2.2.2.1, (hb.cell (p := ⟨q, 2, none⟩) hq).trans h.2.2.2.2.2.1, (hb.cell (p := ⟨q, 3, none⟩) hq).trans h.2.2.2.2.2.2.1, (hb.cell (p := ⟨q, 4, none⟩) hq).trans h.2.2.2.2.2.2.2.1, h.2.2.2.2.2.2.2.2.trans hb⟩
theorem sl_S9 {a : Option Addr} {n c : Nat} {l : List (BitVec 64)} (H : Hid (Sl W 1 a n c (cs u64 l))) (h : w1.cell? ⟨g, 0, none⟩ = some x0 ∧ w1.cell? ⟨g, 1, none⟩ = some x1 ∧ w1.cell? ⟨g, 2, none⟩ = some x2 ∧ w1.cell? ⟨q, 0, none⟩ = some x3 ∧ w1.cell? ⟨q, 1, none⟩ = some x4 ∧ w1.cell? ⟨q, 2, none⟩ = some x5 ∧ w1.cell? ⟨q, 3, none⟩ = some x6 ∧ w1.cell? ⟨q, 4, none⟩ = some x7 ∧ Below W.heap.size W w1) : Sl w1 1 a n c (cs u64 l) := H.out.ext h.2.2.2.2.2.2.2.2
theorem size_S9 (h : w1.cell? ⟨g, 0, none⟩ = some x0 ∧ w1.cell? ⟨g, 1, none⟩ = some x1 ∧ w1.cell? ⟨g, 2, none⟩ = some x2 ∧ w1.cell? ⟨q, 0, none⟩ = some x3 ∧ w1.cell? ⟨q, 1, none⟩ = some x4 ∧ w1.cell? ⟨q, 2, none⟩ = some x5 ∧ w1.cell? ⟨q, 3, none⟩ = some x6 ∧ w1.cell? ⟨q, 4, none⟩ = some x7 ∧ Below W.heap.size W w1) : W.heap.size ≤ w1.heap.size := h.2.2.2.2.2.2.2.2.size
theorem below_S9 {w : World} (H : Hid (Below w.heap.size w W)) (h : w1.cell? ⟨g, 0, none⟩ = some x0 ∧ w1.cell? ⟨g, 1, none⟩ = some x1 ∧ w1.cell? ⟨g, 2, none⟩ = some x2 ∧ w1.cell? ⟨q, 0, none⟩ = some x3 ∧ w1.cell? ⟨q, 1, none⟩ = some x4 ∧ w1.cell? ⟨q, 2, none⟩ = some x5 ∧ w1.cell? ⟨q, 3, none⟩ = some x6 ∧ w1.cell? ⟨q, 4, none⟩ = some x7 ∧ Below W.heap.size W w1) : Below w.heap.size w w1 := below_step H.out h.2.2.2.2.2.2.2.2
end
theorem infoW9 : (Try.prog.info? 35).map (fun i => (i.zero, i.size, i.bytes)) = some (some (.int .u64 0), 1, 8) := by kernel_rfl
theorem oDrew {W : World} {B n : Nat} {v : Value} {l : List Value} (h : Hid (W.ownsRow B 35 1 v n l)) : Hid (W.drew.ownsRow B 35 1 v n l) := ⟨h.out.1, h.out.2⟩
theorem oAlloc {W : World} {o : Obj} {B n : Nat} {v : Value} {l : List Value} (h : Hid (W.ownsRow B 35 1 v n l)) : Hid ((W.alloc o).ownsRow B 35 1 v n l) := ownsRow_ext h.out (below_alloc _ _)
theorem sDrew {W : World} {a : Option Addr} {n c : Nat} {l : List (BitVec 64)} (h : Hid (Sl W 1 a n c (cs u64 l))) : Hid (Sl W.drew 1 a n c (cs u64 l)) := h.out.ext (Below.refl _ W).drew
theorem sAlloc {W : World} {o : Obj} {a : Option Addr} {n c : Nat} {l : List (BitVec 64)} (h : Hid (Sl W 1 a n c (cs u64 l))) : Hid (Sl (W.alloc o) 1 a n c (cs u64 l)) := h.out.ext (below_alloc _ _)
theorem scen_s2 {st k p s sl h : Int} {xs ys : List Int} {a1 a2 : Option Addr} {l1 c1 l2 c2 : Nat} {w W : World} {ws : List (BitVec 64)} {ao : Option Addr} {len cap : Nat} {L : List Int} {f : Int} {m : Nat} (hr : Hid (caseF (expc st xs ys k p s sl h) ws = (L, f))) (hm : Hid (L.length = m)) (h1 : Hid (Sl w 1 a1 l1 c1 (cs i64v xs))) (h2 : Hid (Sl w 1 a2 l2 c2 (cs i64v ys))) (hlen : len ≤ 1000000000000) (hs : Hid (Sl W 1 ao len cap (cs u64 ws))) (hb : Below w.heap.size w W) :
    Calls Try.prog 47 #[.agg #[.int .i64 st, .slice a1 l1 c1, .slice a2 l2 c2], .agg #[.int .i64 k, .int .i64 p, .int .i64 s, .int .i64 sl, .int .i64 h], .slice ao len cap] W (fun q w' => ∃ a c, q = .returned (.tuple #[.slice a m c, .int .i64 f]) ∧ Hid (Sl w' 1 a m c (cs i64v L)) ∧ Below W.heap.size W w') := by
  have := scen_s (w := W) (W := W) hr (h1.out.ext hb) (h2.out.ext hb) hs hlen (Below.refl _ _)
  rw [hm.out] at this
  exact this

set_option maxRecDepth 100000 in
set_option maxHeartbeats 4000000 in
theorem forecastKeeps_walk (st k p s sl h : Int) (xs ys : List Int) (ws : List (BitVec 64)) (a1 : Option Addr) (l1 c1 : Nat) (a2 : Option Addr) (l2 c2 : Nat) (ao : Option Addr) (len cap : Nat) (w : World) (h1 : Sl w 1 a1 l1 c1 (cs i64v xs)) (h2 : Sl w 1 a2 l2 c2 (cs i64v ys)) (hs : Sl w 1 ao len cap (cs u64 ws)) :
    Calls Try.prog 18 #[.agg #[.int .i64 st, .slice a1 l1 c1, .slice a2 l2 c2], .agg #[.int .i64 k, .int .i64 p, .int .i64 s, .int .i64 sl, .int .i64 h], .slice ao len cap] w (RetB (.bool true) w) := by
  have H1 := Lib.hid h1
  have H2 := Lib.hid h2
  have HS := Lib.hid hs
  obtain ⟨⟨L, e⟩, hr⟩ : ∃ r, caseF (expc st xs ys k p s sl h) ws = r := ⟨_, rfl⟩
  have HL := caseF_len hr
  obtain ⟨b, hf⟩ : ∃ b, fewB l1 l2 = b := ⟨_, rfl⟩
  have HF := Lib.hid hf
  have HQ := Lib.hid (Ask2.mk0 w st a1 l1 c1 a2 l2 c2 k p s sl h 57 59)
  clear h1 h2 hf hs
  by_cases hbig : (400 : Int) < (len : Int)
  · clear hr
    cases b <;>
    · go_enter Try.func18, Try.ntmps18
      go_wp2_with fail
      refine (few_s _ _ _ _ _ _ _ _ HF).mono ?_
      rintro er w1 ⟨rfl, hb1⟩
      have HQ1 := Lib.hid (HQ.out.step hb1)
      clear hb1
      go_wp2_with fail
      refine (awake40_any _).mono ?_
      rintro er w2 ⟨rfl, hb2⟩
      have HQ2 := Lib.hid (HQ1.out.step hb2)
      clear hb2
      go_wp2
      go_ret
      exact ⟨rfl, HQ2.out.b⟩
  · have hlen : len ≤ 1000000000000 := by omega
    have hlen4 : len ≤ 400 := by omega
    cases b with
    | false =>
      clear hr
      go_enter Try.func18, Try.ntmps18
      go_wp2_with fail
      refine (few_s _ _ _ _ _ _ _ _ HF).mono ?_
      rintro er w1 ⟨rfl, hb1⟩
      have HQ1 := Lib.hid (HQ.out.step hb1)
      clear hb1
      go_wp2_with fail
      refine (awake40_any _).mono ?_
      rintro er w2 ⟨rfl, hb2⟩
      have HQ2 := Lib.hid (HQ1.out.step hb2)
      clear hb2
      go_wp2
      go_ret
      exact ⟨rfl, HQ2.out.b⟩
    | true =>
      by_cases he : e = 0
      · subst he
        have hr2 := caseF_more [1#64, 2#64, 3#64] hr
        have HR := Lib.hid hr
        have HR2 := Lib.hid hr2
        generalize hLn : L.length = m at HL
        have HLn := Lib.hid hLn
        clear hLn hr hr2
        go_enter Try.func18, Try.ntmps18
        go_wp2_with fail
        refine (few_s _ _ _ _ _ _ _ _ HF).mono ?_
        rintro er w1 ⟨rfl, hb1⟩
        have HQ1 := Lib.hid (HQ.out.step hb1)
        clear hb1
        obtain ⟨d0, d1, d2, d3, d4, d5, d6, d7⟩ := HQ1.out.cells
        go_wp2_with fail
        refine (scen_s HR H1 H2 HS hlen HQ1.out.b).mono ?_
        rw [HLn.out]
        rintro er w2 ⟨r1, q1, rfl, S1, hb2⟩
        have HQ2 := Lib.hid (HQ1.out.step hb2)
        clear hb2 d0 d1 d2 d3 d4 d5 d6 d7 HQ1
        obtain ⟨d0, d1, d2, d3, d4, d5, d6, d7⟩ := HQ2.out.cells
        have HS2 := Lib.hid (HS.out.ext HQ2.out.b)
        have HB2 := Lib.hid HQ2.out.b
        have hg0 : w.heap.size < w2.heap.size := World.block_lt_of_cell? _ _ d0
        have hg1 : w.heap.size + 1 < w2.heap.size := World.block_lt_of_cell? _ _ d3
        go_wp2_with fail
        have hk0 : w2.cell? ⟨w.heap.size, 0, none⟩ = some (.int .i64 st) ∧ w2.cell? ⟨w.heap.size, 1, none⟩ = some (.slice a1 l1 c1) ∧ w2.cell? ⟨w.heap.size, 2, none⟩ = some (.slice a2 l2 c2) ∧ w2.cell? ⟨w.heap.size + 1, 0, none⟩ = some (.int .i64 k) ∧ w2.cell? ⟨w.heap.size + 1, 1, none⟩ = some (.int .i64 p) ∧ w2.cell? ⟨w.heap.size + 1, 2, none⟩ = some (.int .i64 s) ∧ w2.cell? ⟨w.heap.size + 1, 3, none⟩ = some (.int .i64 sl) ∧ w2.cell? ⟨w.heap.size + 1, 4, none⟩ = some (.int .i64 h) ∧ Below w2.heap.size w2 w2 := ⟨d0, d1, d2, d3, d4, d5, d6, d7, Below.refl _ _⟩
        clear d0 d1 d2 d3 d4 d5 d6 d7
        go_region_held3 (fun w9 => w9.cell? ⟨w.heap.size, 0, none⟩ = some (.int .i64 st) ∧ w9.cell? ⟨w.heap.size, 1, none⟩ = some (.slice a1 l1 c1) ∧ w9.cell? ⟨w.heap.size, 2, none⟩ = some (.slice a2 l2 c2) ∧ w9.cell? ⟨w.heap.size + 1, 0, none⟩ = some (.int .i64 k) ∧ w9.cell? ⟨w.heap.size + 1, 1, none⟩ = some (.int .i64 p) ∧ w9.cell? ⟨w.heap.size + 1, 2, none⟩ = some (.int .i64 s) ∧ w9.cell? ⟨w.heap.size + 1, 3, none⟩ = some (.int .i64 sl) ∧ w9.cell? ⟨w.heap.size + 1, 4, none⟩ = some (.int .i64 h) ∧ Below w2.heap.size w2 w9)
          (repeat (with_reducible first | assumption | refine keep9D ?_ | refine keep9A _ ?_ | (apply keep9; focus assumption) | (apply keep9B; (focus assumption); (focus assumption); (focus assumption))))
          (first
            | (go_at_call 47; (with_reducible refine (scen_s2 (w := w) HR2 HLn H1 H2 (by omega) ?_ (below_S9 HB2 (by assumption))).mono ?_); (repeat (first | (with_reducible assumption) | (with_reducible refine sDrew ?_) | (with_reducible refine sAlloc ?_) | (with_reducible refine keep9D ?_))); rintro e w3 ⟨r2, q2, rfl, S2, hb3⟩)
            | ((refine step_append_manyG u64 (fun _ => rfl) _ rfl (.tmp 38) (.tmp 39) 39 rfl w2.heap.size 35 (.int .u64 0) 8 Try.underlying39 infoW9 rfl (v := .slice (some ⟨_, 0, none⟩) 0 0) (n := 0) (xs := []) rfl (own_empty (by (repeat (first | ((with_reducible refine hp_new ?_); focus (simp; done)) | (with_reducible refine hp_drew ?_) | (with_reducible refine hp_old ?_)))) (by simp)) (ys := ws) (ao := ao) (m := len) (c := cap) rfl (sl_S9 HS2 (by assumption)) (by unfold maxLen; omega) (by omega) (size_S9 (by assumption)) ?_); intro v8 w8 ho8 hb8 hf8; have F8 := Lib.hid hf8; clear hf8; rw [Nat.zero_add, List.nil_append] at ho8; obtain ⟨a8, c8, e8, s8⟩ := sl_of_own ho8; subst e8; have O8 := Lib.hid ho8; clear ho8 s8)
            | ((refine step_append_manyG u64 (fun _ => rfl) _ rfl (.tmp 40) (.tmp 41) 39 rfl w2.heap.size 35 (.int .u64 0) 8 Try.underlying39 infoW9 rfl (v := .slice a8 len c8) (n := len) (xs := ws) rfl (Hid.out (by (repeat (first | (with_reducible assumption) | (with_reducible refine oDrew ?_) | (with_reducible refine oAlloc ?_))))) (ys := [1#64, 2#64, 3#64]) (ao := some ⟨_, 0, none⟩) (m := 3) (c := 3) (by rfl) (sl_blk (C := #[.int .u64 1, .int .u64 2, .int .u64 3]) (by (repeat (first | ((with_reducible refine blkNew ?_); focus (simp; done)) | (with_reducible refine blkDrew ?_) | (with_reducible refine blkOld ?_) | (with_reducible refine F8.out _ _ ?_ ?_) | focus (simp [Value.ownBlock]; done)))) rfl 3 rfl (by decide)) (by unfold maxLen; omega) (by omega) (size_S9 (by assumption)) ?_); intro v9 w9 ho9 hb9 hf9; clear hf9; obtain ⟨a9, c9, e9, s9⟩ := sl_of_own ho9; subst e9; have S9 := Lib.hid s9; clear ho9 s9))
        all_goals
          go_split_ands
          go_wp2_with fail
          refine (same40_s HL S1 S2 (by assumption)).mono ?_
          rintro er w4 ⟨rfl, hb4⟩
          have HB4 := Lib.hid (below_step (below_step HB2.out (by assumption)) hb4)
          clear hb4
          go_wp2_with fail
          refine (awake40_any _).mono ?_
          rintro er w5 ⟨rfl, hb5⟩
          have HB5 := Lib.hid (below_step HB4.out hb5)
          clear hb5
          go_wp2
          go_ret
          exact ⟨rfl, HB5.out⟩
      · obtain rfl : L = [] := by
          obtain ⟨⟨o, i, e'⟩, hx⟩ : ∃ r, expc st xs ys k p s sl h = r := ⟨_, rfl⟩
          rw [hx] at hr
          by_cases h0 : e' = 0
          · subst h0
            obtain ⟨⟨o0, _⟩, i0, _⟩ := expc_bounds hx
            exact (caseF_err o0 i0 hr he).1
          · rw [caseF_e h0] at hr; cases hr; rfl
        have HR := Lib.hid hr
        clear hr HL
        go_enter Try.func18, Try.ntmps18
        go_wp2_with fail
        refine (few_s _ _ _ _ _ _ _ _ HF).mono ?_
        rintro er w1 ⟨rfl, hb1⟩
        have HQ1 := Lib.hid (HQ.out.step hb1)
        clear hb1
        obtain ⟨d0, d1, d2, d3, d4, d5, d6, d7⟩ := HQ1.out.cells
        go_wp2_with fail
        refine (scen_s HR H1 H2 HS hlen HQ1.out.b).mono ?_
        rw [show ([] : List Int).length = 0 from rfl]
        rintro er w2 ⟨r1, q1, rfl, S1, hb2⟩
        have HQ2 := Lib.hid (HQ1.out.step hb2)
        clear hb2 d0 d1 d2 d3 d4 d5 d6 d7
        go_wp2_with fail
        refine (awake40_any _).mono ?_
        rintro er w3 ⟨rfl, hb3⟩
        have HQ3 := Lib.hid (HQ2.out.step hb3)
        clear hb3
        go_wp2
        go_ret
        exact ⟨rfl, HQ3.out.b⟩
end Go.Proofs.Ytfhmhkpplcbiiaa
