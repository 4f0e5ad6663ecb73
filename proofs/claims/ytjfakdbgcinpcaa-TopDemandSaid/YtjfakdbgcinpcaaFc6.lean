/-
  FORECAST, THE WALKS: Case.
-/
import Derived.Test.YtjfakdbgcinpcaaProg
import Derived.Test.YtjfakdbgcinpcaaBase7
import Derived.Test.YtjfakdbgcinpcaaDraw4
import Derived.Test.YtjfakdbgcinpcaaDraw5
import Derived.Test.YtjfakdbgcinpcaaDrawL0
import Derived.Test.YtjfakdbgcinpcaaDrawP2
import Derived.Test.YtjfakdbgcinpcaaFcP
import Derived.Test.YtjfakdbgcinpcaaFc1
import Derived.Test.YtjfakdbgcinpcaaFc2
import Derived.Test.YtjfakdbgcinpcaaFc3
import Derived.Test.YtjfakdbgcinpcaaFc3c
import Derived.Test.YtjfakdbgcinpcaaHeld
import Derived.BigQuiet
import Derived.Laws.StructEq
import Derived.StillTailTactics
import Derived.RegionTactic
import Derived.Deep.DeepCutAuto
import Derived.Deep.QuietTactic
import Derived.WalkSpells
import Derived.WalkLawsBesides
namespace Go.Proofs.Ytjfakdbgcinpcaa
open Go.RowKit
set_option linter.unusedVariables false


theorem one_facts {W : World} {k : Nat} {x : Value} (h : BlkAt W k #[x]) : W.cell? ⟨k, 0, none⟩ = some x ∧ W.frozen? ⟨k, 0, none⟩ = false := by
  obtain ⟨E, h⟩ := h
  refine ⟨?_, frozen_of_row _ _ _ _ _ h⟩
  rw [cell_of_row _ _ _ _ _ _ h]; rfl
theorem one_set {W : World} {k : Nat} {x : Value} (h : BlkAt W k #[x]) (u : Value) : BlkAt (W.setCell ⟨k, 0, none⟩ u) k #[u] := by
  obtain ⟨E, h⟩ := h
  exact ⟨E, heap_setCell_same W k 0 _ E u h⟩
def rnd (n x : Int) : Int := if x < n % 1000 then n / 1000 + 1 else n / 1000
theorem rnd_lt {n x : Int} (h : x < n % 1000) : rnd n x = n / 1000 + 1 := by unfold rnd; rw [if_pos h]
theorem rnd_ge {n x : Int} (h : ¬ x < n % 1000) : rnd n x = n / 1000 := by unfold rnd; rw [if_neg h]

set_option maxRecDepth 100000 in
set_option maxHeartbeats 2000000 in
theorem rounded_ok {n x u : Int} {ws : List (BitVec 64)} {ao : Option Addr} {len cap g : Nat} {w0 w : World} (hs : Sl w0 1 ao len cap (cs u64 ws)) (hlen : len ≤ 1000000000000) (h : Hid (below ws 1000 = (x, u, 0))) (hn : 0 ≤ n) (hn2 : n ≤ 200000000000) (hb : Below w0.heap.size w0 w) (hg : w0.heap.size ≤ g)
    (hc : BlkAt w g #[.slice ao len cap]) :
    Calls Try.prog 16 #[.int .i64 n, .pointer (some ⟨g, 0, none⟩)] w (fun q w' => ∃ ao', q = .returned (.tuple #[.int .i64 (rnd n x), .int .i64 0]) ∧ Sl w0 1 ao' (len - u.toNat) (cap - u.toNat) (cs u64 (ws.drop u.toNat)) ∧ BlkAt w' g #[.slice ao' (len - u.toNat) (cap - u.toNat)] ∧ Below w0.heap.size w0 w') := by
  obtain ⟨q1, _⟩ := below_props h.out
  obtain ⟨x0, x1, u0, u1, _, _⟩ := q1 rfl
  have hcnt := hs.count
  obtain ⟨u, rfl⟩ := Int.eq_ofNat_of_zero_le (show 0 ≤ u by omega)
  rw [Int.toNat_natCast]
  obtain ⟨a', hrun, hs'⟩ := slice_from (P := Try.prog) 43 23 Try.underlying43 sizeW hs u (by omega)
  have HS' := Lib.hid hs'
  have HS := Lib.hid hs
  have HB := Lib.hid hb
  have hrem := fun t => i64_rem t n 1000 hn (by omega) (by omega)
  have hquo := fun t => i64_quo t n 1000 hn (by omega) (by omega)
  have hrem' : n.tmod 1000 = n % 1000 := Int.tmod_eq_emod_of_nonneg hn
  have hquo' : n.tdiv 1000 = n / 1000 := Int.tdiv_eq_ediv_of_nonneg hn
  have hq0 : 0 ≤ n / 1000 := by omega
  have hq1 : n / 1000 ≤ 200000000000 := by omega
  obtain ⟨R, hR⟩ : ∃ R, rnd n x = R := ⟨_, rfl⟩
  have hrl := @rnd_lt n x
  have hrg := @rnd_ge n x
  rw [hR] at hrl hrg
  rw [hR]
  have HRL := Lib.hid hrl
  have HRG := Lib.hid hrg
  clear hs' hs hb q1 u0 u1 hR hrl hrg
  obtain ⟨c1, f1⟩ := one_facts hc
  have HC := Lib.hid hc
  clear hc
  go_enter Try.func16, Try.ntmps16
  go_wp2_with fail
  refine (below_val (HS.out.ext HB.out) hlen h).mono ?_
  rintro e w2 ⟨rfl, hb2⟩
  obtain ⟨c2, f2⟩ := one_facts (blkBelow hb2 HC.out)
  have H3 := Lib.hid (one_set (blkBelow hb2 HC.out) (.slice a' (len - u) (cap - u)))
  have HB2 := Lib.hid ((HB.out.trans (hb2.mono HB.out.size)).setCell (p := ⟨g, 0, none⟩) hg (.slice a' (len - u) (cap - u)))
  clear c1 f1 hb2 HB HC
  by_cases hx : x < n % 1000
  · have hr := HRL.out hx
    have HR := Lib.hid hr
    clear hr HRL HRG
    generalize n % 1000 = r at *
    generalize n / 1000 = q at *
    go_wp2
    go_ret2
    exact ⟨_, congrArg (fun b => Ending.returned (.tuple #[.int .i64 b, .int .i64 0])) HR.out.symm, HS'.out, H3.out, HB2.out⟩
  · have hr := HRG.out (by omega)
    have HR := Lib.hid hr
    clear hr HRL HRG
    generalize n % 1000 = r at *
    generalize n / 1000 = q at *
    go_wp2
    go_ret2
    exact ⟨_, congrArg (fun b => Ending.returned (.tuple #[.int .i64 b, .int .i64 0])) HR.out.symm, HS'.out, H3.out, HB2.out⟩

set_option maxRecDepth 100000 in
set_option maxHeartbeats 2000000 in
theorem rounded_err {n x u e : Int} {ws : List (BitVec 64)} {ao : Option Addr} {len cap g : Nat} {w0 w : World} (hs : Sl w0 1 ao len cap (cs u64 ws)) (hlen : len ≤ 1000000000000) (h : Hid (below ws 1000 = (x, u, e))) (he : e ≠ 0) (hb : Below w0.heap.size w0 w)
    (hc : BlkAt w g #[.slice ao len cap]) :
    Calls Try.prog 16 #[.int .i64 n, .pointer (some ⟨g, 0, none⟩)] w (fun q w' => q = .returned (.tuple #[.int .i64 0, .int .i64 4]) ∧ Below w0.heap.size w0 w') := by
  have HS := Lib.hid hs
  have HB := Lib.hid hb
  obtain ⟨c1, f1⟩ := one_facts hc
  clear hs hb hc
  go_enter Try.func16, Try.ntmps16
  go_wp2_with fail
  refine (below_val (HS.out.ext HB.out) hlen h).mono ?_
  rintro q w2 ⟨rfl, hb2⟩
  have HB2 := Lib.hid (HB.out.trans (hb2.mono HB.out.size))
  clear hb2
  go_wp2
  go_ret2
  exact ⟨rfl, HB2.out⟩
end Go.Proofs.Ytjfakdbgcinpcaa
