/-
  LINK: Take, the walk.
-/
import Derived.Test.YtpmjgiabedjlgaaProg
import Derived.Test.YtpmjgiabedjlgaaBase7
import Derived.Test.YtpmjgiabedjlgaaBase11
import Derived.Test.YtpmjgiabedjlgaaBase14
import Derived.Test.YtpmjgiabedjlgaaLk2
import Derived.Test.YtpmjgiabedjlgaaLk5
import Derived.Test.YtpmjgiabedjlgaaLk6
import Derived.BigQuiet
import Derived.Laws.StructEq
import Derived.StillTailTactics
import Derived.RegionTactic
import Derived.BigRegion
import Derived.Deep.RegionHeld3
import Derived.Deep.RegionLaw
import Derived.Deep.LoopGhost
import Derived.Deep.DeepCutAuto
import Derived.Deep.QuietTactic
import Derived.WalkSpells
import Derived.WalkLawsBesides
namespace Go.Proofs.Ytpmjgiabedjlgaa
open Go.RowKit Go.Maps
set_option linter.unusedVariables false

abbrev Qf := Nat → Option (List UInt8)
def absF (f : Kf) : Qf := fun k => (f k).map Bv.bs
def drain : Nat → List (List UInt8) → Qf → List (List UInt8) × Qf
  | 0, o, q => (o, q)
  | m + 1, o, q => match q o.length with
    | none => (o, q)
    | some x => drain m (o ++ [x]) (fun j => if j = o.length then none else q j)
theorem drain_none {m : Nat} {o : List (List UInt8)} {q : Qf} (h : q o.length = none) : drain m o q = (o, q) := by
  cases m with
  | zero => rfl
  | succ m => unfold drain; rw [h]
theorem drain_some {m : Nat} {o : List (List UInt8)} {q : Qf} {x : List UInt8} (h : q o.length = some x) : drain (m + 1) o q = drain m (o ++ [x]) (fun j => if j = o.length then none else q j) := by
  conv => lhs; unfold drain
  rw [h]
theorem absF_put (f : Kf) (s : Nat) (x : Bv) : absF (fun j => if j = s then some x else f j) = fun j => if j = s then some x.bs else absF f j := by
  funext j
  unfold absF
  by_cases h : j = s <;> simp [h]
theorem absF_del (f : Kf) (s : Nat) : absF (fun j => if j = s then none else f j) = fun j => if j = s then none else absF f j := by
  funext j
  unfold absF
  by_cases h : j = s <;> simp [h]
section
variable {B : Nat} {W : World} {r b n : Nat} {v : Value} {D : DataW Value} {xs : List Bv} {f : Kf}
set_option maxRecDepth 100000 in
theorem take_neg (W : World) (r : Nat) (seq : Int) (a : Option Addr) (len cap : Nat) (h : seq < 0) : Calls Try.prog 36 #[.pointer (some ⟨r, 0, none⟩), .agg #[.int .i64 seq, .slice a len cap]] W (RetB (.int .i64 1) W) := by
  have HB := Lib.hid (below_alloc W (.cells #[.int .i64 seq, .slice a len cap] 88))
  go_enter Try.func36, Try.ntmps36
  go_wp2
  go_ret
  exact ⟨rfl, HB.out⟩
set_option maxRecDepth 100000 in
theorem take_big (W : World) (r : Nat) (seq : Int) (a : Option Addr) (len cap : Nat) (h0 : ¬ seq < 0) (h : (1048576 : Int) ≤ seq) : Calls Try.prog 36 #[.pointer (some ⟨r, 0, none⟩), .agg #[.int .i64 seq, .slice a len cap]] W (RetB (.int .i64 1) W) := by
  have HB := Lib.hid (below_alloc W (.cells #[.int .i64 seq, .slice a len cap] 88))
  go_enter Try.func36, Try.ntmps36
  go_wp2
  go_ret
  exact ⟨rfl, HB.out⟩
set_option maxRecDepth 100000 in
theorem take_long (W : World) (r : Nat) (seq : Int) (a : Option Addr) (len cap : Nat) (h0 : ¬ seq < 0) (h : ¬ (1048576 : Int) ≤ seq) (h2 : (256 : Int) < (len : Int)) : Calls Try.prog 36 #[.pointer (some ⟨r, 0, none⟩), .agg #[.int .i64 seq, .slice a len cap]] W (RetB (.int .i64 1) W) := by
  have HB := Lib.hid (below_alloc W (.cells #[.int .i64 seq, .slice a len cap] 88))
  go_enter Try.func36, Try.ntmps36
  go_wp2
  go_ret
  exact ⟨rfl, HB.out⟩
set_option maxRecDepth 100000 in
set_option maxHeartbeats 1000000 in
theorem take_full (h : Hid (RecAt B W r v b n D xs f)) (s : Nat) (a : Option Addr) (len cap : Nat) (h1 : (s : Int) < 1048576) (h2 : ¬ (256 : Int) < (len : Int)) (hx : (xs.length : Int) ≤ 1048576) (h3 : (xs.length : Int) + 16 ≤ (s : Int)) : Calls Try.prog 36 #[.pointer (some ⟨r, 0, none⟩), .agg #[.int .i64 (s : Int), .slice a len cap]] W (RetB (.int .i64 8) W) := by
  have HB := Lib.hid (below_alloc W (.cells #[.int .i64 (s : Int), .slice a len cap] 88))
  obtain ⟨c0, c1, _, _⟩ := (recAlloc (o := .cells #[.int .i64 (s : Int), .slice a len cap] 88) h).out.cells
  obtain ⟨va, vc, e, _⟩ := h.out.form
  subst e
  have hF : Hid (BlkAt (W.alloc (.cells #[.int .i64 (s : Int), .slice a len cap] 88)) W.heap.size #[.int .i64 (s : Int), .slice a len cap]) := blkNew rfl
  have g1 : ¬ (s : Int) < 0 := by omega
  have g2 : ¬ (1048576 : Int) ≤ (s : Int) := by omega
  have hx0 : (0 : Int) ≤ (xs.length : Int) := by omega
  have hw : IntKind.i64.wrap ((xs.length : Int) + 16) = (xs.length : Int) + 16 := by rw [IntKind.wrap_i64]; omega
  clear h1 h
  go_enter Try.func36, Try.ntmps36
  go_upto_region 5 with (fail)
  generalize W.alloc (.cells #[.int .i64 (s : Int), .slice a len cap] 88) = W1 at *
  obtain ⟨f0, f1, _, _⟩ := two_facts hF.out
  go_quiet (fail)
  go_wp2
  go_ret
  exact ⟨rfl, below_drewN HB.out _⟩
set_option maxRecDepth 100000 in
set_option maxHeartbeats 1000000 in
theorem take_known (h : Hid (RecAt B W r v b n D xs f)) (s : Nat) (a : Option Addr) (len cap : Nat) (bs : List UInt8) (hs : Sl W 1 a len cap (cs b8 bs)) (h1 : (s : Int) < 1048576) (h2 : ¬ (256 : Int) < (len : Int)) (hx : (xs.length : Int) ≤ 1048576) (h3 : ¬ (xs.length : Int) + 16 ≤ (s : Int))
    (x : Bv) (hxo : BdOk W B x) (hkn : ∀ W', Hid (RecAt B W' r v b n D xs f) → Calls Try.prog 54 #[.pointer (some ⟨r, 0, none⟩), .int .i64 (s : Int)] W' (fun e W'' => e = .returned (.tuple #[.slice x.a x.bs.length x.c, .bool true]) ∧ W'' = W')) :
    Calls Try.prog 36 #[.pointer (some ⟨r, 0, none⟩), .agg #[.int .i64 (s : Int), .slice a len cap]] W (RetB (.int .i64 (if x.bs = bs then 0 else 21)) W) := by
  have HB := Lib.hid (below_alloc W (.cells #[.int .i64 (s : Int), .slice a len cap] 88))
  have HR1 := (recAlloc (o := .cells #[.int .i64 (s : Int), .slice a len cap] 88) h)
  obtain ⟨c0, c1, _, _⟩ := HR1.out.cells
  obtain ⟨va, vc, e, _⟩ := h.out.form
  subst e
  have hF : Hid (BlkAt (W.alloc (.cells #[.int .i64 (s : Int), .slice a len cap] 88)) W.heap.size #[.int .i64 (s : Int), .slice a len cap]) := blkNew rfl
  have g1 : ¬ (s : Int) < 0 := by omega
  have g2 : ¬ (1048576 : Int) ≤ (s : Int) := by omega
  have hx0 : (0 : Int) ≤ (xs.length : Int) := by omega
  obtain ⟨L, hL⟩ : ∃ L : Int, (xs.length : Int) + 16 = L := ⟨_, rfl⟩
  have hw : IntKind.i64.wrap ((xs.length : Int) + 16) = L := by rw [IntKind.wrap_i64]; omega
  rw [hL] at h3
  clear hL
  have HKN := Lib.hid hkn
  obtain ⟨xa, xc, xb⟩ := x
  dsimp only at HKN ⊢
  have HEQ : Hid (∀ W', Below W.heap.size W W' → Calls Try.prog 55 #[.slice xa xb.length xc, .slice a len cap] W' (fun e W'' => e = .returned (.bool (decide (xb = bs))) ∧ W'' = W')) := fun W' hb => equal_any W' xa a _ _ len cap xb bs ((hxo.sl).ext hb) (hs.ext hb)
  clear h1 h hkn hs hxo hx hx0
  obtain ⟨R, hR⟩ : ∃ R : Int, (if xb = bs then (0 : Int) else 21) = R := ⟨_, rfl⟩
  rw [hR]
  have HRR := Lib.hid hR
  clear hR
  generalize (s : Int) = q at *
  go_enter Try.func36, Try.ntmps36
  go_upto_region 5 with (fail)
  generalize W.alloc (.cells #[.int .i64 q, .slice a len cap] 88) = W1 at *
  obtain ⟨f0, f1, _, _⟩ := two_facts hF.out
  go_quiet (fail)
  have HRq := recDrewN HR1 nq
  have HBq := Lib.hid (below_drewN HB.out nq)
  go_wp2_with fail
  refine (HKN.out _ HRq).mono ?_
  rintro e w5 ⟨rfl, rfl⟩
  go_wp2_with fail
  refine (HEQ.out _ HBq.out).mono ?_
  rintro e w5 ⟨rfl, rfl⟩
  by_cases hbe : xb = bs
  · subst hbe
    go_wp2
    go_ret
    exact ⟨by have h0 := HRR.out; simp at h0; rw [← h0]; rfl, HBq.out⟩
  · have hd : decide (xb = bs) = false := decide_eq_false hbe
    rw [hd]
    clear hd
    go_wp2
    go_ret
    exact ⟨by have h0 := HRR.out; rw [if_neg hbe] at h0; rw [← h0]; rfl, HBq.out⟩
end
end Go.Proofs.Ytpmjgiabedjlgaa
