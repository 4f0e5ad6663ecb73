/-
  JOURNALS: journalAwake, few.
-/
import Derived.Test.YtdgjdbpbnipjcaaTrG
import Derived.Test.YtdgjdbpbnipjcaaTrS
import Derived.Test.YtdgjdbpbnipjcaaTrQ
import Derived.Test.YtdgjdbpbnipjcaaTrH
import Derived.BigQuiet
import Derived.BigRegion
import Derived.Laws.StructEq
import Derived.StillTailTactics
import Derived.RegionTactic
import Derived.Deep.DeepCutAuto
import Derived.Deep.QuietTactic
import Derived.WalkSpells
import Derived.WalkLawsBesides
import Derived.Test.YtdgjdbpbnipjcaaTsA
import Derived.Deep.RegionHeld3
namespace Go.Proofs.Ytdgjdbpbnipjcaa
open Go.RowKit
set_option linter.unusedVariables false

theorem slE_blk {W : World} {g : Nat} {xs : List EvL} {C : Array Value} (h : BlkAt W g C) (hC : C = (flatV evA xs).toArray) (n : Nat) (hn : xs.length = n) (hm : n ≤ 1000000) : Sl W 9 (some ⟨g, 0, none⟩) n n (flatV evA xs) := by
  obtain ⟨E, h⟩ := h
  refine ⟨by rw [flatE_len, hn], Nat.le_refl _, by unfold maxLen; omega, (fun e => by cases e), fun j u hj => ⟨g, 0, rfl, ?_⟩⟩
  rw [Nat.zero_add, cell_of_row _ _ _ _ _ _ h, hC]
  simpa using hj
theorem slE_take {W : World} {ao : Option Addr} {len cap : Nat} {xs : List EvL} (h : Sl W 9 ao len cap (flatV evA xs)) (k : Nat) (hk : k ≤ len) :
    (∀ w' : World, (Instr.slice 25 (.slice ao len cap) none (some (.int .i64 (k : Int))) none).run Try.prog w' = .ok (.slice ao k cap) w') ∧ Sl W 9 ao k cap (flatV evA (xs.take k)) := by
  have hle := h.hle
  refine ⟨fun w' => ?_, ?_⟩
  · have he : Try.prog.elem 25 = 27 := by simp [Program.elem, Try.underlying25]
    rw [run_slice_h w' 25 ao len cap (by rw [he]; exact Try.underlying25) .i64 (k : Int) (by omega) (by omega), he, Try.sizeOf27]
    cases ao with
    | none => simp [Result.andThen, sliced]
    | some a => simp [Result.andThen, sliced, Addr.add]
  · have hl := h.hlen
    refine ⟨?_, by omega, h.hmax, h.hbare, fun j u hj => ?_⟩
    · rw [flatE_len] at hl ⊢
      rw [List.length_take]
      omega
    · rw [← flatE_take] at hj
      have hj2 : j < k * 9 := by
        have := (List.getElem?_eq_some_iff.1 hj).1
        rw [List.length_take] at this
        omega
      rw [List.getElem?_take_of_lt hj2] at hj
      exact h.hcell j u hj
theorem recE_pos (x : EvL) : 0 < (recE x).length := by
  have := frameB_len (encE x)
  unfold recE
  omega
theorem wrRet_ok {l : List EvL} {w : World} (h : l.all framedB = true) : WrRet l w = RetOwnE w 5 (jb l).length (cs b8 (jb l)) 0 := by
  funext e w'
  unfold WrRet
  rw [if_pos h]
theorem wrRet_no {l : List EvL} {w : World} (h : ¬ l.all framedB = true) : WrRet l w = RetB (.tuple #[.slice none 0 0, .int .i64 1]) w := by
  funext e w'
  unfold WrRet
  rw [if_neg h]
def awL : List EvL := [⟨0, 1, 10, 10, 2, 0, 3, 0, 0⟩, ⟨0, 2, 20, 20, 7, 0, 0, 0, 0⟩]
theorem awL_framed : awL.all framedB = true := by decide
set_option maxRecDepth 100000 in
set_option maxHeartbeats 4000000 in
theorem jawake_any (w : World) : Calls Try.prog 5 #[] w (RetB (.bool true) w) := by
  have h1 : offE awL 1 = offE awL 0 + (recE (awL.getD 0 EvL.zero)).length := offE_succ awL 0 (by decide)
  have h2 : offE awL 2 = offE awL 1 + (recE (awL.getD 1 EvL.zero)).length := offE_succ awL 1 (by decide)
  have hp1 := recE_pos (awL.getD 0 EvL.zero)
  have hp2 := recE_pos (awL.getD 1 EvL.zero)
  have ha := offE_all awL
  have hj := jb_len awL
  rw [show awL.length = 2 from rfl] at ha hj
  rw [offE_zero] at h1
  rw [Nat.zero_add] at h1
  have HJ1 := Lib.hid (jr_all awL awL_framed)
  have HJ2 := Lib.hid (jr_cut awL awL_framed ((jb awL).length - 1) 1 (by decide) (by omega) (by omega) (.inr (by rw [show 1 + 1 = 2 from rfl]; omega)))
  have HWR := Lib.hid (fun (a : Option Addr) (c : Nat) (W : World) (h : Sl W 9 a 2 c (flatV evA awL)) => show Calls Try.prog 6 #[.slice a 2 c] W (RetOwnE W 5 (jb awL).length (cs b8 (jb awL)) 0) from by rw [← wrRet_ok awL_framed]; exact write_any awL a 2 c W h rfl (by decide))
  obtain ⟨N, hN⟩ : ∃ N, (jb awL).length = N := ⟨_, rfl⟩
  obtain ⟨o1, ho1⟩ : ∃ o1, offE awL 1 = o1 := ⟨_, rfl⟩
  have HR1 := Lib.hid (fun (a : Option Addr) (c : Nat) (W : World) (h : Sl W 1 a N c (cs b8 (jb awL))) => read_any (jb awL) awL (offE awL) HJ1.out (by decide) a N c W h (by omega))
  have HR2 := Lib.hid (fun (a : Option Addr) (c : Nat) (W : World) (h : Sl W 1 a (N - 1) c (cs b8 ((jb awL).take (N - 1)))) => read_any ((jb awL).take (N - 1)) (awL.take 1) (offE awL) (by rw [← hN]; exact HJ2.out) (by decide) a (N - 1) c W h (by omega))
  rw [show awL.length = 2 from rfl, ha, hN] at HR1
  rw [show (awL.take 1).length = 1 from rfl, ho1] at HR2
  rw [hN] at HWR ha hj
  have hN1 : o1 < N := by omega
  have ho0 : 0 < o1 := by omega
  have hN2 : N ≤ 208 := by omega
  have HJB := Lib.hid hN
  clear h1 h2 hp1 hp2 ha hj hN ho1 HJ1 HJ2
  have HB0 : Hid (BlkAt (w.alloc (.cells #[.int .i64 0, .int .i64 1, .int .i64 10, .int .i64 10, .int .i64 2, .int .i64 0, .int .i64 3, .int .i64 0, .int .i64 0, .int .i64 0, .int .i64 2, .int .i64 20, .int .i64 20, .int .i64 7, .int .i64 0, .int .i64 0, .int .i64 0, .int .i64 0] 27)) w.heap.size #[.int .i64 0, .int .i64 1, .int .i64 10, .int .i64 10, .int .i64 2, .int .i64 0, .int .i64 3, .int .i64 0, .int .i64 0, .int .i64 0, .int .i64 2, .int .i64 20, .int .i64 20, .int .i64 7, .int .i64 0, .int .i64 0, .int .i64 0, .int .i64 0]) := Lib.hid (blkNew rfl)
  have HBB : Hid (Below w.heap.size w (w.alloc (.cells #[.int .i64 0, .int .i64 1, .int .i64 10, .int .i64 10, .int .i64 2, .int .i64 0, .int .i64 3, .int .i64 0, .int .i64 0, .int .i64 0, .int .i64 2, .int .i64 20, .int .i64 20, .int .i64 7, .int .i64 0, .int .i64 0, .int .i64 0, .int .i64 0] 27))) := Lib.hid (below_alloc _ _)
  go_enter Try.func5, Try.ntmps5
  go_upto_region 2 with (fail)
  generalize w.alloc (.cells #[.int .i64 0, .int .i64 1, .int .i64 10, .int .i64 10, .int .i64 2, .int .i64 0, .int .i64 3, .int .i64 0, .int .i64 0, .int .i64 0, .int .i64 2, .int .i64 20, .int .i64 20, .int .i64 7, .int .i64 0, .int .i64 0, .int .i64 0, .int .i64 0] 27) = W1 at *
  have HS1 := Lib.hid (slE_blk (xs := awL) HB0.out rfl 2 rfl (by decide))
  go_wp2_with fail
  refine (HWR.out _ _ _ HS1.out).mono ?_
  rintro e w2 ⟨v2, rfl, ho, hb⟩
  obtain ⟨a2, c2, rfl, hs⟩ := sl_of_own ho
  have HS2 := Lib.hid (HS1.out.ext hb)
  have HB2 := Lib.hid hs
  have HV2 := Lib.hid (below_step HBB.out hb)
  clear ho hb hs HS1 HB0 HBB HWR
  have hNn : ¬ (N : Int) < 2 := by omega
  go_wp2_with fail
  refine (HR1.out _ _ _ HB2.out).mono ?_
  rintro e w3 ⟨v3, rfl, ho, hb⟩
  obtain ⟨a3, c3, rfl, hs⟩ := sl_of_own ho
  have HS3 := Lib.hid (HS2.out.ext hb)
  have HB3 := Lib.hid (HB2.out.ext hb)
  have HX3 := Lib.hid hs
  have HV3 := Lib.hid (below_step HV2.out hb)
  clear ho hb hs HS2 HB2 HV2 HR1
  obtain ⟨a4, hr4, hs4⟩ := slice_to (P := Try.prog) 30 5 Try.underlying30 Try.sizeU8 HB3.out (N - 1) (by omega)
  have HS4 := Lib.hid hs4
  have hsub : (N : Int) - 1 = ((N - 1 : Nat) : Int) := by omega
  obtain ⟨N1, hN1e⟩ : ∃ N1, N - 1 = N1 := ⟨_, rfl⟩
  rw [hN1e] at hsub hr4 HS4 HR2
  clear hs4 hN1e
  go_wp2_with fail
  refine (HR2.out _ _ _ HS4.out).mono ?_
  rintro e w5 ⟨v5, rfl, ho, hb⟩
  obtain ⟨a5, c5, rfl, hs⟩ := sl_of_own ho
  have HS5 := Lib.hid (HS3.out.ext hb)
  have HX5 := Lib.hid (HX3.out.ext hb)
  have HY5 := Lib.hid hs
  have HV5 := Lib.hid (below_step HV3.out hb)
  clear ho hb hs HS3 HB3 HX3 HV3 HR2 hr4 HS4 hsub
  go_wp2_with fail
  refine (sameEv_any awL awL _ _ _ _ _ _ w5 HX5.out HS5.out rfl rfl (by decide)).mono ?_
  rintro e w6 ⟨rfl, hb⟩
  rw [show decide (awL = awL) = true by simp]
  have HS6 := Lib.hid (HS5.out.ext hb)
  have HY6 := Lib.hid (HY5.out.ext hb)
  have HV6 := Lib.hid (below_step HV5.out hb)
  clear hb HS5 HX5 HY5 HV5
  obtain ⟨hr7, hs7⟩ := slE_take HS6.out 1 (by decide)
  have HS7 := Lib.hid hs7
  have hr8 : ∀ w' : World, (Instr.slice 25 (.slice (some ⟨w.heap.size, 0, none⟩) 2 2) none (some (.int .i64 1)) none).run Try.prog w' = .ok (.slice (some ⟨w.heap.size, 0, none⟩) 1 2) w' := hr7
  clear hs7 hr7
  go_wp2_with fail
  refine (sameEv_any (awL.take 1) (awL.take 1) _ _ _ _ _ _ w6 HY6.out HS7.out rfl rfl (by decide)).mono ?_
  rintro e w7 ⟨rfl, hb⟩
  rw [show decide (awL.take 1 = awL.take 1) = true by simp]
  have HV7 := Lib.hid (below_step HV6.out hb)
  clear hb HS6 HY6 HV6 HS7 hr8
  have hc1 : (0 : Int) < (o1 : Int) := by omega
  have hc2 : (o1 : Int) < (N : Int) := by omega
  go_wp2_with fail
  go_ret
  exact ⟨rfl, HV7.out⟩
end Go.Proofs.Ytdgjdbpbnipjcaa

namespace Go.Proofs.Ytdgjdbpbnipjcaa
open Go.RowKit Go.Maps
set_option linter.unusedVariables false

def fewB (fl : FlL) (len : Nat) : Bool := decide ((len : Int) ≤ 40) && (decide ((fl.dn : Int) ≤ 40) && decide ((fl.tn : Int) ≤ 20))
set_option maxHeartbeats 1000000 in
theorem few_evs (fl : FlL) (ao : Option Addr) (len cap : Nat) (w : World) : Calls Try.prog 4 #[.agg (flA fl), .slice ao len cap] w (RetB (.bool (fewB fl len)) w) := by
  obtain ⟨b, r, v, da, dn, dc, ds, ta, tn, tc, ts⟩ := fl
  by_cases h1 : (len : Int) ≤ 40
  · by_cases h2 : (dn : Int) ≤ 40
    · by_cases h3 : (tn : Int) ≤ 20
      · rw [show fewB ⟨b, r, v, da, dn, dc, ds, ta, tn, tc, ts⟩ len = true by simp [fewB]; omega]
        dsimp only [flA]
        go_enter Try.func4, Try.ntmps4
        go_wp2
        go_ret
        exact ⟨rfl, below_alloc _ _⟩
      · rw [show fewB ⟨b, r, v, da, dn, dc, ds, ta, tn, tc, ts⟩ len = false by simp [fewB]; omega]
        dsimp only [flA]
        go_enter Try.func4, Try.ntmps4
        go_wp2
        go_ret
        exact ⟨by first | rfl | (simp; omega), below_alloc _ _⟩
    · rw [show fewB ⟨b, r, v, da, dn, dc, ds, ta, tn, tc, ts⟩ len = false by simp [fewB]; omega]
      dsimp only [flA]
      go_enter Try.func4, Try.ntmps4
      go_wp2
      go_ret
      exact ⟨by first | rfl | (simp; omega), below_alloc _ _⟩
  · rw [show fewB ⟨b, r, v, da, dn, dc, ds, ta, tn, tc, ts⟩ len = false by simp [fewB]; omega]
    dsimp only [flA]
    go_enter Try.func4, Try.ntmps4
    go_wp2
    go_ret
    exact ⟨by first | rfl | (simp; omega), below_alloc _ _⟩
theorem spotsL_len (fl : FlL) (l : List EvL) (hl : ∀ x ∈ l, EvR x) : (spotsL fl l).length ≤ 128 := by
  unfold spotsL
  split
  · next h0 =>
    obtain ⟨⟨hb1, hb2⟩, _⟩ := fleetE_zero h0
    have hi := inv_fold (fl := fl) (n := fl.b.toNat) (setL l) (fun x hx => hl x (setL_mem l x hx)) (by omega) (setL l).length (Nat.le_refl _)
    rw [hi.len]
    omega
  · simp
theorem cut_take (l : List EvL) (ct wh : Nat) (h : offE l wh ≤ ct) (hw : wh ≤ l.length) : ((jb l).take ct).take (offE l wh) = jb (l.take wh) := by
  rw [List.take_take, Nat.min_eq_left h]
  have e : jb l = jb (l.take wh) ++ jb (l.drop wh) := by
    conv => lhs; rw [← List.take_append_drop wh l]
    unfold jb
    rw [List.flatMap_append]
  rw [e]
  unfold offE
  rw [List.take_left']
  rfl
theorem framed_all_evR {l : List EvL} (h : l.all framedB = true) : ∀ x ∈ l, EvR x := fun x hx => framed_evR (List.all_eq_true.1 h x hx)
theorem framed_take {l : List EvL} (h : l.all framedB = true) (k : Nat) : (l.take k).all framedB = true := by
  rw [List.all_eq_true] at h ⊢
  exact fun x hx => h x (List.mem_of_mem_take hx)
/-- What stands while TopRecovery runs. -/
structure RecW (w : World) (fl : FlL) (ao : Option Addr) (len cap : Nat) (l : List EvL) (E : Array Value) (W : World) : Prop where
  t : TwoW w w.heap.size (flA fl) E W
  l : Sl W 9 ao len cap (flatV evA l)
  f : FlM W fl
theorem RecW.ext {w W W' : World} {fl : FlL} {ao : Option Addr} {len cap : Nat} {l : List EvL} {E : Array Value} (h : RecW w fl ao len cap l E W) (hb : Below W.heap.size W W') : RecW w fl ao len cap l E W' := ⟨h.t.ext hb, h.l.ext hb, h.f.below hb⟩
theorem keepR {w w1 w2 : World} {fl : FlL} {ao a1 a2 a3 : Option Addr} {len cap n1 n2 n3 k1 k2 k3 : Nat} {l L : List EvL} {bs : List UInt8} {sp : List SpL} {E : Array Value} {g : Nat} {x0 x1 x2 x3 x4 : Value} (hb : Below w1.heap.size w1 w2)
    (h : w1.cell? ⟨g, 0, none⟩ = some x0 ∧ w1.cell? ⟨g, 1, none⟩ = some x1 ∧ w1.cell? ⟨g, 2, none⟩ = some x2 ∧ w1.cell? ⟨g, 3, none⟩ = some x3 ∧ w1.cell? ⟨g, 4, none⟩ = some x4 ∧ Hid (RecW w fl ao len cap l E w1 ∧ Sl w1 1 a1 n1 k1 (cs b8 bs) ∧ Sl w1 9 a2 n2 k2 (flatV evA L) ∧ Sl w1 4 a3 n3 k3 (flatV spA sp))) :
    w2.cell? ⟨g, 0, none⟩ = some x0 ∧ w2.cell? ⟨g, 1, none⟩ = some x1 ∧ w2.cell? ⟨g, 2, none⟩ = some x2 ∧ w2.cell? ⟨g, 3, none⟩ = some x3 ∧ w2.cell? ⟨g, 4, none⟩ = some x4 ∧ Hid (RecW w fl ao len cap l E w2 ∧ Sl w2 1 a1 n1 k1 (cs b8 bs) ∧ Sl w2 9 a2 n2 k2 (flatV evA L) ∧ Sl w2 4 a3 n3 k3 (flatV spA sp)) :=
  ⟨cell_keep hb h.1, cell_keep hb h.2.1, cell_keep hb h.2.2.1, cell_keep hb h.2.2.2.1, cell_keep hb h.2.2.2.2.1, Lib.hid ⟨h.2.2.2.2.2.out.1.ext hb, h.2.2.2.2.2.out.2.1.ext hb, h.2.2.2.2.2.out.2.2.1.ext hb, h.2.2.2.2.2.out.2.2.2.ext hb⟩⟩
theorem step_evs (w : World) {ops : Array Oper} {o : Oper} {a : Act} {K : Act → World → Prop} {Q : Exit → Act → World → Prop} {E : Prop}
    (hw : Region.wanted o (yielded ops a.tmps) = true) (s x : Operand)
    (ho : o.op = .call { callee := .builtin .append, args := #[s, x], argTypes := #[25, 25] })
    (B : Nat) {v : Value} {n : Nat} {xs : List EvL} (hs : a.eval s = v) (hown : w.ownsRow B 27 9 v n (flatV evA xs)) {ao : Option Addr} {m c : Nat} {ys : List EvL} (hx : a.eval x = .slice ao m c) (hsl : Sl w 9 ao m c (flatV evA ys))
    (h63 : n + m ≤ 1000000) (hB : B ≤ w.heap.size)
    (hK : ∀ v' w', w'.ownsRow B 27 9 v' (n + m) (flatV evA (xs ++ ys)) → Below B w w' → (∀ g C, BlkAt w g C → some g ≠ v.ownBlock → BlkAt w' g C) → K (a.put o.dst v') w') :
    if Region.wanted o (yielded ops a.tmps) = true then Oper.wp Try.prog o a w K Q else E := by
  rw [if_pos hw]
  have ht := Try.underlying25
  obtain ⟨v', w', hrun, r1, r2, r0, r3, r4⟩ := run_append_acc (P := Try.prog) w B 25 25 o.type 27 (.agg #[.int .i64 0, .int .i64 0, .int .i64 0, .int .i64 0, .int .i64 0, .int .i64 0, .int .i64 0, .int .i64 0, .int .i64 0]) 9 72 ht infoEv rfl (by decide) v n (flatV evA xs) (.inl hown) (.slice ao m c) m (flatV evA ys)
    (src_sl w ht hsl (flatE_one ys)) (by unfold maxLen; omega) (by omega) hB
  have hfin : w'.ownsRow B 27 9 v' (n + m) (flatV evA (xs ++ ys)) := by
    rw [flatV_append]
    by_cases hm : 0 < m
    · exact r2 hm
    · obtain rfl : m = 0 := by omega
      obtain ⟨rfl, rfl⟩ := r0 rfl
      have hy : flatV evA ys = [] := List.eq_nil_of_length_eq_zero (by have := hsl.hlen; omega)
      rw [hy, List.append_nil]
      exact hown
  unfold Oper.wp execOp
  simp only [ho, resolve, invoke, builtin, Sem.run_bind, Sem.run_pure, Result.andThen_ok, List.map_toArray, List.map_cons, List.map_nil, hs, hx, hrun]
  refine hK v' w' hfin r4 fun g C hg hne => ?_
  obtain ⟨E', hgE⟩ := hg
  have hgl : g < w.heap.size := (Array.getElem?_eq_some_iff.1 hgE).1
  refine ⟨E', ?_⟩
  rw [r3.block g hgl (by split <;> simp_all)]
  exact hgE
theorem own_emptyV {W : World} {g B : Nat} (h : W.heap[g]? = some (.cells #[] 27)) (hB : B ≤ g) : W.ownsRow B 27 9 (.slice (some ⟨g, 0, none⟩) 0 0) 0 (flatV evA []) :=
  ⟨by simp [flatV], .inr ⟨g, 0, #[], rfl, hB, h, Nat.le_refl _, Nat.zero_le _, by simp, by simp [flatV]⟩⟩
theorem slHA {W : World} {N : Nat} {ao : Option Addr} {n c : Nat} {xs : List Value} {o : Obj} (h : Hid (Sl W N ao n c xs)) : Hid (Sl (W.alloc o) N ao n c xs) := Lib.hid (h.out.ext (below_alloc _ _))
theorem slHD {W : World} {N : Nat} {ao : Option Addr} {n c : Nat} {xs : List Value} (h : Hid (Sl W N ao n c xs)) : Hid (Sl W.drew N ao n c xs) := Lib.hid (h.out.ext (below_drew (Below.refl _ _)))
theorem owHA {W : World} {B : Nat} {v : Value} {n : Nat} {xs : List Value} {o : Obj} (h : Hid (W.ownsRow B 27 9 v n xs)) : Hid ((W.alloc o).ownsRow B 27 9 v n xs) := Lib.hid (ownsRow_ext h.out (below_alloc _ _))
theorem owHD {W : World} {B : Nat} {v : Value} {n : Nat} {xs : List Value} (h : Hid (W.ownsRow B 27 9 v n xs)) : Hid (W.drew.ownsRow B 27 9 v n xs) := h
theorem bel_tr {w W W' : World} (h : Below w.heap.size w W) (h' : Below w.heap.size W W') : Below w.heap.size w W' := h.trans h'
end Go.Proofs.Ytdgjdbpbnipjcaa
