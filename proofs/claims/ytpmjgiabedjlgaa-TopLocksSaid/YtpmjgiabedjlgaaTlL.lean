/-
  LOCKS OVER A LINK: the reports of a lock after steps.
-/
import Derived.Test.YtpmjgiabedjlgaaTlP
import Derived.Test.YtpmjgiabedjlgaaTlS
import Derived.Test.YtpmjgiabedjlgaaLock21
import Derived.Test.YtpmjgiabedjlgaaTok2
import Derived.Test.YtpmjgiabedjlgaaTok3
import Derived.Test.YtpmjgiabedjlgaaTlE
import Derived.BigQuiet
import Derived.Laws.StructEq
import Derived.StillTailTactics
import Derived.RegionTactic
import Derived.Deep.DeepCutAuto
import Derived.Deep.QuietTactic
import Derived.WalkSpells
import Derived.WalkLawsBesides
namespace Go.Proofs.Ytpmjgiabedjlgaa
open Go.RowKit
set_option linter.unusedVariables false

theorem go_bad {s : LS} {o : StepL} {loc : Int} (h0 : o.k = 0) (hb : Tok.bad ⟨3, 1, o.r, 0, 100000, o.n⟩) : StepL.go s o loc = s := by unfold StepL.go; rw [if_pos h0, if_pos hb]
theorem go_unl {s : LS} {o : StepL} {loc : Int} (h0 : o.k = 0) (hb : ¬ Tok.bad ⟨3, 1, o.r, 0, 100000, o.n⟩) : StepL.go s o loc = (s.unlock 3 1 o.r 0 100000 o.n (tagOf s.ka s.kb 3 1 o.r 0 100000 o.n) loc (loc + 5) loc).1 := by unfold StepL.go; rw [if_pos h0, if_neg hb]
theorem go_pau {s : LS} {o : StepL} {loc : Int} (h : o.k = 1) : StepL.go s o loc = (s.pause loc).1 := by unfold StepL.go; rw [if_neg (by omega), if_pos h]
theorem go_res {s : LS} {o : StepL} {loc : Int} (h : o.k = 2) : StepL.go s o loc = (s.resume loc).1 := by unfold StepL.go; rw [if_neg (by omega), if_neg (by omega), if_pos h]
theorem go_clo {s : LS} {o : StepL} {loc : Int} (h : o.k = 3) : StepL.go s o loc = (s.close o.p loc).1 := by unfold StepL.go; rw [if_neg (by omega), if_neg (by omega), if_neg (by omega), if_pos h]
theorem go_els {s : LS} {o : StepL} {loc : Int} (h0 : ¬ o.k = 0) (h1 : ¬ o.k = 1) (h2 : ¬ o.k = 2) (h3 : ¬ o.k = 3) : StepL.go s o loc = s := by unfold StepL.go; rw [if_neg h0, if_neg h1, if_neg h2, if_neg h3]
theorem five_cells9 {W : World} {k : Nat} {x0 x1 x2 x3 x4 : Value} (h : BlkAt W k #[x0, x1, x2, x3, x4]) : W.cell? ⟨k, 0, none⟩ = some x0 ∧ W.cell? ⟨k, 1, none⟩ = some x1 ∧ W.cell? ⟨k, 2, none⟩ = some x2 ∧ W.cell? ⟨k, 3, none⟩ = some x3 ∧ W.cell? ⟨k, 4, none⟩ = some x4 := by
  obtain ⟨E, h⟩ := h
  refine ⟨?_, ?_, ?_, ?_, ?_⟩ <;> (rw [cell_of_row _ _ _ _ _ _ h]; rfl)
theorem lbDrop {w W : World} {g : Nat} {p : Nat × Array Value} {L : List (Nat × Array Value)} {s : LS} {v : Value} (h : Hid (LkB w g (p :: L) s v W)) : Hid (LkB w g L s v W) := Lib.hid ⟨h.out.l, fun q hq => h.out.bs q (List.mem_cons_of_mem _ hq), h.out.lo, h.out.hg, h.out.hn⟩
theorem lbStart {w w2 : World} {ka kb : BitVec 64} {E : TypeId} {s : LS} (hl : Hid (LockAt w2 ((w.alloc (.cells #[u64 ka, u64 kb] E)).heap.size + 1) (.slice none 0 0) s)) (hb : Below (w.alloc (.cells #[u64 ka, u64 kb] E)).heap.size (w.alloc (.cells #[u64 ka, u64 kb] E)) w2) (hn : s.reps.length ≤ 512) :
    Hid (LkB w ((w.alloc (.cells #[u64 ka, u64 kb] E)).heap.size + 1) [(w.heap.size, #[u64 ka, u64 kb])] s (.slice none 0 0) w2) := by
  refine Lib.hid ⟨hl.out, fun p hp => ?_, below_step (below_alloc _ _) hb, by simp; omega, hn⟩
  obtain rfl : p = _ := List.mem_singleton.1 hp
  exact ⟨blkBelow hb (blkNew rfl), by simp; omega, by simp [Value.ownBlock]⟩
theorem lbHead {w W : World} {g k : Nat} {C : Array Value} {L : List (Nat × Array Value)} {s : LS} {v : Value} (h : Hid (LkB w g ((k, C) :: L) s v W)) : BlkAt W k C := (h.out.bs (k, C) (List.mem_cons_self ..)).1
theorem lbKey {w W : World} {g k k2 : Nat} {C C2 : Array Value} {L : List (Nat × Array Value)} {s : LS} {v : Value} (h : Hid (LkB w g ((k2, C2) :: (k, C) :: L) s v W)) : BlkAt W k C := lbHead (lbDrop h)
def RetReps (l : List Rep) (W : World) (e : Ending) (W' : World) : Prop := ∃ a c, e = .returned (.tuple #[.slice a l.length c, .bool true]) ∧ Hid (Sl W' 6 a l.length c (rcs l)) ∧ Below W.heap.size W W'
set_option maxRecDepth 100000 in
set_option maxHeartbeats 8000000 in
theorem locked_any (ka kb : BitVec 64) (a : Option Addr) (len cap : Nat) (l : List StepL) (w : World) (hl : l.length = len) (hs : Sl w 5 a len cap (flatV stA l)) (h12 : len ≤ 12) : Calls Try.prog 14 #[.agg #[u64 ka, u64 kb], .slice a len cap] w (RetReps (runT ⟨3, ka, kb, 1, 0, []⟩ l len).reps w) := by
  have HS := Lib.hid hs
  have HL := Lib.hid hl
  clear hs hl
  obtain ⟨s0, hs0⟩ : ∃ s0 : LS, s0 = ⟨3, ka, kb, 1, 0, []⟩ := ⟨_, rfl⟩
  have HRI : Hid (∀ i, RunI ka kb l i (runT s0 l i)) := Lib.hid (by rw [hs0]; exact runI ka kb l)
  rw [← hs0]
  go_enter Try.func14, Try.ntmps14
  go_wp2_with fail
  refine (new_ok 3 ka kb _ (by omega) (by omega)).mono ?_
  rintro e w2 ⟨rfl, hl2, hb2⟩
  rw [← hs0] at hl2
  have HB0 := lbStart hl2 hb2 (by rw [hs0]; simp)
  clear hl2 hb2 hs0
  generalize (w.alloc (.cells #[u64 ka, u64 kb] 32)).heap.size + 1 = g at *
  go_upto_region 6 with (fail)
  go_loopw [8, 9] (fun t i wr => ∃ k : Nat, k ≤ len ∧ i = .int .i64 (k : Int) ∧ t = .int .i64 (locT l k) ∧ ∃ v, Hid (LkB w g [(w.heap.size, #[u64 ka, u64 kb])] (runT s0 l k) v wr)) (fun _ i _ => len - (intOf i).toNat)
  case atStart => exact ⟨0, by omega, rfl, rfl, _, HB0⟩
  case round =>
    obtain ⟨k, hk, rfl, rfl, v, HB⟩ := hrel
    clear HB0
    have hL := locT_le l k
    by_cases hkl : k < len
    · have hkl' : (k : Int) < (len : Int) := by omega
      have hk0 : (0 : Int) ≤ (k : Int) := by omega
      obtain ⟨b, o, e, c0, c1, c2, c3, c4⟩ := step_at (HS.out.ext HB.out.lo) HL.out k hkl
      subst e
      have HT : Hid (runT s0 l (k + 1) = StepL.go (runT s0 l k) (l.getD k StepL.zero) (locT l (k + 1))) := Lib.hid rfl
      have HLT : Hid (locT l (k + 1) = locT l k + ((l.getD k StepL.zero).w.toNat : Int)) := Lib.hid rfl
      have HK : Hid ((runT s0 l k).ka = ka ∧ (runT s0 l k).kb = kb) := Lib.hid ⟨(HRI.out k).ka, (HRI.out k).kb⟩
      generalize l.getD k StepL.zero = o9 at *
      obtain ⟨K, R, N, P, T⟩ := o9
      have hT0 : T.toNat < 256 := UInt8.toNat_lt T
      dsimp only at c0 c1 c2 c3 c4 HLT
      have hL1 := locT_le l (k + 1)
      obtain ⟨L1, hL1e⟩ : ∃ L1, locT l (k + 1) = L1 := ⟨_, rfl⟩
      rw [hL1e] at HT HLT hL1
      have HL1 := Lib.hid hL1e
      clear hL1e
      generalize locT l k = L0 at *
      generalize runT s0 l k = s at *
      go_upto_region 9 with (fail)
      have HB1 := lbAdd HB (below_alloc wr (.cells #[.int .i64 K, .int .i64 R, .int .i64 N, .int .i64 P, b8 T] 62)) (blkNew rfl) (Nat.le_refl _)
      generalize wr.alloc (.cells #[.int .i64 K, .int .i64 R, .int .i64 N, .int .i64 P, b8 T] 62) = W1 at *
      generalize wr.heap.size = xb at *
      obtain ⟨d0, d1, d2, d3, d4⟩ := five_cells9 (lbHead HB1)
      clear c0 c1 c2 c3 c4 HB
      go_upto_region 10 with (fail)
      generalize hL1e : L0 + (T.toNat : Int) = L2 at *
      obtain rfl : L1 = L2 := HLT.out
      clear HLT hL1e
      by_cases hK0 : K = 0
      · subst hK0
        by_cases hb : Tok.bad ⟨3, 1, R, 0, 100000, N⟩
        · have HI : Hid (∀ W, Calls Try.prog 26 #[.agg #[Ytpmjgiabedjlgaa.u64 ka, Ytpmjgiabedjlgaa.u64 kb], .agg #[.int .i64 3, .int .i64 1, .int .i64 R, .int .i64 0, .int .i64 100000, .int .i64 N, .int .u64 0]] W (RetB (.tuple #[.agg #[.int .i64 0, .int .i64 0, .int .i64 0, .int .i64 0, .int .i64 0, .int .i64 0, .int .u64 0], .int .i64 1]) W)) := Lib.hid (fun W => issue_bad ka kb 3 1 R 0 100000 N 0#64 W (Lib.hid (chk_bad hb)))
          have HT2 : Hid (runT s0 l (k + 1) = s) := Lib.hid (by rw [HT.out, go_bad rfl hb])
          obtain ⟨q0, q1, _, _⟩ := two_facts (lbKey HB1)
          clear hb HT
          go_wp2_with fail
          refine (HI.out _).mono ?_
          rintro e w3 ⟨rfl, hb3⟩
          have HB3 := lbBelow (below_step hb3 (below_alloc w3 (.cells #[.int .i64 0, .int .i64 0, .int .i64 0, .int .i64 0, .int .i64 0, .int .i64 0, .int .u64 0] 69))) HB1
          clear HB1 q0 q1 d0 d1 d2 d3 d4 HI hb3
          go_wp2_with fail
          go_roundw
          case rel => exact ⟨k + 1, by omega, by go_num, by rw [HL1.out], _, by rw [HT2.out]; exact lbDrop HB3⟩
          case measure => simp [intOf]; omega
        · obtain ⟨r, hU⟩ : ∃ r, s.unlock 3 1 R 0 100000 N (tagOf ka kb 3 1 R 0 100000 N) L1 (L1 + 5) L1 = r := ⟨_, rfl⟩
          obtain ⟨s', er⟩ := r
          have HT2 : Hid (runT s0 l (k + 1) = s') := Lib.hid (by rw [HT.out, go_unl rfl hb]; dsimp only; rw [HK.out.1, HK.out.2, hU])
          have HI : Hid (∀ W, Calls Try.prog 26 #[.agg #[Ytpmjgiabedjlgaa.u64 ka, Ytpmjgiabedjlgaa.u64 kb], .agg #[.int .i64 3, .int .i64 1, .int .i64 R, .int .i64 0, .int .i64 100000, .int .i64 N, .int .u64 0]] W (RetB (.tuple #[.agg #[.int .i64 3, .int .i64 1, .int .i64 R, .int .i64 0, .int .i64 100000, .int .i64 N, Ytpmjgiabedjlgaa.u64 (tagOf ka kb 3 1 R 0 100000 N)], .int .i64 0]) W)) := Lib.hid (fun W => issue_ok ka kb 3 1 R 0 100000 N 0#64 W hb)
          have HU := Lib.hid hU
          obtain ⟨q0, q1, _, _⟩ := two_facts (lbKey HB1)
          clear hU hb HT HK
          generalize tagOf ka kb 3 1 R 0 100000 N = G at *
          go_wp2_with fail
          refine (HI.out _).mono ?_
          rintro e w3 ⟨rfl, hb3⟩
          have HB3 := lbAdd (lbBelow hb3 HB1) (below_alloc w3 (.cells #[.int .i64 3, .int .i64 1, .int .i64 R, .int .i64 0, .int .i64 100000, .int .i64 N, Ytpmjgiabedjlgaa.u64 G] 69)) (blkNew rfl) (Nat.le_refl _)
          clear HB1 q0 q1 d0 d1 d2 d3 d4 HI hb3
          go_upto_region 13 with (fail)
          generalize w3.alloc (.cells #[.int .i64 3, .int .i64 1, .int .i64 R, .int .i64 0, .int .i64 100000, .int .i64 N, Ytpmjgiabedjlgaa.u64 G] 69) = W3 at *
          generalize w3.heap.size = tb at *
          obtain ⟨t0, t1, t2, t3, t4, t5, t6⟩ := tok_cells (w := w) (E := 0) (lbHead HB3)
          go_wp2_with fail
          refine (unlock_lb HB3 HU.out).mono ?_
          rintro e w5 ⟨rfl, v5, HB5⟩
          clear HB3 t0 t1 t2 t3 t4 t5 t6 HU
          go_wp2_with fail
          go_roundw
          case rel => exact ⟨k + 1, by omega, by go_num, by rw [HL1.out], v5, by rw [HT2.out]; exact lbDrop (lbDrop HB5)⟩
          case measure => simp [intOf]; omega
      by_cases hK1 : K = 1
      · subst hK1
        clear HK hK0
        obtain ⟨r, hU⟩ : ∃ r, s.pause L1 = r := ⟨_, rfl⟩
        obtain ⟨s', er⟩ := r
        have HT2 : Hid (runT s0 l (k + 1) = s') := Lib.hid (by rw [HT.out, go_pau rfl, hU])
        have HU := Lib.hid hU
        clear hU HT
        go_wp2_with fail
        refine (pause_lb HB1 HU.out).mono ?_
        rintro e w5 ⟨rfl, v5, HB5⟩
        clear HB1 d0 d1 d2 d3 d4 HU
        go_wp2_with fail
        go_roundw
        case rel => exact ⟨k + 1, by omega, by go_num, by rw [HL1.out], v5, by rw [HT2.out]; exact lbDrop HB5⟩
        case measure => simp [intOf]; omega
      by_cases hK2 : K = 2
      · subst hK2
        clear HK hK0 hK1
        obtain ⟨r, hU⟩ : ∃ r, s.resume L1 = r := ⟨_, rfl⟩
        obtain ⟨s', er⟩ := r
        have HT2 : Hid (runT s0 l (k + 1) = s') := Lib.hid (by rw [HT.out, go_res rfl, hU])
        have HU := Lib.hid hU
        clear hU HT
        go_wp2_with fail
        refine (resume_lb HB1 HU.out).mono ?_
        rintro e w5 ⟨rfl, v5, HB5⟩
        clear HB1 d0 d1 d2 d3 d4 HU
        go_wp2_with fail
        go_roundw
        case rel => exact ⟨k + 1, by omega, by go_num, by rw [HL1.out], v5, by rw [HT2.out]; exact lbDrop HB5⟩
        case measure => simp [intOf]; omega
      by_cases hK3 : K = 3
      · subst hK3
        clear HK hK0 hK1 hK2
        obtain ⟨r, hU⟩ : ∃ r, s.close P L1 = r := ⟨_, rfl⟩
        obtain ⟨s', er⟩ := r
        have HT2 : Hid (runT s0 l (k + 1) = s') := Lib.hid (by rw [HT.out, go_clo rfl, hU])
        have HU := Lib.hid hU
        clear hU HT
        go_wp2_with fail
        refine (close_lb HB1 HU.out).mono ?_
        rintro e w5 ⟨rfl, v5, HB5⟩
        clear HB1 d0 d1 d2 d3 d4 HU
        go_wp2_with fail
        go_roundw
        case rel => exact ⟨k + 1, by omega, by go_num, by rw [HL1.out], v5, by rw [HT2.out]; exact lbDrop HB5⟩
        case measure => simp [intOf]; omega
      have HT2 : Hid (runT s0 l (k + 1) = s) := Lib.hid (by rw [HT.out, go_els hK0 hK1 hK2 hK3])
      clear HT
      go_wp2_with fail
      go_roundw
      case rel => exact ⟨k + 1, by omega, by go_num, by rw [HL1.out], v, by rw [HT2.out]; exact lbDrop HB1⟩
      case measure => simp [intOf]; omega
    · obtain rfl : k = len := by omega
      have hkl' : ¬ (k : Int) < (k : Int) := by omega
      go_wp2_with fail
      refine (reports_lb HB).mono ?_
      rintro e w5 ⟨ra, rc, rfl, HR, _, HB5, _⟩
      have HLO := HB5.out.lo
      go_wp2
      go_ret2
      exact ⟨ra, rc, rfl, HR, HLO⟩
end Go.Proofs.Ytpmjgiabedjlgaa
