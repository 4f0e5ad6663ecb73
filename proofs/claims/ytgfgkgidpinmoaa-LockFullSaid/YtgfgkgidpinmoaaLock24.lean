/-
  LOCKS, THE LAWS: LockFull.
-/
import Derived.Test.YtgfgkgidpinmoaaProg
import Derived.Test.YtgfgkgidpinmoaaBase3
import Derived.Test.YtgfgkgidpinmoaaBase5
import Derived.Test.YtgfgkgidpinmoaaBase6
import Derived.Test.YtgfgkgidpinmoaaBase7
import Derived.Test.YtgfgkgidpinmoaaBase14
import Derived.Test.YtgfgkgidpinmoaaTok1
import Derived.Test.YtgfgkgidpinmoaaTok2
import Derived.Test.YtgfgkgidpinmoaaTok3
import Derived.Test.YtgfgkgidpinmoaaLockP
import Derived.Test.YtgfgkgidpinmoaaLock1
import Derived.Test.YtgfgkgidpinmoaaLock2
import Derived.Test.YtgfgkgidpinmoaaLock3
import Derived.Test.YtgfgkgidpinmoaaLock4
import Derived.Test.YtgfgkgidpinmoaaLock5
import Derived.Test.YtgfgkgidpinmoaaLock6
import Derived.Test.YtgfgkgidpinmoaaLock8
import Derived.Test.YtgfgkgidpinmoaaLock14
import Derived.Test.YtgfgkgidpinmoaaLock15
import Derived.Test.YtgfgkgidpinmoaaLockQ
import Derived.Test.YtgfgkgidpinmoaaLock9
import Derived.Test.YtgfgkgidpinmoaaLock21
import Derived.Test.YtgfgkgidpinmoaaHeld
import Derived.BigQuiet
import Derived.Laws.StructEq
import Derived.StillTailTactics
import Derived.RegionTactic
import Derived.Deep.DeepCutAuto
import Derived.Deep.QuietTactic
import Derived.WalkSpells
import Derived.WalkLawsBesides
namespace Go.Proofs.Ytgfgkgidpinmoaa
open Go.RowKit
set_option linter.unusedVariables false

theorem lastLocal_snoc (l : List Rep) (x : Rep) : lastLocal (l ++ [x]) = x.2.1 := by
  unfold lastLocal
  simp [List.getD]
theorem report_full {s : LS} {loc kind place rider ride st : Int} (h0 : 0 ≤ loc ∧ loc ≤ 4294943999) (hl : lastLocal s.reps = loc) (hn : s.reps.length < 512) : s.report loc kind place rider ride st = ({ s with state := st, reps := s.reps ++ [((s.reps.length : Int) + 1, loc, kind, place, rider, ride)] }, 0) := by
  unfold LS.report
  rw [if_neg (by omega), if_neg (by omega), if_neg (by omega)]
/-- What a round leaves. -/
structure FullS (loc st : Int) (m : Nat) (s : LS) : Prop where
  st : s.state = st
  n : s.reps.length = m
  l : lastLocal s.reps = loc
theorem full_pause {s : LS} {loc : Int} {m : Nat} (h0 : 0 ≤ loc ∧ loc ≤ 4294943999) (h : FullS loc 2 m s) (hm : m < 512) : ∃ s', s.pause loc = (s', 0) ∧ FullS loc 3 (m + 1) s' := by
  unfold LS.pause
  rw [if_neg (fun q => q h.st), report_full h0 h.l (by rw [h.n]; exact hm)]
  exact ⟨_, rfl, rfl, by simp [h.n], lastLocal_snoc _ _⟩
theorem full_resume {s : LS} {loc : Int} {m : Nat} (h0 : 0 ≤ loc ∧ loc ≤ 4294943999) (h : FullS loc 3 m s) (hm : m < 512) : ∃ s', s.resume loc = (s', 0) ∧ FullS loc 2 (m + 1) s' := by
  unfold LS.resume
  rw [if_neg (fun q => q h.st), report_full h0 h.l (by rw [h.n]; exact hm)]
  exact ⟨_, rfl, rfl, by simp [h.n], lastLocal_snoc _ _⟩
theorem full_r8 {s : LS} {loc : Int} (h0 : 0 ≤ loc ∧ loc ≤ 4294943999) (h : FullS loc 3 512 s) : s.resume loc = (s, 8) := by
  unfold LS.resume LS.report
  have := h.n
  have := h.l
  rw [if_neg (fun q => q h.st), if_neg (by omega), if_neg (by omega), if_pos (by omega)]
theorem full_r1 {s : LS} {loc : Int} (h : FullS loc 3 512 s) : s.resume (-1) = (s, 1) := by
  unfold LS.resume LS.report
  rw [if_neg (fun q => q h.st), if_pos (by omega)]
theorem full_p12 {s : LS} {loc : Int} (h : FullS loc 3 512 s) : s.pause loc = (s, 12) := by
  unfold LS.pause
  rw [if_pos (by rw [h.st]; decide)]
theorem full_u {ka kb : BitVec 64} {loc : Int} (h0 : 0 ≤ loc ∧ loc ≤ 4294943999) : LS.unlock ⟨5, ka, kb, 1, 0, []⟩ 5 3 8 0 1000 1 (tagOf ka kb 5 3 8 0 1000 1) 1 1 loc = (⟨5, ka, kb, 2, 1, [(1, loc, 3, 0, 3, 8)]⟩, 0) := by
  unfold LS.unlock
  dsimp only
  rw [show usable ka kb 5 3 8 0 1000 1 (tagOf ka kb 5 3 8 0 1000 1) 5 1 1 0 = 0 from use_tag (by decide)]
  unfold LS.report
  rw [if_neg (by decide), if_neg (by decide)]
  simp [show ¬ (loc < 0 ∨ 4294943999 < loc) from by omega]
abbrev fullSt (m : Nat) : Int := if m % 2 = 1 then 2 else 3

set_option maxRecDepth 100000 in
set_option maxHeartbeats 1000000 in
theorem lockFull_out (ka kb : BitVec 64) (loc : Int) (w : World) (h : loc < 0 ∨ 4294943999 < loc) : Calls Try.prog 15 #[.agg #[u64 ka, u64 kb], .int .i64 loc] w (RetB (.bool true) w) := by
  have HQ := Lib.hid (below_alloc w (.cells #[u64 ka, u64 kb] 32))
  by_cases h1 : loc < 0
  · clear h
    go_enter Try.func15, Try.ntmps15
    go_wp2_with fail
    refine (awake16_any _).mono ?_
    rintro e wz ⟨rfl, hbz⟩
    have HBZ := Lib.hid (below_step HQ.out hbz)
    clear hbz
    go_wp2
    go_ret
    exact ⟨rfl, HBZ.out⟩
  · have h2 : 4294943999 < loc := by omega
    clear h
    go_enter Try.func15, Try.ntmps15
    go_wp2_with fail
    refine (awake16_any _).mono ?_
    rintro e wz ⟨rfl, hbz⟩
    have HBZ := Lib.hid (below_step HQ.out hbz)
    clear hbz
    go_wp2
    go_ret
    exact ⟨rfl, HBZ.out⟩
set_option maxRecDepth 100000 in
set_option maxHeartbeats 1000000 in
theorem lockFull_in (ka kb : BitVec 64) (loc : Int) (w : World) (h0 : 0 ≤ loc ∧ loc ≤ 4294943999) : Calls Try.prog 15 #[.agg #[u64 ka, u64 kb], .int .i64 loc] w (RetB (.bool true) w) := by
  have h1 : ¬ loc < 0 := by omega
  have h2 : ¬ 4294943999 < loc := by omega
  have H0 := Lib.hid h0
  have hu := full_u (ka := ka) (kb := kb) h0
  have hti := fun W => ticket_any ka kb 1 W (by decide)
  have HU := Lib.hid hu
  have HTI := Lib.hid hti
  clear h0 hu hti
  generalize tagOf ka kb 5 3 8 0 1000 1 = G at *
  have HQ : Hid (BlkAt (w.alloc (.cells #[u64 ka, u64 kb] 32)) w.heap.size #[u64 ka, u64 kb] ∧ Below w.heap.size w (w.alloc (.cells #[u64 ka, u64 kb] 32))) := ⟨blkNew rfl, below_alloc _ _⟩
  go_enter Try.func15, Try.ntmps15
  go_wp2_with fail
  refine (new_ok 5 ka kb _ (by decide) (by decide)).mono ?_
  rintro e w1 ⟨rfl, hl1, hb1⟩
  have hs : (w.alloc (.cells #[u64 ka, u64 kb] 32)).heap.size = w.heap.size + 1 := by simp
  rw [hs] at hl1 ⊢
  have HL : Hid (LkB w (w.heap.size + 1 + 1) [(w.heap.size, #[u64 ka, u64 kb])] ⟨5, ka, kb, 1, 0, []⟩ (.slice none 0 0) w1) := ⟨hl1.out, fun p hp => by
    simp only [List.mem_cons, List.not_mem_nil, or_false] at hp
    subst hp
    exact ⟨blkBelow hb1 HQ.out.1, by dsimp only; omega, by simp [Value.ownBlock]⟩, below_step HQ.out.2 hb1, by omega, by simp⟩
  clear hl1 hb1 hs
  generalize w.heap.size + 1 + 1 = g at *
  obtain ⟨k0, k1⟩ := key_cells2 (HL.out.bs (w.heap.size, #[u64 ka, u64 kb]) (by simp)).1
  go_wp2_with fail
  refine (HTI.out _).mono ?_
  rintro e w2 ⟨rfl, hb2⟩
  have HL2 := lbBelow hb2 HL
  clear hb2 HL k0 k1
  go_wp2_with fail
  refine (unlock_lb HL2 HU.out).mono ?_
  rintro e w3 ⟨rfl, v3, HL3⟩
  clear HL2
  go_upto_region 7 with (fail)
  go_loopw [7, 8] (fun i z wr => ∃ (m : Nat) (s : LS) (v : Value), 1 ≤ m ∧ m ≤ 512 ∧ i = .int .i64 m ∧ Hid (FullS loc (fullSt m) m s) ∧ Hid (LkB w g [(w.heap.size, #[u64 ka, u64 kb])] s v wr)) (fun i _ _ => 512 - (intOf i).toNat)
  case atStart => exact ⟨1, _, _, by omega, by omega, rfl, ⟨rfl, rfl, rfl⟩, HL3⟩
  case round =>
    obtain ⟨m, s, v, hm1, hm2, rfl, HF, HR⟩ := hrel
    clear HL3
    by_cases hm : m < 512
    · have hm' : (m : Int) < 512 := by omega
      by_cases hpar : m % 2 = 1
      · have hp1 : (m : Int).tmod 2 = 1 := by rw [Int.tmod_eq_emod_of_nonneg (by omega)]; omega
        have HF2 : Hid (FullS loc 2 m s) := by have := HF.out; unfold fullSt at this; rw [if_pos hpar] at this; exact this
        obtain ⟨s', hs', hf'⟩ := full_pause H0.out HF2.out hm
        have HS' := Lib.hid hs'
        have HF' := Lib.hid hf'
        clear hs' hf'
        go_wp2_with fail
        refine (pause_lb HR HS'.out).mono ?_
        rintro e w4 ⟨rfl, v4, HL4⟩
        go_wp2
        go_roundw
        case rel => exact ⟨m + 1, s', v4, by omega, by omega, by go_num, by unfold fullSt; rw [if_neg (by omega)]; exact HF', HL4⟩
        case measure => simp [intOf]; omega
      · have hp1 : (m : Int).tmod 2 = 0 := by rw [Int.tmod_eq_emod_of_nonneg (by omega)]; omega
        have HF2 : Hid (FullS loc 3 m s) := by have := HF.out; unfold fullSt at this; rw [if_neg hpar] at this; exact this
        obtain ⟨s', hs', hf'⟩ := full_resume H0.out HF2.out hm
        have HS' := Lib.hid hs'
        have HF' := Lib.hid hf'
        clear hs' hf'
        go_wp2_with fail
        refine (resume_lb HR HS'.out).mono ?_
        rintro e w4 ⟨rfl, v4, HL4⟩
        go_wp2
        go_roundw
        case rel => exact ⟨m + 1, s', v4, by omega, by omega, by go_num, by unfold fullSt; rw [if_pos (by omega)]; exact HF', HL4⟩
        case measure => simp [intOf]; omega
    · obtain rfl : m = 512 := by omega
      have HF2 : Hid (FullS loc 3 512 s) := HF.out
      have hst := HF2.out.st
      have hle := HF2.out.n
      obtain ⟨sb, ska, skb, sst, sla, sre⟩ := s
      dsimp only at hst hle
      subst hst
      have HLE := Lib.hid hle
      have hst2 : ∀ W, Hid (LkB w g [(w.heap.size, #[u64 ka, u64 kb])] ⟨sb, ska, skb, 3, sla, sre⟩ v W) → Calls Try.prog 45 #[.pointer (some ⟨g, 0, none⟩)] W (fun e W' => e = .returned (.int .i64 3) ∧ W' = W) := fun W hW => state_lb hW
      have HST := Lib.hid hst2
      clear hle hst2
      go_wp2_with fail
      refine (HST.out _ HR).mono ?_
      rintro e w4 ⟨rfl, hw⟩
      subst w4
      go_wp2_with fail
      refine (resume_lb HR (full_r8 H0.out HF2.out)).mono ?_
      rintro e w4 ⟨rfl, v4, HL4⟩
      go_wp2_with fail
      refine (resume_lb HL4 (full_r1 HF2.out)).mono ?_
      rintro e w5 ⟨rfl, v5, HL5⟩
      go_wp2_with fail
      refine (pause_lb HL5 (full_p12 HF2.out)).mono ?_
      rintro e w6 ⟨rfl, v6, HL6⟩
      go_wp2_with fail
      refine (state_lb HL6).mono ?_
      rintro e w7 ⟨rfl, hw⟩
      subst w7
      go_wp2_with fail
      refine (reports_lb HL6).mono ?_
      rintro e w8 ⟨a8, c8, rfl, _, _, HL8, _⟩
      rw [HLE.out]
      go_wp2_with fail
      refine (awake16_any _).mono ?_
      rintro e wz ⟨rfl, hbz⟩
      have HBZ := Lib.hid (below_step HL8.out.lo hbz)
      clear hbz
      go_wp2
      go_ret
      exact ⟨rfl, HBZ.out⟩
theorem lockFull_walk (ka kb : BitVec 64) (loc : Int) (w : World) : Calls Try.prog 15 #[.agg #[u64 ka, u64 kb], .int .i64 loc] w (RetB (.bool true) w) := by
  by_cases h : loc < 0 ∨ 4294943999 < loc
  · exact lockFull_out ka kb loc w h
  · exact lockFull_in ka kb loc w (by omega)
end Go.Proofs.Ytgfgkgidpinmoaa
