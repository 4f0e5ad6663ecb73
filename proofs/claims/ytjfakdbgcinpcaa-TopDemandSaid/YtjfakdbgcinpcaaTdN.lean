/-
  TopDemand: the walk.
-/
import Derived.Test.YtjfakdbgcinpcaaTdM
import Derived.BigQuiet
import Derived.BigRegion
import Derived.Deep.RegionHeld3
import Derived.IntWalk
import Derived.Laws.StructEq
import Derived.StillTailTactics
import Derived.RegionTactic
import Derived.Deep.DeepCutAuto
import Derived.Deep.QuietTactic
import Derived.WalkSpells
import Derived.WalkLawsBesides
namespace Go.Proofs.Ytjfakdbgcinpcaa
open Go.RowKit
set_option linter.unusedVariables false

structure DmB (w : World) (ka kb : BitVec 64) (s0 s1 : UInt8) (W : World) : Prop where
  k : BlkAt W w.heap.size #[u64 ka, u64 kb]
  z : BlkAt W (w.heap.size + 1) #[b8 s0, b8 s1]
  lo : Below w.heap.size w W
theorem dbBelow {w W W' : World} {ka kb : BitVec 64} {s0 s1 : UInt8} (h : Hid (DmB w ka kb s0 s1 W)) (hb : Below W.heap.size W W') : Hid (DmB w ka kb s0 s1 W') := Lib.hid ⟨blkBelow hb h.out.k, blkBelow hb h.out.z, below_step h.out.lo hb⟩
theorem dbStart (w : World) (ka kb : BitVec 64) (s0 s1 : UInt8) (E F : TypeId) : Hid (DmB w ka kb s0 s1 ((w.alloc (.cells #[u64 ka, u64 kb] E)).alloc (.cells #[b8 s0, b8 s1] F))) := Lib.hid ⟨blkOld (blkNew rfl), blkNew (by simp), below_step (below_alloc _ _) (below_alloc _ _)⟩
theorem stop_hereM {p : Prop} (h : Hid p) : p := h.out
theorem infoC : (Try.prog.info? 34).map (fun i => (i.zero, i.size, i.bytes)) = some (some (.slice none 0 0), 1, 24) := by kernel_rfl
/-- What Case hands back. -/
def CaseRet (W : World) (e : Ending) (W' : World) : Prop := ∃ (xa : Option Addr) (xc : Nat) (zs : List Int) (er : Int), e = .returned (.tuple #[.slice xa zs.length xc, .int .i64 er]) ∧ Hid (er = 0 → okS zs) ∧ Hid (W'.ownsRow W.heap.size 3 1 (.slice xa zs.length xc) zs.length (cs i64v zs)) ∧ Below W.heap.size W W'
theorem case_s {g1 g2 N : Nat} {xs ys : List Int} {st sn so h : Int} {W2 W : World} (h1 : Sl W2 1 (some ⟨g1, 0, none⟩) N N (cs i64v xs)) (h2 : Sl W2 1 (some ⟨g2, 0, none⟩) N N (cs i64v ys)) (hb : Below W2.heap.size W2 W) {wa : Option Addr} {wn wc : Nat} {ws : List (BitVec 64)} (hw : Ws W wa wn wc ws) :
    Calls Try.prog 6 #[.agg #[.int .i64 st, .slice (some ⟨g1, 0, none⟩) N N, .slice (some ⟨g2, 0, none⟩) N N], .int .i64 1, .int .i64 200, .int .i64 sn, .int .i64 so, .int .i64 h, .slice wa wn wc] W (CaseRet W) := by
  have := case_any st 1 200 sn so h xs ys ws (some ⟨g1, 0, none⟩) N N (some ⟨g2, 0, none⟩) N N wa wn wc W (h1.ext hb) (h2.ext hb) hw.out.1 (by have := hw.out.2; omega)
  refine this.mono ?_
  rintro e W' ⟨v, n, rfl, ho, hb'⟩
  obtain ⟨⟨zs, er⟩, hz⟩ : ∃ r, caseF (expc st xs ys 1 200 sn so h) ws = r := ⟨_, rfl⟩
  rw [hz] at ho ⊢
  dsimp only at ho ⊢
  have hn : zs.length = n := by have := ho.1; rw [cs_length] at this; omega
  obtain ⟨xa, xc, e, _⟩ := sl_of_own ho
  subst e hn
  exact ⟨xa, xc, zs, er, rfl, Lib.hid (fun h => caseF_ok (by rw [hz, h])), Lib.hid ho, hb'⟩
section
variable {w w1 w2 : World} {a0 a1 a2 a3 a4 a5 : Addr} {x0 x1 x2 x3 x4 x5 : Value}
theorem keepM (hb : Below w1.heap.size w1 w2) (h : w1.cell? a0 = some x0 ∧ w1.cell? a1 = some x1 ∧ w1.cell? a2 = some x2 ∧ w1.cell? a3 = some x3 ∧ w1.cell? a4 = some x4 ∧ w1.cell? a5 = some x5 ∧ Below w.heap.size w w1) : w2.cell? a0 = some x0 ∧ w2.cell? a1 = some x1 ∧ w2.cell? a2 = some x2 ∧ w2.cell? a3 = some x3 ∧ w2.cell? a4 = some x4 ∧ w2.cell? a5 = some x5 ∧ Below w.heap.size w w2 := ⟨cell_keep hb h.1, cell_keep hb h.2.1, cell_keep hb h.2.2.1, cell_keep hb h.2.2.2.1, cell_keep hb h.2.2.2.2.1, cell_keep hb h.2.2.2.2.2.1, below_step h.2.2.2.2.2.2 hb⟩
theorem keepMD (h : w1.cell? a0 = some x0 ∧ w1.cell? a1 = some x1 ∧ w1.cell? a2 = some x2 ∧ w1.cell? a3 = some x3 ∧ w1.cell? a4 = some x4 ∧ w1.cell? a5 = some x5 ∧ Below w.heap.size w w1) : w1.drew.cell? a0 = some x0 ∧ w1.drew.cell? a1 = some x1 ∧ w1.drew.cell? a2 = some x2 ∧ w1.drew.cell? a3 = some x3 ∧ w1.drew.cell? a4 = some x4 ∧ w1.drew.cell? a5 = some x5 ∧ Below w.heap.size w w1.drew := keepM (below_drew (Below.refl _ _)) h
end
set_option maxRecDepth 100000 in
set_option maxHeartbeats 16000000 in
theorem topDemand_walk (a : Option Addr) (n c : Nat) (rides : List RideL) (st dk sn so : Int) (ka kb : BitVec 64) (s0 s1 : UInt8) (w : World) (hl : rides.length = n) (hs : Sl w 13 a n c (flatV rideA rides)) (hr : ∀ r ∈ rides, RideM w r) : Calls Try.prog 3 #[.slice a n c, .int .i64 st, .int .i64 dk, .int .i64 sn, .int .i64 so, .agg #[Ytjfakdbgcinpcaa.u64 ka, Ytjfakdbgcinpcaa.u64 kb], .agg #[b8 s0, b8 s1]] w (RetB (.bool true) w) := by
  have HB0 := dbStart w ka kb s0 s1 25 26
  have HS := Lib.hid hs
  have HL := Lib.hid hl
  have HR := Lib.hid hr
  clear hs hl hr
  by_cases hn : (40 : Int) < (n : Int)
  · go_enter Try.func3, Try.ntmps3
    go_wp2_with fail
    refine (demandAwake_any _).mono ?_
    rintro e wz ⟨rfl, hbz⟩
    have HBZ := Lib.hid (below_step HB0.out.lo hbz)
    clear hbz
    go_wp2
    go_ret
    exact ⟨rfl, HBZ.out⟩
  · have hn9 : n ≤ 40 := by omega
    go_enter Try.func3, Try.ntmps3
    go_upto_region 1 with (fail)
    generalize (w.alloc (.cells #[Ytjfakdbgcinpcaa.u64 ka, Ytjfakdbgcinpcaa.u64 kb] 25)).alloc (.cells #[b8 s0, b8 s1] 26) = W1 at *
    go_upto_region 4 with (fail)
    go_loopw [15] (fun i wr => ∃ k : Nat, k ≤ n ∧ i = .int .i64 (k : Int) ∧ Hid (∀ j, j < k → (rides.getD j RideL.zero).legs.length ≤ 10 ∧ (rides.getD j RideL.zero).pauses.length ≤ 10) ∧ wr = W1) (fun i _ => n - (intOf i).toNat)
    case atStart => exact ⟨0, by omega, rfl, Lib.hid (fun j hj => by omega), rfl⟩
    case round =>
      obtain ⟨k, hk, rfl, HK, rfl⟩ := hrel
      have hk0 : (0 : Int) ≤ (k : Int) := by omega
      by_cases hkn : k < n
      · have hkn' : (k : Int) < (n : Int) := by omega
        obtain ⟨bb, oo, e, hc⟩ := flat_at RideL.zero rideA 13 (by decide) (fun _ => rfl) (HS.out.ext HB0.out.lo) HL.out k hkn
        subst e
        have HK2 : Hid ((rides.getD k RideL.zero).legs.length ≤ 10 → (rides.getD k RideL.zero).pauses.length ≤ 10 → ∀ j, j < k + 1 → (rides.getD j RideL.zero).legs.length ≤ 10 ∧ (rides.getD j RideL.zero).pauses.length ≤ 10) := Lib.hid (fun h1 h2 j hj => by
          rcases Nat.lt_succ_iff_lt_or_eq.1 hj with hj | rfl
          · exact HK.out j hj
          · exact ⟨h1, h2⟩)
        generalize rides.getD k RideL.zero = r at HK2 hc
        obtain ⟨x0, x1, x2, x3, x4, x5, x6, x7, x9, x8, x10, x12, x11, x13, x14, x15, x16⟩ := r
        dsimp only at HK2
        have p7 := hc 7 (.slice x7 x8.length x9) rfl
        have p8 := hc 8 (.slice x10 x11.length x12) rfl
        clear hc
        generalize x8.length = m1 at *
        generalize x11.length = m2 at *
        by_cases h1 : (10 : Int) < (m1 : Int)
        · go_wp2_with fail
          refine (demandAwake_any _).mono ?_
          rintro e wz ⟨rfl, hbz⟩
          have HBZ := Lib.hid (below_step HB0.out.lo hbz)
          clear hbz
          go_wp2
          go_ret
          exact ⟨rfl, HBZ.out⟩
        by_cases h2 : (10 : Int) < (m2 : Int)
        · go_wp2_with fail
          refine (demandAwake_any _).mono ?_
          rintro e wz ⟨rfl, hbz⟩
          have HBZ := Lib.hid (below_step HB0.out.lo hbz)
          clear hbz
          go_wp2
          go_ret
          exact ⟨rfl, HBZ.out⟩
        have HK3 := Lib.hid (HK2.out (by omega) (by omega))
        clear HK2
        go_wp2_with fail
        go_roundw
        case rel => exact ⟨k + 1, by omega, by go_num, HK3, trivial⟩
        case measure => simp [intOf]; omega
      · obtain rfl : k = n := by omega
        have hkn' : ¬ (k : Int) < (k : Int) := by omega
        have HCN : Hid (∀ W, Below w.heap.size w W → Calls Try.prog 5 #[.int .i64 st, .slice a k c] W (RetCnt st W)) := Lib.hid (fun W hb => count_any st a k c rides W HL.out (HS.out.ext hb) (fun r hr => by
          obtain ⟨j, hj, e⟩ := List.getElem_of_mem hr
          have := HK.out j (by have := HL.out; omega)
          rw [List.getD_eq_getElem?_getD, List.getElem?_eq_getElem hj] at this
          simp only [Option.getD_some] at this
          rw [e] at this
          exact ⟨(HR.out r hr).below hb, by omega, by omega⟩) hn9)
        go_wp2_with fail
        refine (HCN.out _ HB0.out.lo).mono ?_
        rintro e w2 (⟨er, her, rfl, hb2⟩ | ⟨g1, g2, N, xs, ys, rfl, hg1, hg2, hb2⟩)
        · have HLO := Lib.hid (below_step HB0.out.lo (below_step hb2 (below_alloc w2 (.cells #[.int .i64 0, .slice none 0 0, .slice none 0 0] 36))))
          clear hb2 HCN HK
          go_wp2_with fail
          refine (demandAwake_any _).mono ?_
          rintro e wz ⟨rfl, hbz⟩
          have HBZ := Lib.hid (below_step HLO.out hbz)
          clear hbz
          go_wp2
          go_ret
          exact ⟨rfl, HBZ.out⟩
        have HB2 := dbBelow HB0 (below_step hb2 (below_alloc w2 (.cells #[.int .i64 st, .slice (some ⟨g1, 0, none⟩) N N, .slice (some ⟨g2, 0, none⟩) N N] 36)))
        have HC2 : Hid (BlkAt (w2.alloc (.cells #[.int .i64 st, .slice (some ⟨g1, 0, none⟩) N N, .slice (some ⟨g2, 0, none⟩) N N] 36)) w2.heap.size #[.int .i64 st, .slice (some ⟨g1, 0, none⟩) N N, .slice (some ⟨g2, 0, none⟩) N N]) := Lib.hid (blkNew rfl)
        have HG1 := Lib.hid (hg1.out.ext (below_alloc w2 (.cells #[.int .i64 st, .slice (some ⟨g1, 0, none⟩) N N, .slice (some ⟨g2, 0, none⟩) N N] 36)))
        have HG2 := Lib.hid (hg2.out.ext (below_alloc w2 (.cells #[.int .i64 st, .slice (some ⟨g1, 0, none⟩) N N, .slice (some ⟨g2, 0, none⟩) N N] 36)))
        clear hg1 hg2 hb2 HB0 HCN HK
        go_upto_region 13 with (fail)
        generalize w2.alloc (.cells #[.int .i64 st, .slice (some ⟨g1, 0, none⟩) N N, .slice (some ⟨g2, 0, none⟩) N N] 36) = W2 at *
        generalize w2.heap.size = cb at *
        have hs00 : s0.toNat < 256 := UInt8.toNat_lt s0
        have hs10 : s1.toNat < 256 := UInt8.toNat_lt s1
        obtain ⟨M, hM⟩ : ∃ M : Nat, (M : Int) = 1 + (s0.toNat : Int) % 8 := ⟨1 + s0.toNat % 8, by omega⟩
        have HDM0 := dmStart W2
        go_loopw [18, 19] (fun v i wr => ∃ (q : Nat) (xss : List Cv), q ≤ M ∧ xss.length ≤ q ∧ i = .int .i64 (q : Int) ∧ Hid (DmW W2 v xss wr)) (fun _ i _ => M - (intOf i).toNat)
        case atStart => exact ⟨0, [], by omega, by simp, rfl, HDM0⟩
        case round =>
          clear HDM0
          obtain ⟨q, xss, hq, hxl, rfl, HDM⟩ := hrel
          have hq0 : (0 : Int) ≤ (q : Int) := by omega
          have hM8 : M ≤ 8 := by omega
          obtain ⟨va, vc, e, _⟩ := dmForm HDM
          subst e
          have HLO := Lib.hid HDM.out.lo
          have z0 := (two_facts (blkBelow HLO.out HB2.out.z)).1
          have z1 := (two_facts (blkBelow HLO.out HB2.out.z)).2.1
          by_cases hqM : q < M
          · have hqM' : (q : Int) < 1 + (s0.toNat : Int) % 8 := by omega
            go_upto_region 15 with (fail)
            obtain ⟨hh, hhe⟩ : ∃ hh : Int, hh = 1 + (s1.toNat : Int) % 24 := ⟨_, rfl⟩
            have hS0 : wr.cell? ⟨cb, 0, none⟩ = some (.int .i64 st) ∧ wr.cell? ⟨cb, 1, none⟩ = some (.slice (some ⟨g1, 0, none⟩) N N) ∧ wr.cell? ⟨cb, 2, none⟩ = some (.slice (some ⟨g2, 0, none⟩) N N) ∧ wr.cell? ⟨w.heap.size + 1, 1, none⟩ = some (b8 s1) ∧ wr.cell? ⟨w.heap.size, 0, none⟩ = some (Ytjfakdbgcinpcaa.u64 ka) ∧ wr.cell? ⟨w.heap.size, 1, none⟩ = some (Ytjfakdbgcinpcaa.u64 kb) ∧ Below wr.heap.size wr wr := by
              obtain ⟨q0, q1, q2, _⟩ := three9 (blkBelow HLO.out HC2.out)
              obtain ⟨y0, y1, _, _⟩ := two_facts (blkBelow HLO.out HB2.out.k)
              exact ⟨q0, q1, q2, z1, y0, y1, Below.refl _ _⟩
            have HCS : Hid (∀ W h wa wn wc ws, Below wr.heap.size wr W → Ws W wa wn wc ws → Calls Try.prog 6 #[.agg #[.int .i64 st, .slice (some ⟨g1, 0, none⟩) N N, .slice (some ⟨g2, 0, none⟩) N N], .int .i64 1, .int .i64 200, .int .i64 sn, .int .i64 so, .int .i64 h, .slice wa wn wc] W (CaseRet W)) := Lib.hid (fun W h wa wn wc ws hb hw => case_s HG1.out HG2.out (HLO.out.trans (hb.mono HLO.out.size)) hw)
            have hq100 : IntKind.i64.wrap (100 * (q : Int)) = 100 * (q : Int) := IntWalk.i64_in _ (by omega)
            clear z0
            go_cut [20, 21] (fun v f wx => ∃ (xa : Option Addr) (xc : Nat) (zs : List Int) (er : Int), v = .slice xa zs.length xc ∧ f = .int .i64 er ∧ Hid (er = 0 → okS zs) ∧ Hid (wx.ownsRow wr.heap.size 3 1 (.slice xa zs.length xc) zs.length (cs i64v zs)) ∧ Hid (Below wr.heap.size wr wx))
            case first =>
              go_region_held3 (fun w9 => w9.cell? ⟨cb, 0, none⟩ = some (.int .i64 st) ∧ w9.cell? ⟨cb, 1, none⟩ = some (.slice (some ⟨g1, 0, none⟩) N N) ∧ w9.cell? ⟨cb, 2, none⟩ = some (.slice (some ⟨g2, 0, none⟩) N N) ∧ w9.cell? ⟨w.heap.size + 1, 1, none⟩ = some (b8 s1) ∧ w9.cell? ⟨w.heap.size, 0, none⟩ = some (Ytjfakdbgcinpcaa.u64 ka) ∧ w9.cell? ⟨w.heap.size, 1, none⟩ = some (Ytjfakdbgcinpcaa.u64 kb) ∧ Below wr.heap.size wr w9)
                (repeat (with_reducible first | assumption | refine keepMD ?_ | (apply keepM; focus assumption)))
                (first
                  | (go_at_call 7; (with_reducible refine (words_s ka kb _ _ _).mono ?_); rintro e w5 ⟨wa, wn, wc, rfl, hws0, hb5⟩; obtain ⟨ws, hws⟩ : ∃ ws, Ws w5 wa wn wc ws := ⟨_, hws0⟩; clear hws0)
                  | (go_at_call 6; (with_reducible refine (HCS.out _ _ wa wn wc ws ?_ ?_).mono ?_); (focus (first | assumption | (go_split_ands; assumption) | exact below_step (below_drew (Below.refl _ _)) hb5)); (focus (first | assumption | exact wsDrew hws)); rintro e w6 ⟨xa, xc, zs, er, rfl, hok, ho6, hb6⟩))
              all_goals
                have hb5' : Below wr.heap.size wr w5 := below_step (below_drew (Below.refl _ _)) hb5
                have HO6 := Lib.hid (ownsRow_mono ho6.out hb5'.size)
                have HB6 := Lib.hid (below_step hb5' hb6)
                go_wp2_with fail
                go_meet
                exact ⟨xa, xc, zs, er, rfl, rfl, hok, HO6, HB6⟩
            case rest =>
            obtain ⟨xa, xc, zs, er, rfl, rfl, HOK, HO, HB⟩ := hcut
            have HDM2 := dmBelow HDM HB.out
            have HX := Lib.hid (ownsRow_mono HO.out HLO.out.size)
            obtain ⟨W5, hW5⟩ : ∃ W', W' = wc := ⟨_, rfl⟩
            subst hW5
            clear hS0 HCS hq100 z1 HDM HLO HO HB
            by_cases her : er = 0
            · subst her
              have HOK2 := Lib.hid (HOK.out rfl)
              clear HOK
              have HSZ := Lib.hid HDM2.out.lo.size
              go_wp2_with (at_builtin; refine stop_hereM ?_)
              refine Lib.hid ?_
              at_builtin
              refine wpList_append_row _ rfl _ _ 40 rfl W2.heap.size 34 (.slice none 0 0) 1 24 Try.underlying40 infoC rfl (by decide) (n := xss.length) (xs := cs csv xss) rfl (ownsRow_ext HDM2.out.row (below_alloc _ _)) (k := W5.heap.size) (C := #[csv ⟨xa, xc, zs⟩]) rfl (blkNew rfl) rfl (csv_one ⟨xa, xc, zs⟩) (by unfold maxLen; omega) (by omega) (by have := HSZ.out; simp; omega) ?_
              intro v9 w9 ho9 hg9 _
              have HD9 := dmMore (x := ⟨xa, xc, zs⟩) HDM2 HX.out HOK2.out ho9 hg9
              clear ho9 hg9 HDM2 HX HOK2
              go_wp2
              go_roundw
              case rel => exact ⟨q + 1, xss ++ [⟨xa, xc, zs⟩], by omega, by simp; omega, by go_num, HD9⟩
              case measure => simp [intOf]; omega
            · go_wp2
              go_roundw
              case rel => exact ⟨q + 1, xss, by omega, by omega, by go_num, HDM2⟩
              case measure => simp [intOf]; omega
          · have hqM' : ¬ (q : Int) < 1 + (s0.toNat : Int) % 8 := by omega
            obtain ⟨_, _, e, HSC⟩ := dmForm HDM
            cases e
            obtain ⟨HSC, HCV⟩ := HSC
            have hm8 : xss.length ≤ 8 := by omega
            have HLW := Lib.hid (below_step HB2.out.lo HLO.out)
            clear hM hxl hq0 hM8 HB2 HC2 HG1 HG2 HDM HLO
            by_cases hbad : dk < 1 ∨ 32 < dk
            · have HC := Lib.hid (costs_bad dk va xss.length vc wr hbad)
              have HBS := Lib.hid (best_bad dk va xss.length vc wr hbad)
              clear hbad
              go_wp2_with fail
              refine HC.out.mono ?_
              rintro e w7 ⟨rfl, hw7⟩
              subst w7
              go_wp2_with fail
              refine HBS.out.mono ?_
              rintro e w7 ⟨rfl, hw7⟩
              subst w7
              go_wp2_with fail
              refine (demandAwake_any _).mono ?_
              rintro e wz ⟨rfl, hbz⟩
              have HBZ := Lib.hid (below_step HLW.out hbz)
              clear hbz
              go_wp2
              go_ret
              exact ⟨rfl, HBZ.out⟩
            · have hd1 : 1 ≤ dk := by omega
              have hd2 : dk ≤ 32 := by omega
              clear hbad
              obtain ⟨D, rfl⟩ := Int.eq_ofNat_of_zero_le (show 0 ≤ dk by omega)
              have HC := Lib.hid (costs_ok D va xss.length vc xss wr HSC.out HCV.out (by omega) (by omega) (by omega))
              go_wp2_with fail
              refine HC.out.mono ?_
              rintro e w7 ⟨g, rfl, HO7, hb7⟩
              have HBS := Lib.hid (best_ok D va xss.length vc xss w7 (HSC.out.ext hb7) (fun x hx => (HCV.out x hx).below hb7) (by omega) (by omega) (by omega))
              have HB7 := Lib.hid hb7
              clear hb7 HC
              have HBD := Lib.hid (bestN_lt (costsL D (xss.map Cv.zs)) (D + 1) (by omega))
              have HBP := Lib.hid (bestN_props (costsL D (xss.map Cv.zs)) (D + 1))
              obtain ⟨bk, hbk⟩ : ∃ bk, bestN (costsL D (xss.map Cv.zs)) (D + 1) = bk := ⟨_, rfl⟩
              rw [hbk] at HBS HBD HBP
              have HBK := Lib.hid hbk
              clear hbk
              go_wp2_with fail
              refine HBS.out.mono ?_
              rintro e w8 ⟨rfl, hb8⟩
              have HLW8 := Lib.hid (below_step (below_step HLW.out HB7.out) hb8)
              have HO8 := Lib.hid (ownsRow_ext HO7.out hb8)
              have HB8 := Lib.hid (below_step HB7.out hb8)
              clear hb8 HBS HO7 HB7 HLW
              have hbkD : (bk : Int) ≤ (D : Int) := by have := HBD.out; omega
              have hbk0 : (0 : Int) ≤ (bk : Int) := by omega
              go_upto_region 25 with (fail)
              have HSC8 := Lib.hid (HSC.out.ext HB8.out)
              have HCV8 : Hid (∀ x ∈ xss, CvOk w8 x) := Lib.hid (fun x hx => (HCV.out x hx).below HB8.out)
              have H64 : Hid (∀ y ∈ xss.map Cv.zs, y.length ≤ 64) := Lib.hid (fun y hy => by
                obtain ⟨x, hx, rfl⟩ := List.mem_map.1 hy
                exact (HCV.out x hx).2.2)
              clear HSC HCV HB8
              have hD33 : (D : Int) + 1 ≤ 33 := by omega
              go_loop [26] (fun i => ∃ v : Nat, v ≤ D + 1 ∧ i = .int .i64 (v : Int)) (fun i => D + 1 - (intOf i).toNat)
              case atStart => exact ⟨0, by omega, rfl⟩
              case round =>
                obtain ⟨v, hv, rfl⟩ := hrel
                have hv0 : (0 : Int) ≤ (v : Int) := by omega
                by_cases hvD : v ≤ D
                · have hvD' : (v : Int) ≤ (D : Int) := by omega
                  go_wp2_with fail
                  go_loop [27, 28] (fun s i => ∃ j : Nat, j ≤ xss.length ∧ i = .int .i64 (j : Int) ∧ s = .int .i64 (costN (D : Int) ((xss.take j).map Cv.zs) (v : Int))) (fun _ i => xss.length - (intOf i).toNat)
                  case atStart => exact ⟨0, by omega, rfl, rfl⟩
                  case round =>
                    obtain ⟨j, hj, rfl, rfl⟩ := hrel
                    have hj0 : (0 : Int) ≤ (j : Int) := by omega
                    by_cases hjm : j < xss.length
                    · have hjm' : (j : Int) < (xss.length : Int) := by omega
                      obtain ⟨b, o, e, hc⟩ := HSC8.out.at_ j hjm nilC
                      subst e
                      have hxm : xss.getD j nilC ∈ xss := by rw [List.getD_eq_getElem?_getD, List.getElem?_eq_getElem hjm]; exact List.getElem_mem _
                      have HLT := Lib.hid (lost_ok (D : Int) (v : Int) (xss.getD j nilC) w8 (HCV8.out _ hxm) hd1 hd2 hv0 hvD')
                      have hcn := costN_in (D : Int) (v : Int) hv0 hvD' ((xss.take j).map Cv.zs).length ((xss.take j).map Cv.zs) rfl (fun y hy => by
                        obtain ⟨x, hx, rfl⟩ := List.mem_map.1 hy
                        exact (HCV8.out x (List.mem_of_mem_take hx)).2.2)
                      rw [List.length_map, List.length_take, Nat.min_eq_left (by omega)] at hcn
                      have hln := lostN_in (D : Int) (v : Int) hv0 hvD' (xss.getD j nilC).zs
                      have hz64 := (HCV8.out _ hxm).2.2
                      have HCS : Hid (costN (D : Int) ((xss.take (j + 1)).map Cv.zs) (v : Int) = costN (D : Int) ((xss.take j).map Cv.zs) (v : Int) + lostN (D : Int) (v : Int) (xss.getD j nilC).zs) := Lib.hid (by rw [take_oneC xss j hjm, costN_snoc])
                      generalize xss.getD j nilC = x at *
                      generalize costN (D : Int) ((xss.take j).map Cv.zs) (v : Int) = cn at *
                      obtain ⟨xa, xc, xz⟩ := x
                      dsimp only [csv] at hc HLT hln hz64 HCS
                      generalize lostN (D : Int) (v : Int) xz = ln at *
                      generalize xz.length = zl at *
                      obtain ⟨cn0, cn1⟩ := hcn
                      obtain ⟨ln0, ln1⟩ := hln
                      clear hxm
                      go_wp2_with fail
                      refine HLT.out.mono ?_
                      rintro e w9 ⟨rfl, hw9⟩
                      subst w9
                      go_wp2_with fail
                      go_round
                      case rel => exact ⟨j + 1, by omega, by go_num, by rw [HCS.out]⟩
                      case measure => simp [intOf]; omega
                    · obtain rfl : j = xss.length := by omega
                      have hjm' : ¬ (xss.length : Int) < (xss.length : Int) := by omega
                      have hvn : v < D + 1 := by omega
                      obtain ⟨cc, _, _, _⟩ := own_cell HO8.out v hvn 0
                      obtain ⟨cb9, _, _, _⟩ := own_cell HO8.out bk (by omega) 0
                      change w8.cell? ⟨g, v, none⟩ = some (.int .i64 ((costsL D (xss.map Cv.zs)).getD v 0)) at cc
                      change w8.cell? ⟨g, bk, none⟩ = some (.int .i64 ((costsL D (xss.map Cv.zs)).getD bk 0)) at cb9
                      have h3 := HBP.out.2.2.1 v hvn
                      have h4 := HBP.out.2.2.2 v
                      have HTK : Hid (costN (D : Int) ((xss.take xss.length).map Cv.zs) (v : Int) = (costsL D (xss.map Cv.zs)).getD v 0) := Lib.hid (by rw [List.take_length, costsL_get D _ v hvn])
                      have hvl : (v : Int) < ((D + 1 : Nat) : Int) := by omega
                      have hbl : (bk : Int) < ((D + 1 : Nat) : Int) := by omega
                      generalize costN (D : Int) ((xss.take xss.length).map Cv.zs) (v : Int) = sv at *
                      obtain rfl := HTK.out.symm
                      generalize (costsL D (xss.map Cv.zs)).getD v 0 = sv at *
                      generalize (costsL D (xss.map Cv.zs)).getD bk 0 = cbv at *
                      clear HTK
                      by_cases hvb : v < bk
                      · have h5 := h4 hvb
                        have h6 : ¬ sv = cbv := by omega
                        have h7 : ¬ sv < cbv := by omega
                        have hvb' : (v : Int) < (bk : Int) := by omega
                        clear h3 h4 h5
                        go_wp2_with fail
                        go_round
                        case rel => exact ⟨v + 1, by omega, by go_num⟩
                        case measure => simp [intOf]; omega
                      · have h7 : ¬ sv < cbv := by omega
                        have hvb' : ¬ (v : Int) < (bk : Int) := by omega
                        clear h3 h4
                        go_wp2_with fail
                        go_round
                        case rel => exact ⟨v + 1, by omega, by go_num⟩
                        case measure => simp [intOf]; omega
                · have hvD' : ¬ (v : Int) ≤ (D : Int) := by omega
                  have hb3 : Below w8.heap.size w8 (((w8.alloc (.cells #[.int .i64 (D : Int)] 3)).alloc (.cells #[.int .i64 (bk : Int)] 3)).alloc (.cells #[.slice va xss.length vc] 40)) := below_step (below_step (below_alloc _ _) (below_alloc _ _)) (below_alloc _ _)
                  have HMV := Lib.hid (moves_one D va xss.length vc xss w8.heap.size (w8.heap.size + 1) (w8.heap.size + 1 + 1) (((w8.alloc (.cells #[.int .i64 (D : Int)] 3)).alloc (.cells #[.int .i64 (bk : Int)] 3)).alloc (.cells #[.slice va xss.length vc] 40)) bk HBK.out (by omega) (blkOld (blkOld (blkNew rfl))) (blkOld (blkNew (by simp))) (blkNew (by simp)) (HSC8.out.ext hb3) (fun x hx => (HCV8.out x hx).below hb3) (by omega) (by omega) (by omega))
                  have HL3 := Lib.hid (below_step HLW8.out hb3)
                  clear hb3 HO8 HBP HBD HBK HSC8 HCV8 H64 HLW8
                  go_wp2_with fail
                  refine HMV.out.mono ?_
                  rintro e w9 ⟨g9, rfl, HC9, hb9⟩
                  have c9 := HC9.out
                  have HL9 := Lib.hid (below_step HL3.out hb9)
                  clear hb9 HMV HL3
                  go_wp2_with fail
                  refine (demandAwake_any _).mono ?_
                  rintro e wz ⟨rfl, hbz⟩
                  have HBZ := Lib.hid (below_step HL9.out hbz)
                  clear hbz
                  go_wp2
                  go_ret
                  exact ⟨rfl, HBZ.out⟩
end Go.Proofs.Ytjfakdbgcinpcaa
