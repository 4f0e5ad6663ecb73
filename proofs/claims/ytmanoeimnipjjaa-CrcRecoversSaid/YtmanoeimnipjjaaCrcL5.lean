/-
  CRC, THE LAWS' WALKS: CrcRecovers.
-/
import Derived.Test.YtmanoeimnipjjaaProg
import Derived.Test.YtmanoeimnipjjaaBase3
import Derived.Test.YtmanoeimnipjjaaBase5
import Derived.Test.YtmanoeimnipjjaaBase6
import Derived.Test.YtmanoeimnipjjaaBase7
import Derived.Test.YtmanoeimnipjjaaBase8
import Derived.Test.YtmanoeimnipjjaaBase9
import Derived.Test.YtmanoeimnipjjaaBase10
import Derived.Test.YtmanoeimnipjjaaCrcL1
import Derived.Test.YtmanoeimnipjjaaCrcP4
import Derived.Test.YtmanoeimnipjjaaWire6
import Derived.Test.YtmanoeimnipjjaaWireP3
import Derived.Test.YtmanoeimnipjjaaHeld
import Derived.BigQuiet
import Derived.Laws.StructEq
import Derived.StillTailTactics
import Derived.RegionTactic
import Derived.Deep.DeepCutAuto
import Derived.Deep.QuietTactic
import Derived.WalkSpells
import Derived.WalkLawsBesides
namespace Go.Proofs.Ytmanoeimnipjjaa
open Go.RowKit
set_option linter.unusedVariables false

theorem infoI : (Try.prog.info? 3).map (fun i => (i.zero, i.size, i.bytes)) = some (some (.int .i64 0), 1, 8) := by kernel_rfl
theorem sizeSl (w : World) : (sizeOf 22).run Try.prog w = .ok 1 w := by kernel_rfl

/-- The bytes of all. -/
def tot (l : List (List UInt8)) : Nat := (l.map List.length).sum
theorem tot_take (l : List (List UInt8)) (k : Nat) (hk : k < l.length) : tot (l.take (k + 1)) = tot (l.take k) + (l.getD k []).length := by
  unfold tot
  rw [List.take_succ_eq_append_getElem hk, List.map_append, List.sum_append]
  simp [List.getD, hk]
theorem tot_get (l : List (List UInt8)) (k : Nat) : (l.getD k []).length ≤ tot l := by
  induction l generalizing k with
  | nil => simp
  | cons x l ih =>
    have e : tot (x :: l) = x.length + tot l := by unfold tot; rw [List.map_cons, List.sum_cons]
    rw [e]
    cases k with
    | zero => rw [List.getD_cons_zero]; omega
    | succ k => have := ih k; rw [List.getD_cons_succ]; omega
theorem cat_len (l : List (List UInt8)) : (cat l).length ≤ tot l + 14 * l.length := by
  induction l with
  | nil => simp [cat, tot]
  | cons x l ih =>
    have h1 := frameB_len x
    have h2 := putInt_length x.length
    rw [cat_cons]
    simp [tot] at ih ⊢
    omega
theorem offs_le (l : List (List UInt8)) (j : Nat) : offs l j ≤ (cat l).length := by
  unfold offs
  conv => rhs; rw [← List.take_append_drop j l, cat_append, List.length_append]
  omega
theorem offs_ge (l : List (List UInt8)) : ∀ j, j ≤ l.length → j ≤ offs l j := by
  intro j
  induction j with
  | zero => intro _; exact Nat.zero_le _
  | succ j ih =>
    intro hj
    have h1 := ih (by omega)
    have h2 := offs_succ l j (by omega)
    have h3 := frameB_len (l.getD j [])
    omega
def endsL (l : List (List UInt8)) (k : Nat) : List Int := (List.range k).map fun j => ((offs l (j + 1) : Nat) : Int)
theorem endsL_succ (l : List (List UInt8)) (k : Nat) : endsL l (k + 1) = endsL l k ++ [((offs l (k + 1) : Nat) : Int)] := by
  unfold endsL; rw [List.range_succ, List.map_append]; rfl
theorem endsL_get (l : List (List UInt8)) (k j : Nat) (h : j < k) : (endsL l k).getD j 0 = ((offs l (j + 1) : Nat) : Int) := by
  unfold endsL; simp [List.getD, h]
theorem cat_take_succ (l : List (List UInt8)) (k : Nat) (hk : k < l.length) : cat (l.take (k + 1)) = cat (l.take k) ++ frameB (l.getD k []) := by
  rw [List.take_succ_eq_append_getElem hk, cat_append, cat_one]
  simp [List.getD, hk]

/-- A row of another type is not touched by an append. -/
theorem ownsRow_far1 {w w' : World} {B B2 : Nat} {e e2 : TypeId} {v v2 : Value} {n n2 : Nat} {xs xs2 : List Value} (h : w.ownsRow B e 1 v n xs) (h2 : w.ownsRow B2 e2 1 v2 n2 xs2) (he : e ≠ e2) (hg : w.grownBy w' v2.ownBlock) : w'.ownsRow B e 1 v n xs :=
  ownsRow_far0 (m := 1) h h2 he (by simpa using hg)
theorem seal_s {w w1 : World} {bs : List UInt8} {a : Option Addr} {n c : Nat} (H : Hid (Sl w 1 a n c (cs b8 bs) ∧ n ≤ 3000)) (hb : Below w.heap.size w w1) :
    Calls Try.prog 55 #[.slice a n c] w1 (fun e w2 => ∃ a4 n4 c4, e = .returned (.tuple #[.slice a4 n4 c4, .int .i64 0]) ∧ Hid (Sl w2 1 a4 n4 c4 (cs b8 (frameB bs))) ∧ Below w1.heap.size w1 w2) := by
  refine (seal_any bs a n c w1 (H.out.1.ext hb) (by have := H.out.2; omega)).mono ?_
  rintro e w2 ⟨v, rfl, ho, hb2⟩
  obtain ⟨N, a4, c4, rfl, s⟩ := sl_own ho
  exact ⟨a4, N, c4, rfl, s, hb2⟩

set_option maxRecDepth 100000 in
set_option maxHeartbeats 3000000 in
theorem crcRecovers_walk (xss : List (List UInt8)) (M : List SlV) (cut : Int) (ao : Option Addr) (len cap : Nat) (w : World) (hs : Sl w 1 ao len cap (cs slv M)) (hE : Els w M xss) (hsz : ∀ k, (xss.getD k []).length ≤ 140737488351232) (hcut : -9223372036854775808 ≤ cut ∧ cut ≤ 9223372036854775807) :
    Calls Try.prog 16 #[.slice ao len cap, .int .i64 cut] w (RetB (.bool true) w) := by
  have hMl := hs.count
  have hxl : xss.length = len := by rw [← hE.len]; exact hMl
  have HE := Lib.hid hE
  have HM := Lib.hid hMl
  have HX := Lib.hid hxl
  have hlm : len ≤ maxLen := Nat.le_trans hs.hle hs.hmax
  unfold maxLen at hlm
  have HSZ := Lib.hid hsz
  clear hE hMl hxl hsz
  go_enter Try.func16, Try.ntmps16
  go_wp2_with fail
  go_loop [5, 6] (fun n i => ∃ k q : Nat, k ≤ len ∧ k ≤ 21 ∧ i = .int .i64 k ∧ n = .int .i64 q ∧ Hid (q = tot (xss.take k)) ∧ q ≤ k * 281474976710656) (fun _ i => 21 - (intOf i).toNat)
  case atStart => exact ⟨0, 0, by omega, by omega, rfl, rfl, by show _ = _; simp [tot], by omega⟩
  case round =>
    obtain ⟨k, q, hk, hk21, rfl, rfl, hq, hqb⟩ := hrel
    by_cases hkl : k < len
    · by_cases hk2 : k < 21
      · obtain ⟨b, off, e0, hcell⟩ := hs.at_ k hkl (none, 0, 0)
        subst e0
        have hel := HE.out.el k (by rw [HM.out]; exact hkl)
        have hsm := HSZ.out k
        have hcnt := hel.count
        have htt := tot_take xss k (by rw [HX.out]; exact hkl)
        unfold slv at hcell
        rw [hcnt] at hsm htt
        generalize (M.getD k (none, 0, 0)).2.1 = m at *
        generalize (M.getD k (none, 0, 0)).1 = am at *
        generalize (M.getD k (none, 0, 0)).2.2 = cm at *
        have HT := Lib.hid htt
        clear htt hcnt hel
        have hkl' : (k : Int) < (len : Int) := by omega
        have hk2' : (k : Int) < 21 := by omega
        have hk0 : (0 : Int) ≤ (k : Int) := by omega
        have hmm : q + m ≤ (k + 1) * 281474976710656 := by omega
        go_wp2_with fail
        go_round
        case rel => exact ⟨k + 1, q + m, by omega, by omega, by go_num, by go_num, by show _ = _; rw [HT.out, hq.out], hmm⟩
        case measure => simp [intOf]; omega
      · have hbig : (20 : Int) < (len : Int) := by omega
        have hk2' : ¬ (k : Int) < 21 := by omega
        have hkl' : (k : Int) < (len : Int) := by omega
        go_wp2_with fail
        refine (awake05_any _).mono ?_
        rintro e w8 ⟨rfl, hb8⟩
        go_wp2
        go_ret
        exact ⟨rfl, hb8⟩
    · have hke : k = len := by omega
      subst hke
      by_cases hbig : 20 < k
      · have hbig' : (20 : Int) < (k : Int) := by omega
        go_wp2_with fail
        refine (awake05_any _).mono ?_
        rintro e w8 ⟨rfl, hb8⟩
        go_wp2
        go_ret
        exact ⟨rfl, hb8⟩
      · have hbig' : ¬ (20 : Int) < (k : Int) := by omega
        by_cases h3 : 3000 < q
        · have h3' : (3000 : Int) < (q : Int) := by omega
          go_wp2_with fail
          refine (awake05_any _).mono ?_
          rintro e w8 ⟨rfl, hb8⟩
          go_wp2
          go_ret
          exact ⟨rfl, hb8⟩
        · have h3' : ¬ (3000 : Int) < (q : Int) := by omega
          have htot : tot xss ≤ 3000 := by
            have h1 := hq.out
            rw [List.take_of_length_le (by rw [HX.out]; exact Nat.le_refl _)] at h1
            omega
          have hT := Lib.hid htot
          have hEB : Hid (∀ j, (xss.getD j []).length ≤ 3000) := fun j => Nat.le_trans (tot_get xss j) htot
          have hcat : (cat xss).length ≤ 3280 := by have h1 := cat_len xss; rw [HX.out] at h1; omega
          have HCAT := Lib.hid hcat
          clear htot hcat hq hqb
          go_wp2_with fail
          go_loopw [7, 8, 9] (fun va ve i wr => ∃ j n : Nat, j ≤ k ∧ i = .int .i64 j ∧ n ≤ 4000 ∧ Hid (n = offs xss j) ∧ wr.ownsRow w.heap.size 5 1 va n (cs b8 (cat (xss.take j))) ∧ wr.ownsRow w.heap.size 3 1 ve j (cs i64v (endsL xss j)) ∧ Below w.heap.size w wr) (fun _ _ i _ => k - (intOf i).toNat)
          case atStart => exact ⟨0, 0, by omega, rfl, by omega, rfl, World.ownsRow_nil _ _ _ _, World.ownsRow_nil _ _ _ _, Below.refl _ _⟩
          case round =>
            obtain ⟨j, n, hj, rfl, hn, hoff, hoa, hoe, hb⟩ := hrel
            by_cases hjk : j < k
            · obtain ⟨b, off, e0, hcell⟩ := (hs.ext hb).at_ j hjk (none, 0, 0)
              subst e0
              have hel := (HE.out.ext hb).el j (by rw [HM.out]; exact hjk)
              have hcnt := hel.count
              have hsm := hEB.out j
              have hct := cat_take_succ xss j (by rw [HX.out]; exact hjk)
              have hos := offs_succ xss j (by rw [HX.out]; exact hjk)
              have hol := offs_le xss (j + 1)
              have hcb := HCAT.out
              unfold slv at hcell
              generalize (M.getD j (none, 0, 0)).2.1 = m at *
              generalize (M.getD j (none, 0, 0)).1 = am at *
              generalize (M.getD j (none, 0, 0)).2.2 = cm at *
              rw [← hoff.out] at hos
              have HS := Lib.hid (And.intro hel (show m ≤ 3000 by omega))
              have hnb : n + (frameB (xss.getD j [])).length ≤ 3280 := by omega
              have HOS := Lib.hid hos
              have HCT := Lib.hid hct
              clear hel hcnt hsm hct hos hol hcb
              generalize xss.getD j [] = bj at *
              have hjk' : (j : Int) < (k : Int) := by omega
              have hj0 : (0 : Int) ≤ (j : Int) := by omega
              have z := hb.size
              go_wp2_with fail
              refine (seal_s HS (Below.refl _ _)).mono ?_
              rintro e w1 ⟨a1, n1, c1, rfl, s1, hb1⟩
              have hn1 := s1.out.count
              have n1p : 0 < n1 := by have := frameB_len bj; omega
              have hb01 := hb.trans (hb1.mono z)
              have z1 := hb01.size
              have hoa1 := ownsRow_ext hoa hb1
              have hoe1 := ownsRow_ext hoe hb1
              clear hoa hoe
              rw [hn1] at hnb HOS
              clear hn1
              go_wp2_with (at_builtin; refine wpList_append_manyG b8 (fun _ => rfl) _ rfl _ _ 22 rfl w.heap.size 5 (.int .u8 0) 1 Try.underlying22 Try.infoU8 rfl hoa1 rfl s1.out rfl (by unfold maxLen; omega) (by omega) (by omega) ?_)
              intro v2 w2 ho2 hg2 hb2
              have hoe2 : w2.ownsRow w.heap.size 3 1 u8 j (cs i64v (endsL xss j)) := by
                first
                | exact ownsRow_far0 hoe1 hoa1 (by decide) hg2
                | exact ownsRow_far1 hoe1 hoa1 (by decide) hg2
              have hb02 := hb01.trans hb2
              have z2 := hb02.size
              clear hoe1 hoa1 hg2 hb2
              obtain ⟨a2, c2, rfl, s2⟩ := sl_of_own ho2
              clear s2
              go_wp2_with (at_builtin; refine wpList_append_one i64v (fun _ => rfl) _ rfl _ _ 23 rfl w.heap.size 3 _ (.int .i64 0) 8 Try.underlying23 infoI rfl (.own hoe2) rfl ((n + n1 : Nat) : Int) rfl (by unfold maxLen; omega) (by omega) (by omega) ?_)
              intro v3 w3 ho3 hg3 hb3
              have ho23 := ownsRow_far ho2 hoe2 (by decide) hg3
              go_wp2
              go_roundw
              case rel =>
                refine ⟨j + 1, n + n1, by omega, by go_num, by omega, HOS.out.symm, ?_, ?_, hb02.trans hb3⟩
                · rw [HCT.out]; exact ho23
                · rw [endsL_succ, HOS.out]; exact ho3
              case measure => simp [intOf]; omega
            · have hjke : j = k := by omega
              subst hjke
              have htk : xss.take j = xss := List.take_of_length_le (by rw [HX.out]; exact Nat.le_refl _)
              have hall := offs_all xss
              rw [HX.out] at hall
              rw [htk] at hoa
              have hnc : n = (cat xss).length := by rw [hoff.out, hall]
              obtain ⟨aa, ca, rfl, sa⟩ := sl_of_own hoa
              obtain ⟨ae, ce, rfl, se⟩ := sl_of_own hoe
              have hca := sa.hle
              have HB := Lib.hid hb
              have SA := Lib.hid sa
              have SE := Lib.hid se
              clear htk hall hoa hoe hb sa se
              -- where it is cut
              have hcase : ∃ c : Nat, c ≤ n ∧ ((cut < 0 ∧ c = n) ∨ (0 ≤ cut ∧ (n : Int) < cut ∧ c = n) ∨ (0 ≤ cut ∧ cut ≤ (n : Int) ∧ cut = (c : Int))) := by
                by_cases h : cut < 0
                · exact ⟨n, by omega, by omega⟩
                · by_cases h' : (n : Int) < cut
                  · exact ⟨n, by omega, by omega⟩
                  · exact ⟨cut.toNat, by omega, by omega⟩
              obtain ⟨c, hcn, hcase⟩ := hcase
              obtain ⟨sc, hrc, hsc⟩ : ∃ ao', (∀ w' : World, (Instr.slice 22 (.slice aa n ca) none (some (.int .i64 (c : Int))) (some (.int .i64 (c : Int)))).run Try.prog w' = .ok (.slice ao' c c) w') ∧ Sl wr 1 ao' c c (cs b8 ((cat xss).take c)) := by
                refine ⟨if c = 0 then aa else aa.map (·.add (0 * 1)), fun w' => ?_, ?_⟩
                · have he : Try.prog.elem 22 = 5 := by kernel_rfl
                  rw [run_slice_hm w' 22 aa n ca (by rw [he]; exact Try.underlying22) .i64 .i64 (c : Int) (c : Int) (by omega) (Int.le_refl _) (by omega), he, Try.sizeU8]
                  simp [Result.andThen, sliced]
                · have := SA.out.partT 0 c c (Nat.zero_le _) hcn (Nat.le_refl _) (by omega)
                  simpa using this
              have SC := Lib.hid hsc
              have hn3 : n ≤ 3280 := by have := HCAT.out; omega
              have HNC := Lib.hid hnc
              clear hsc hnc
              rcases hcase with ⟨x1, x2⟩ | ⟨x1, x2, x3⟩ | ⟨x1, x2, x3⟩
              · subst x2
                go_wp2_with fail
                go_loop [12, 13] (fun i e => ∃ p : Nat, p ≤ j ∧ i = .int .i64 p ∧ e = .int .i64 (offs xss p : Nat) ∧ Hid (offs xss p ≤ c)) (fun i _ => j - (intOf i).toNat)
                case atStart => exact ⟨0, by omega, rfl, rfl, Nat.zero_le _⟩
                case round =>
                  obtain ⟨p, hp, rfl, rfl, hpc⟩ := hrel
                  by_cases hpj : p < j
                  · obtain ⟨pb, po, pe, pcell⟩ := SE.out.at_ p hpj 0
                    subst pe
                    rw [endsL_get _ _ _ hpj] at pcell
                    have pcell' : wr.cell? ⟨pb, po + p, none⟩ = some (.int .i64 ((offs xss (p + 1) : Nat) : Int)) := pcell
                    clear pcell
                    have i0 : (0 : Int) ≤ (p : Int) := by omega
                    have i1 : (p : Int) < (j : Int) := by omega
                    by_cases htc : offs xss (p + 1) ≤ c
                    · have htc' : ((offs xss (p + 1) : Nat) : Int) ≤ (c : Int) := by omega
                      have HTC := Lib.hid htc
                      clear htc
                      generalize hop : offs xss (p + 1) = tt at *
                      have HOP := Lib.hid hop
                      clear hop
                      go_wp2_with fail
                      go_round
                      case rel => exact ⟨p + 1, by omega, by go_num, by rw [HOP.out], by show _ ≤ _; rw [HOP.out]; exact HTC.out⟩
                      case measure => simp [intOf]; omega
                    · have htc' : ¬ ((offs xss (p + 1) : Nat) : Int) ≤ (c : Int) := by omega
                      have HEND : Hid (p = xss.length ∨ c < offs xss (p + 1)) := .inr (by omega)
                      clear htc
                      generalize offs xss (p + 1) = tt at pcell' htc'
                      have hrec : recov ((cat xss).take c) (c + 1) 0 = (xss.take p, ((offs xss p : Nat) : Int)) := by
                        have h := recov_cut xss (fun k _ => Nat.le_trans (hEB.out k) (by decide)) c p (by rw [HX.out]; omega) hpc.out (by rw [← HNC.out]; omega) HEND.out p 0 (c + 1) (by omega) (by have h1 := offs_ge xss p (by rw [HX.out]; omega); have h2 := hpc.out; omega)
                        rw [offs_zero, List.drop_zero] at h
                        exact h
                      obtain ⟨sl, hrl, hsl⟩ := slice_to (P := Try.prog) 70 22 Try.underlying70 sizeSl hs p (by omega)
                      have HSL := Lib.hid hsl
                      have HREC := Lib.hid hrec
                      clear hsl hrec
                      generalize hop : offs xss p = op at *
                      have HOP := Lib.hid hop
                      clear hop
                      go_wp2_with fail
                      refine (recover_any ((cat xss).take c) sc c c _ SC.out (by omega)).mono ?_
                      rw [HREC.out]
                      rintro e w5 ⟨a5, m5, c5, L5, rfl, s5, E5, hb5⟩
                      have hm5 : m5 ≤ 1000000000000 := by
                        have h1 := s5.count
                        have h2 := E5.len
                        simp only [List.length_take] at h2
                        omega
                      have B5 := Lib.hid (below_step HB.out hb5)
                      have S5 := Lib.hid (And.intro s5 E5)
                      clear s5 E5 hb5
                      go_wp2_with fail
                      refine (sameAll_any (xss.take p) (xss.take p) L5 (M.take p) _ _ _ _ _ _ _ S5.out.1 (HSL.out.ext B5.out) S5.out.2 ((HE.out.take p).ext B5.out) hm5 (fun k _ => ?_)).mono ?_
                      · have h1 := hEB.out k
                        rcases Nat.lt_or_ge k p with h' | h'
                        · have h2 : (xss.take p).getD k [] = xss.getD k [] := by simp [List.getD, h']
                          rw [h2]; omega
                        · have h2 : (xss.take p).getD k [] = [] := by simp [List.getD, List.getElem?_eq_none (show (xss.take p).length ≤ k by simp; omega)]
                          rw [h2]; simp
                      rw [decide_eq_true rfl]
                      rintro e w6 ⟨rfl, hb6⟩
                      have B6 := Lib.hid (below_step B5.out hb6)
                      clear hb6
                      go_wp2_with fail
                      refine (awake05_any _).mono ?_
                      rintro e w7 ⟨rfl, hb7⟩
                      go_wp2
                      go_ret
                      exact ⟨rfl, below_step B6.out hb7⟩
                  · obtain rfl : p = j := by omega
                    have i1 : ¬ (p : Int) < (p : Int) := by omega
                    have HEND : Hid (p = xss.length ∨ c < offs xss (p + 1)) := .inl (by rw [HX.out])
                    have hrec : recov ((cat xss).take c) (c + 1) 0 = (xss.take p, ((offs xss p : Nat) : Int)) := by
                      have h := recov_cut xss (fun k _ => Nat.le_trans (hEB.out k) (by decide)) c p (by rw [HX.out]; omega) hpc.out (by rw [← HNC.out]; omega) HEND.out p 0 (c + 1) (by omega) (by have h1 := offs_ge xss p (by rw [HX.out]; omega); have h2 := hpc.out; omega)
                      rw [offs_zero, List.drop_zero] at h
                      exact h
                    obtain ⟨sl, hrl, hsl⟩ := slice_to (P := Try.prog) 70 22 Try.underlying70 sizeSl hs p (by omega)
                    have HSL := Lib.hid hsl
                    have HREC := Lib.hid hrec
                    clear hsl hrec
                    generalize hop : offs xss p = op at *
                    have HOP := Lib.hid hop
                    clear hop
                    go_wp2_with fail
                    refine (recover_any ((cat xss).take c) sc c c _ SC.out (by omega)).mono ?_
                    rw [HREC.out]
                    rintro e w5 ⟨a5, m5, c5, L5, rfl, s5, E5, hb5⟩
                    have hm5 : m5 ≤ 1000000000000 := by
                      have h1 := s5.count
                      have h2 := E5.len
                      simp only [List.length_take] at h2
                      omega
                    have B5 := Lib.hid (below_step HB.out hb5)
                    have S5 := Lib.hid (And.intro s5 E5)
                    clear s5 E5 hb5
                    go_wp2_with fail
                    refine (sameAll_any (xss.take p) (xss.take p) L5 (M.take p) _ _ _ _ _ _ _ S5.out.1 (HSL.out.ext B5.out) S5.out.2 ((HE.out.take p).ext B5.out) hm5 (fun k _ => ?_)).mono ?_
                    · have h1 := hEB.out k
                      rcases Nat.lt_or_ge k p with h' | h'
                      · have h2 : (xss.take p).getD k [] = xss.getD k [] := by simp [List.getD, h']
                        rw [h2]; omega
                      · have h2 : (xss.take p).getD k [] = [] := by simp [List.getD, List.getElem?_eq_none (show (xss.take p).length ≤ k by simp; omega)]
                        rw [h2]; simp
                    rw [decide_eq_true rfl]
                    rintro e w6 ⟨rfl, hb6⟩
                    have B6 := Lib.hid (below_step B5.out hb6)
                    clear hb6
                    go_wp2_with fail
                    refine (awake05_any _).mono ?_
                    rintro e w7 ⟨rfl, hb7⟩
                    go_wp2
                    go_ret
                    exact ⟨rfl, below_step B6.out hb7⟩
              · subst x3
                go_wp2_with fail
                go_loop [12, 13] (fun i e => ∃ p : Nat, p ≤ j ∧ i = .int .i64 p ∧ e = .int .i64 (offs xss p : Nat) ∧ Hid (offs xss p ≤ c)) (fun i _ => j - (intOf i).toNat)
                case atStart => exact ⟨0, by omega, rfl, rfl, Nat.zero_le _⟩
                case round =>
                  obtain ⟨p, hp, rfl, rfl, hpc⟩ := hrel
                  by_cases hpj : p < j
                  · obtain ⟨pb, po, pe, pcell⟩ := SE.out.at_ p hpj 0
                    subst pe
                    rw [endsL_get _ _ _ hpj] at pcell
                    have pcell' : wr.cell? ⟨pb, po + p, none⟩ = some (.int .i64 ((offs xss (p + 1) : Nat) : Int)) := pcell
                    clear pcell
                    have i0 : (0 : Int) ≤ (p : Int) := by omega
                    have i1 : (p : Int) < (j : Int) := by omega
                    by_cases htc : offs xss (p + 1) ≤ c
                    · have htc' : ((offs xss (p + 1) : Nat) : Int) ≤ (c : Int) := by omega
                      have HTC := Lib.hid htc
                      clear htc
                      generalize hop : offs xss (p + 1) = tt at *
                      have HOP := Lib.hid hop
                      clear hop
                      go_wp2_with fail
                      go_round
                      case rel => exact ⟨p + 1, by omega, by go_num, by rw [HOP.out], by show _ ≤ _; rw [HOP.out]; exact HTC.out⟩
                      case measure => simp [intOf]; omega
                    · have htc' : ¬ ((offs xss (p + 1) : Nat) : Int) ≤ (c : Int) := by omega
                      have HEND : Hid (p = xss.length ∨ c < offs xss (p + 1)) := .inr (by omega)
                      clear htc
                      generalize offs xss (p + 1) = tt at pcell' htc'
                      have hrec : recov ((cat xss).take c) (c + 1) 0 = (xss.take p, ((offs xss p : Nat) : Int)) := by
                        have h := recov_cut xss (fun k _ => Nat.le_trans (hEB.out k) (by decide)) c p (by rw [HX.out]; omega) hpc.out (by rw [← HNC.out]; omega) HEND.out p 0 (c + 1) (by omega) (by have h1 := offs_ge xss p (by rw [HX.out]; omega); have h2 := hpc.out; omega)
                        rw [offs_zero, List.drop_zero] at h
                        exact h
                      obtain ⟨sl, hrl, hsl⟩ := slice_to (P := Try.prog) 70 22 Try.underlying70 sizeSl hs p (by omega)
                      have HSL := Lib.hid hsl
                      have HREC := Lib.hid hrec
                      clear hsl hrec
                      generalize hop : offs xss p = op at *
                      have HOP := Lib.hid hop
                      clear hop
                      go_wp2_with fail
                      refine (recover_any ((cat xss).take c) sc c c _ SC.out (by omega)).mono ?_
                      rw [HREC.out]
                      rintro e w5 ⟨a5, m5, c5, L5, rfl, s5, E5, hb5⟩
                      have hm5 : m5 ≤ 1000000000000 := by
                        have h1 := s5.count
                        have h2 := E5.len
                        simp only [List.length_take] at h2
                        omega
                      have B5 := Lib.hid (below_step HB.out hb5)
                      have S5 := Lib.hid (And.intro s5 E5)
                      clear s5 E5 hb5
                      go_wp2_with fail
                      refine (sameAll_any (xss.take p) (xss.take p) L5 (M.take p) _ _ _ _ _ _ _ S5.out.1 (HSL.out.ext B5.out) S5.out.2 ((HE.out.take p).ext B5.out) hm5 (fun k _ => ?_)).mono ?_
                      · have h1 := hEB.out k
                        rcases Nat.lt_or_ge k p with h' | h'
                        · have h2 : (xss.take p).getD k [] = xss.getD k [] := by simp [List.getD, h']
                          rw [h2]; omega
                        · have h2 : (xss.take p).getD k [] = [] := by simp [List.getD, List.getElem?_eq_none (show (xss.take p).length ≤ k by simp; omega)]
                          rw [h2]; simp
                      rw [decide_eq_true rfl]
                      rintro e w6 ⟨rfl, hb6⟩
                      have B6 := Lib.hid (below_step B5.out hb6)
                      clear hb6
                      go_wp2_with fail
                      refine (awake05_any _).mono ?_
                      rintro e w7 ⟨rfl, hb7⟩
                      go_wp2
                      go_ret
                      exact ⟨rfl, below_step B6.out hb7⟩
                  · obtain rfl : p = j := by omega
                    have i1 : ¬ (p : Int) < (p : Int) := by omega
                    have HEND : Hid (p = xss.length ∨ c < offs xss (p + 1)) := .inl (by rw [HX.out])
                    have hrec : recov ((cat xss).take c) (c + 1) 0 = (xss.take p, ((offs xss p : Nat) : Int)) := by
                      have h := recov_cut xss (fun k _ => Nat.le_trans (hEB.out k) (by decide)) c p (by rw [HX.out]; omega) hpc.out (by rw [← HNC.out]; omega) HEND.out p 0 (c + 1) (by omega) (by have h1 := offs_ge xss p (by rw [HX.out]; omega); have h2 := hpc.out; omega)
                      rw [offs_zero, List.drop_zero] at h
                      exact h
                    obtain ⟨sl, hrl, hsl⟩ := slice_to (P := Try.prog) 70 22 Try.underlying70 sizeSl hs p (by omega)
                    have HSL := Lib.hid hsl
                    have HREC := Lib.hid hrec
                    clear hsl hrec
                    generalize hop : offs xss p = op at *
                    have HOP := Lib.hid hop
                    clear hop
                    go_wp2_with fail
                    refine (recover_any ((cat xss).take c) sc c c _ SC.out (by omega)).mono ?_
                    rw [HREC.out]
                    rintro e w5 ⟨a5, m5, c5, L5, rfl, s5, E5, hb5⟩
                    have hm5 : m5 ≤ 1000000000000 := by
                      have h1 := s5.count
                      have h2 := E5.len
                      simp only [List.length_take] at h2
                      omega
                    have B5 := Lib.hid (below_step HB.out hb5)
                    have S5 := Lib.hid (And.intro s5 E5)
                    clear s5 E5 hb5
                    go_wp2_with fail
                    refine (sameAll_any (xss.take p) (xss.take p) L5 (M.take p) _ _ _ _ _ _ _ S5.out.1 (HSL.out.ext B5.out) S5.out.2 ((HE.out.take p).ext B5.out) hm5 (fun k _ => ?_)).mono ?_
                    · have h1 := hEB.out k
                      rcases Nat.lt_or_ge k p with h' | h'
                      · have h2 : (xss.take p).getD k [] = xss.getD k [] := by simp [List.getD, h']
                        rw [h2]; omega
                      · have h2 : (xss.take p).getD k [] = [] := by simp [List.getD, List.getElem?_eq_none (show (xss.take p).length ≤ k by simp; omega)]
                        rw [h2]; simp
                    rw [decide_eq_true rfl]
                    rintro e w6 ⟨rfl, hb6⟩
                    have B6 := Lib.hid (below_step B5.out hb6)
                    clear hb6
                    go_wp2_with fail
                    refine (awake05_any _).mono ?_
                    rintro e w7 ⟨rfl, hb7⟩
                    go_wp2
                    go_ret
                    exact ⟨rfl, below_step B6.out hb7⟩
              · subst x3
                go_wp2_with fail
                go_loop [12, 13] (fun i e => ∃ p : Nat, p ≤ j ∧ i = .int .i64 p ∧ e = .int .i64 (offs xss p : Nat) ∧ Hid (offs xss p ≤ c)) (fun i _ => j - (intOf i).toNat)
                case atStart => exact ⟨0, by omega, rfl, rfl, Nat.zero_le _⟩
                case round =>
                  obtain ⟨p, hp, rfl, rfl, hpc⟩ := hrel
                  by_cases hpj : p < j
                  · obtain ⟨pb, po, pe, pcell⟩ := SE.out.at_ p hpj 0
                    subst pe
                    rw [endsL_get _ _ _ hpj] at pcell
                    have pcell' : wr.cell? ⟨pb, po + p, none⟩ = some (.int .i64 ((offs xss (p + 1) : Nat) : Int)) := pcell
                    clear pcell
                    have i0 : (0 : Int) ≤ (p : Int) := by omega
                    have i1 : (p : Int) < (j : Int) := by omega
                    by_cases htc : offs xss (p + 1) ≤ c
                    · have htc' : ((offs xss (p + 1) : Nat) : Int) ≤ (c : Int) := by omega
                      have HTC := Lib.hid htc
                      clear htc
                      generalize hop : offs xss (p + 1) = tt at *
                      have HOP := Lib.hid hop
                      clear hop
                      go_wp2_with fail
                      go_round
                      case rel => exact ⟨p + 1, by omega, by go_num, by rw [HOP.out], by show _ ≤ _; rw [HOP.out]; exact HTC.out⟩
                      case measure => simp [intOf]; omega
                    · have htc' : ¬ ((offs xss (p + 1) : Nat) : Int) ≤ (c : Int) := by omega
                      have HEND : Hid (p = xss.length ∨ c < offs xss (p + 1)) := .inr (by omega)
                      clear htc
                      generalize offs xss (p + 1) = tt at pcell' htc'
                      have hrec : recov ((cat xss).take c) (c + 1) 0 = (xss.take p, ((offs xss p : Nat) : Int)) := by
                        have h := recov_cut xss (fun k _ => Nat.le_trans (hEB.out k) (by decide)) c p (by rw [HX.out]; omega) hpc.out (by rw [← HNC.out]; omega) HEND.out p 0 (c + 1) (by omega) (by have h1 := offs_ge xss p (by rw [HX.out]; omega); have h2 := hpc.out; omega)
                        rw [offs_zero, List.drop_zero] at h
                        exact h
                      obtain ⟨sl, hrl, hsl⟩ := slice_to (P := Try.prog) 70 22 Try.underlying70 sizeSl hs p (by omega)
                      have HSL := Lib.hid hsl
                      have HREC := Lib.hid hrec
                      clear hsl hrec
                      generalize hop : offs xss p = op at *
                      have HOP := Lib.hid hop
                      clear hop
                      go_wp2_with fail
                      refine (recover_any ((cat xss).take c) sc c c _ SC.out (by omega)).mono ?_
                      rw [HREC.out]
                      rintro e w5 ⟨a5, m5, c5, L5, rfl, s5, E5, hb5⟩
                      have hm5 : m5 ≤ 1000000000000 := by
                        have h1 := s5.count
                        have h2 := E5.len
                        simp only [List.length_take] at h2
                        omega
                      have B5 := Lib.hid (below_step HB.out hb5)
                      have S5 := Lib.hid (And.intro s5 E5)
                      clear s5 E5 hb5
                      go_wp2_with fail
                      refine (sameAll_any (xss.take p) (xss.take p) L5 (M.take p) _ _ _ _ _ _ _ S5.out.1 (HSL.out.ext B5.out) S5.out.2 ((HE.out.take p).ext B5.out) hm5 (fun k _ => ?_)).mono ?_
                      · have h1 := hEB.out k
                        rcases Nat.lt_or_ge k p with h' | h'
                        · have h2 : (xss.take p).getD k [] = xss.getD k [] := by simp [List.getD, h']
                          rw [h2]; omega
                        · have h2 : (xss.take p).getD k [] = [] := by simp [List.getD, List.getElem?_eq_none (show (xss.take p).length ≤ k by simp; omega)]
                          rw [h2]; simp
                      rw [decide_eq_true rfl]
                      rintro e w6 ⟨rfl, hb6⟩
                      have B6 := Lib.hid (below_step B5.out hb6)
                      clear hb6
                      go_wp2_with fail
                      refine (awake05_any _).mono ?_
                      rintro e w7 ⟨rfl, hb7⟩
                      go_wp2
                      go_ret
                      exact ⟨rfl, below_step B6.out hb7⟩
                  · obtain rfl : p = j := by omega
                    have i1 : ¬ (p : Int) < (p : Int) := by omega
                    have HEND : Hid (p = xss.length ∨ c < offs xss (p + 1)) := .inl (by rw [HX.out])
                    have hrec : recov ((cat xss).take c) (c + 1) 0 = (xss.take p, ((offs xss p : Nat) : Int)) := by
                      have h := recov_cut xss (fun k _ => Nat.le_trans (hEB.out k) (by decide)) c p (by rw [HX.out]; omega) hpc.out (by rw [← HNC.out]; omega) HEND.out p 0 (c + 1) (by omega) (by have h1 := offs_ge xss p (by rw [HX.out]; omega); have h2 := hpc.out; omega)
                      rw [offs_zero, List.drop_zero] at h
                      exact h
                    obtain ⟨sl, hrl, hsl⟩ := slice_to (P := Try.prog) 70 22 Try.underlying70 sizeSl hs p (by omega)
                    have HSL := Lib.hid hsl
                    have HREC := Lib.hid hrec
                    clear hsl hrec
                    generalize hop : offs xss p = op at *
                    have HOP := Lib.hid hop
                    clear hop
                    go_wp2_with fail
                    refine (recover_any ((cat xss).take c) sc c c _ SC.out (by omega)).mono ?_
                    rw [HREC.out]
                    rintro e w5 ⟨a5, m5, c5, L5, rfl, s5, E5, hb5⟩
                    have hm5 : m5 ≤ 1000000000000 := by
                      have h1 := s5.count
                      have h2 := E5.len
                      simp only [List.length_take] at h2
                      omega
                    have B5 := Lib.hid (below_step HB.out hb5)
                    have S5 := Lib.hid (And.intro s5 E5)
                    clear s5 E5 hb5
                    go_wp2_with fail
                    refine (sameAll_any (xss.take p) (xss.take p) L5 (M.take p) _ _ _ _ _ _ _ S5.out.1 (HSL.out.ext B5.out) S5.out.2 ((HE.out.take p).ext B5.out) hm5 (fun k _ => ?_)).mono ?_
                    · have h1 := hEB.out k
                      rcases Nat.lt_or_ge k p with h' | h'
                      · have h2 : (xss.take p).getD k [] = xss.getD k [] := by simp [List.getD, h']
                        rw [h2]; omega
                      · have h2 : (xss.take p).getD k [] = [] := by simp [List.getD, List.getElem?_eq_none (show (xss.take p).length ≤ k by simp; omega)]
                        rw [h2]; simp
                    rw [decide_eq_true rfl]
                    rintro e w6 ⟨rfl, hb6⟩
                    have B6 := Lib.hid (below_step B5.out hb6)
                    clear hb6
                    go_wp2_with fail
                    refine (awake05_any _).mono ?_
                    rintro e w7 ⟨rfl, hb7⟩
                    go_wp2
                    go_ret
                    exact ⟨rfl, below_step B6.out hb7⟩
end Go.Proofs.Ytmanoeimnipjjaa
