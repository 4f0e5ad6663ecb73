/-
  LEVELS AND SCENARIOS, THE WALKS: target.
-/
import Derived.Test.YtjfakdbgcinpcaaTdP
import Derived.Test.YtjfakdbgcinpcaaBase7
import Derived.Test.YtjfakdbgcinpcaaHeld
import Derived.RegionTactic
import Derived.Test.YtjfakdbgcinpcaaDraw5
import Derived.BigQuiet
import Derived.BigRegion
import Derived.Laws.StructEq
import Derived.StillTailTactics
import Derived.Deep.DeepCutAuto
import Derived.Deep.QuietTactic
import Derived.WalkSpells
import Derived.WalkLawsBesides
namespace Go.Proofs.Ytjfakdbgcinpcaa
open Go.RowKit
set_option linter.unusedVariables false

/-- A scenario in memory. -/
structure Cv where
  a : Option Addr
  c : Nat
  zs : List Int
def csv (x : Cv) : Value := .slice x.a x.zs.length x.c
def nilC : Cv := ⟨none, 0, []⟩
def CvOk (W : World) (x : Cv) : Prop := Sl W 1 x.a x.zs.length x.c (cs i64v x.zs) ∧ okS x.zs
theorem CvOk.below {W W' : World} {x : Cv} (h : CvOk W x) (hb : Below W.heap.size W W') : CvOk W' x := ⟨h.1.ext hb, h.2⟩
theorem take_one (xs : List Int) (k : Nat) (hk : k < xs.length) : xs.take (k + 1) = xs.take k ++ [xs.getD k 0] := by
  rw [List.take_add_one, List.getElem?_eq_getElem hk, List.getD_eq_getElem?_getD, List.getElem?_eq_getElem hk]
  rfl
set_option maxRecDepth 100000 in
set_option maxHeartbeats 2000000 in
theorem lost_ok (docks level : Int) (x : Cv) (w : World) (h : CvOk w x) (d0 : 1 ≤ docks) (d1 : docks ≤ 32) (l0 : 0 ≤ level) (l1 : level ≤ docks) : Calls Try.prog 10 #[.int .i64 docks, .int .i64 level, csv x] w (fun e w' => e = .returned (.tuple #[.int .i64 (lostN docks level x.zs), .int .i64 0]) ∧ w' = w) := by
  obtain ⟨a, c, zs⟩ := x
  obtain ⟨hs, hok, h64⟩ := h
  dsimp only [csv] at hs hok h64 ⊢
  have HS := Lib.hid hs
  have HOK := Lib.hid hok
  have hdl : ¬ docks < level := by omega
  have hd1 : ¬ docks < 1 := by omega
  have hd2 : ¬ 32 < docks := by omega
  have hl0 : ¬ level < 0 := by omega
  have h64' : (zs.length : Int) ≤ 64 := by omega
  clear hs hok
  go_enter Try.func10, Try.ntmps10
  go_wp2_with fail
  go_loop [1, 8, 31] (fun v n i => ∃ k : Nat, k ≤ zs.length ∧ i = .int .i64 (k : Int) ∧ n = .int .i64 (stepsN docks level (zs.take k)).1 ∧ v = .int .i64 (stepsN docks level (zs.take k)).2) (fun _ _ i => zs.length - (intOf i).toNat)
  case atStart => exact ⟨0, by omega, rfl, rfl, rfl⟩
  case round =>
    obtain ⟨k, hk, rfl, rfl, rfl⟩ := hrel
    have hin := stepsN_in docks level l0 l1 k (zs.take k) (by rw [List.length_take]; omega)
    have hk0 : (0 : Int) ≤ (k : Int) := by omega
    by_cases hkl : k < zs.length
    · have hkl' : (k : Int) < (zs.length : Int) := by omega
      obtain ⟨b, o, e, hc⟩ := HS.out.at_ k hkl 0
      subst e
      change w.cell? ⟨b, o + k, none⟩ = some (.int .i64 (zs.getD k 0)) at hc
      have hsS := HOK.out (zs.getD k 0) (by rw [List.getD_eq_getElem?_getD, List.getElem?_eq_getElem hkl]; exact List.getElem_mem _)
      have HST : Hid (stepsN docks level (zs.take (k + 1)) = stepN docks (stepsN docks level (zs.take k)) (zs.getD k 0)) := Lib.hid (by rw [take_one zs k hkl, stepsN_snoc])
      generalize stepsN docks level (zs.take k) = p at *
      generalize zs.getD k 0 = s at *
      obtain ⟨n, v⟩ := p
      dsimp only at hin
      obtain ⟨i0, i1, i2, i3⟩ := hin
      by_cases hx : v + s < 0 ∨ docks < v + s
      · have HX : Hid (stepsN docks level (zs.take (k + 1)) = (n + 1, v)) := Lib.hid (by rw [HST.out]; unfold stepN; rw [if_pos hx])
        clear HST
        rcases hsS with rfl | rfl
        · have hx1 : ¬ v + 1 < 0 := by omega
          have hx2 : docks < v + 1 := by omega
          clear hx
          go_wp2
          go_round
          case rel => exact ⟨k + 1, by omega, by go_num, by rw [HX.out], by rw [HX.out]⟩
          case measure => simp [intOf]; omega
        · have hx1 : v + -1 < 0 := by omega
          clear hx
          go_wp2
          go_round
          case rel => exact ⟨k + 1, by omega, by go_num, by rw [HX.out], by rw [HX.out]⟩
          case measure => simp [intOf]; omega
      · have HX : Hid (stepsN docks level (zs.take (k + 1)) = (n, v + s)) := Lib.hid (by rw [HST.out]; unfold stepN; rw [if_neg hx])
        clear HST
        have hx1 : ¬ v + s < 0 := by omega
        have hx2 : ¬ docks < v + s := by omega
        clear hx
        rcases hsS with rfl | rfl
        · go_wp2
          go_round
          case rel => exact ⟨k + 1, by omega, by go_num, by rw [HX.out], by rw [HX.out]⟩
          case measure => simp [intOf]; omega
        · go_wp2
          go_round
          case rel => exact ⟨k + 1, by omega, by go_num, by rw [HX.out], by rw [HX.out]⟩
          case measure => simp [intOf]; omega
    · obtain rfl : k = zs.length := by omega
      have hkl' : ¬ (zs.length : Int) < (zs.length : Int) := by omega
      go_wp2
      go_ret2
      exact ⟨rfl, rfl⟩
def RetCosts (D : Nat) (l : List Int) (W : World) (e : Ending) (W' : World) : Prop := ∃ g, e = .returned (.tuple #[.slice (some ⟨g, 0, none⟩) (D + 1) (D + 1), .int .i64 0]) ∧ Hid (W'.ownsRow W.heap.size 3 1 (.slice (some ⟨g, 0, none⟩) (D + 1) (D + 1)) (D + 1) (cs i64v l)) ∧ Below W.heap.size W W'
theorem costsP_bd {docks : Nat} {done : List (List Int)} {x : List Int} {k v : Nat} (hd : done.length ≤ 32) (h64 : ∀ y ∈ done ++ [x], y.length ≤ 64) (hv : v < docks + 1) : 0 ≤ (costsP docks done x k).getD v 0 ∧ (costsP docks done x k).getD v 0 ≤ 10000 := by
  rw [costsP_get docks done x k v hv]
  have h1 := costN_in (docks : Int) (v : Int) (by omega) (by omega) (done ++ [x]).length (done ++ [x]) rfl h64
  have h2 := costN_in (docks : Int) (v : Int) (by omega) (by omega) done.length done rfl (fun y hy => h64 y (by simp [hy]))
  rw [List.length_append] at h1
  simp at h1
  split <;> omega
theorem costs_zero (D : Nat) : costsL D [] = List.replicate (D + 1) 0 := by
  have : costsL D [] = (List.range (D + 1)).map (fun _ => (0 : Int)) := rfl
  rw [this, List.map_const', List.length_range]
theorem take_oneC (xs : List Cv) (k : Nat) (hk : k < xs.length) : (xs.take (k + 1)).map Cv.zs = (xs.take k).map Cv.zs ++ [(xs.getD k nilC).zs] := by
  rw [List.take_add_one, List.getElem?_eq_getElem hk, List.getD_eq_getElem?_getD, List.getElem?_eq_getElem hk, List.map_append]
  rfl
set_option maxRecDepth 100000 in
set_option maxHeartbeats 4000000 in
theorem costs_ok (D : Nat) (a : Option Addr) (n c : Nat) (xss : List Cv) (w : World) (hs : Sl w 1 a n c (cs csv xss)) (hx : ∀ x ∈ xss, CvOk w x) (d0 : 1 ≤ D) (d1 : D ≤ 32) (hn : n ≤ 32) : Calls Try.prog 8 #[.int .i64 (D : Int), .slice a n c] w (RetCosts D (costsL D (xss.map Cv.zs)) w) := by
  have HS := Lib.hid hs
  have HX := Lib.hid hx
  have HN := Lib.hid hs.count
  have hd0 : 1 ≤ (D : Int) := by omega
  have hd1 : (D : Int) ≤ 32 := by omega
  have hD0 : 0 ≤ (D : Int) + 1 := by omega
  have hn' : (n : Int) ≤ 32 := by omega
  clear hs hx
  go_enter Try.func8, Try.ntmps8
  go_wp2_with (refine wpList_make_typed i64v 0 _ rfl _ _ 34 rfl 3 (.int .i64 0) 8 Try.underlying34 infoI rfl .i64 .i64 ((D : Int) + 1) ((D : Int) + 1) (D + 1) rfl rfl (by omega) (by omega) (by omega) (by unfold maxLen; omega) ?_)
  intro w1 ho1 hb1
  rw [← costs_zero] at ho1
  have HO1 := Lib.hid ho1
  have HB1 := Lib.hid hb1
  clear ho1 hb1
  generalize hg : w.heap.size = g at *
  have HG := Lib.hid hg
  clear hg
  go_wp2_with fail
  go_loopw [26] (fun i wr => ∃ k : Nat, k ≤ n ∧ i = .int .i64 (k : Int) ∧ Hid (wr.ownsRow g 3 1 (.slice (some ⟨g, 0, none⟩) (D + 1) (D + 1)) (D + 1) (cs i64v (costsL D ((xss.take k).map Cv.zs)))) ∧ Hid (Below g w wr)) (fun i _ => n - (intOf i).toNat)
  case atStart => exact ⟨0, by omega, rfl, by rw [List.take_zero]; exact HO1, HB1⟩
  case round =>
    obtain ⟨k, hk, rfl, HO, HB⟩ := hrel
    clear HO1 HB1
    have hk0 : (0 : Int) ≤ (k : Int) := by omega
    by_cases hkn : k < n
    · have hkn' : (k : Int) < (n : Int) := by omega
      have hB : Below w.heap.size w wr := by rw [HG.out]; exact HB.out
      obtain ⟨b, o, e, hc⟩ := (HS.out.ext hB).at_ k hkn nilC
      subst e
      have hxm : xss.getD k nilC ∈ xss := by rw [List.getD_eq_getElem?_getD, List.getElem?_eq_getElem (by have := HN.out; omega)]; exact List.getElem_mem _
      have HXK : Hid (CvOk w (xss.getD k nilC)) := Lib.hid (HX.out _ hxm)
      have HTK : Hid ((xss.take (k + 1)).map Cv.zs = (xss.take k).map Cv.zs ++ [(xss.getD k nilC).zs]) := Lib.hid (take_oneC xss k (by have := HN.out; omega))
      have HBD : Hid (∀ y ∈ (xss.take k).map Cv.zs ++ [(xss.getD k nilC).zs], y.length ≤ 64) := Lib.hid (fun y hy => by
        rw [← HTK.out] at hy
        obtain ⟨x, hx, rfl⟩ := List.mem_map.1 hy
        exact (HX.out x (List.mem_of_mem_take hx)).2.2)
      have HDL : Hid (((xss.take k).map Cv.zs).length ≤ 32) := Lib.hid (by rw [List.length_map, List.length_take]; omega)
      generalize xss.getD k nilC = x at *
      generalize (xss.take k).map Cv.zs = done at *
      obtain ⟨xa, xc, xz⟩ := x
      dsimp only [csv] at hc HBD HTK
      rw [← costsP_zero D done xz] at HO
      clear hB hxm
      go_wp2_with fail
      go_loopw [32] (fun i wr => ∃ v : Nat, v ≤ D + 1 ∧ i = .int .i64 (v : Int) ∧ Hid (wr.ownsRow g 3 1 (.slice (some ⟨g, 0, none⟩) (D + 1) (D + 1)) (D + 1) (cs i64v (costsP D done xz v))) ∧ Hid (Below g w wr)) (fun i _ => D + 1 - (intOf i).toNat)
      case atStart => exact ⟨0, by omega, rfl, HO, HB⟩
      case round =>
        clear hc HO HB
        obtain ⟨v, hv, rfl, HO, HB⟩ := hrel
        have hv0 : (0 : Int) ≤ (v : Int) := by omega
        by_cases hvn : v < D + 1
        · have hvn' : (v : Int) < (D : Int) + 1 := by omega
          have hvD : (v : Int) ≤ (D : Int) := by omega
          have hB : Below w.heap.size w wr := by rw [HG.out]; exact HB.out
          have HLT := Lib.hid (lost_ok (D : Int) (v : Int) ⟨xa, xc, xz⟩ wr (HXK.out.below hB) hd0 hd1 hv0 hvD)
          obtain ⟨cc, cf, _, _⟩ := own_cell HO.out v hvn 0
          obtain ⟨g0, g1⟩ := costsP_bd (k := v) HDL.out HBD.out hvn
          obtain ⟨l0, l1⟩ := lostN_in (D : Int) (v : Int) hv0 hvD xz
          have hxz : xz.length ≤ 64 := HBD.out xz (by simp)
          have HST : Hid ((costsP D done xz v).set v ((costsP D done xz v).getD v 0 + lostN (D : Int) (v : Int) xz) = costsP D done xz (v + 1)) := Lib.hid (by
            rw [costsP_get D done xz v v hvn, if_neg (by omega)]
            exact costsP_set D done xz v hvn)
          have HO2 := fun y => own_set HO.out v y
          change wr.cell? ⟨g, v, none⟩ = some (.int .i64 ((costsP D done xz v).getD v 0)) at cc
          have HO3 : Hid ((wr.setCell ⟨g, v, none⟩ (.int .i64 ((costsP D done xz v).getD v 0 + lostN (D : Int) (v : Int) xz))).ownsRow g 3 1 (.slice (some ⟨g, 0, none⟩) (D + 1) (D + 1)) (D + 1) (cs i64v (costsP D done xz (v + 1)))) := Lib.hid (by
            rw [← HST.out]
            exact HO2 _)
          have HB3 : Hid (Below g w (wr.setCell ⟨g, v, none⟩ (.int .i64 ((costsP D done xz v).getD v 0 + lostN (D : Int) (v : Int) xz)))) := Lib.hid (HB.out.setCell (Nat.le_refl _) _)
          clear HO2 HST hB HO HB
          generalize (costsP D done xz v).getD v 0 = cv at *
          generalize lostN (D : Int) (v : Int) xz = lv at *
          have hvl : (v : Int) < ((D + 1 : Nat) : Int) := by omega
          go_wp2_with fail
          refine HLT.out.mono ?_
          rintro e w5 ⟨rfl, hw5⟩
          subst w5
          go_wp2_with fail
          go_roundw
          case rel => exact ⟨v + 1, by omega, by go_num, HO3, HB3⟩
          case measure => simp [intOf]; omega
        · obtain rfl : v = D + 1 := by omega
          have hvn' : ¬ (((D + 1 : Nat) : Int)) < (D : Int) + 1 := by omega
          have HO4 : Hid (wr.ownsRow g 3 1 (.slice (some ⟨g, 0, none⟩) (D + 1) (D + 1)) (D + 1) (cs i64v (costsL D ((xss.take (k + 1)).map Cv.zs)))) := Lib.hid (by rw [HTK.out, ← costsP_all]; exact HO.out)
          clear HO
          go_wp2_with fail
          go_roundw
          case rel => exact ⟨k + 1, by omega, by go_num, HO4, HB⟩
          case measure => simp [intOf]; omega
    · obtain rfl : k = n := by omega
      have hkn' : ¬ (k : Int) < (k : Int) := by omega
      have HO4 : Hid (wr.ownsRow w.heap.size 3 1 (.slice (some ⟨g, 0, none⟩) (D + 1) (D + 1)) (D + 1) (cs i64v (costsL D (xss.map Cv.zs)))) := Lib.hid (by
        have := HO.out
        rw [List.take_of_length_le (by have := HN.out; omega)] at this
        rw [HG.out]
        exact this)
      have HB4 : Hid (Below w.heap.size w wr) := Lib.hid (by rw [HG.out]; exact HB.out)
      clear HO HB
      go_wp2
      go_ret2
      exact ⟨g, rfl, HO4, HB4.out⟩
theorem costs_bad (docks : Int) (a : Option Addr) (n c : Nat) (w : World) (h : docks < 1 ∨ 32 < docks) : Calls Try.prog 8 #[.int .i64 docks, .slice a n c] w (fun e w' => e = .returned (.tuple #[.slice none 0 0, .int .i64 1]) ∧ w' = w) := by
  by_cases h1 : docks < 1
  · clear h
    go_enter Try.func8, Try.ntmps8
    go_wp2
    go_ret2
    exact ⟨rfl, rfl⟩
  · have h2 : 32 < docks := by omega
    clear h
    go_enter Try.func8, Try.ntmps8
    go_wp2
    go_ret2
    exact ⟨rfl, rfl⟩
theorem best_bad (docks : Int) (a : Option Addr) (n c : Nat) (w : World) (h : docks < 1 ∨ 32 < docks) : Calls Try.prog 9 #[.int .i64 docks, .slice a n c] w (fun e w' => e = .returned (.tuple #[.int .i64 0, .int .i64 1]) ∧ w' = w) := by
  have HC := Lib.hid (costs_bad docks a n c w h)
  clear h
  go_enter Try.func9, Try.ntmps9
  go_wp2_with fail
  refine HC.out.mono ?_
  rintro e w1 ⟨rfl, hw⟩
  subst w1
  go_wp2
  go_ret2
  exact ⟨rfl, rfl⟩
set_option maxRecDepth 100000 in
set_option maxHeartbeats 4000000 in
theorem best_ok (D : Nat) (a : Option Addr) (n c : Nat) (xss : List Cv) (w : World) (hs : Sl w 1 a n c (cs csv xss)) (hx : ∀ x ∈ xss, CvOk w x) (d0 : 1 ≤ D) (d1 : D ≤ 32) (hn : n ≤ 32) : Calls Try.prog 9 #[.int .i64 (D : Int), .slice a n c] w (RetB (.tuple #[.int .i64 (bestN (costsL D (xss.map Cv.zs)) (D + 1) : Int), .int .i64 0]) w) := by
  have HC := Lib.hid (costs_ok D a n c xss w hs hx d0 d1 hn)
  have HL := Lib.hid (costsL_len D (xss.map Cv.zs))
  generalize costsL D (xss.map Cv.zs) = l at *
  clear hs hx
  go_enter Try.func9, Try.ntmps9
  go_wp2_with fail
  refine HC.out.mono ?_
  rintro e w1 ⟨g, rfl, HO, hb⟩
  have HB1 := Lib.hid hb
  clear hb HC
  go_wp2_with fail
  go_loopw [8, 21] (fun v i wr => ∃ k : Nat, k ≤ D + 1 ∧ i = .int .i64 (k : Int) ∧ v = .int .i64 (bestN l k : Int) ∧ Hid (Below w1.heap.size w1 wr)) (fun _ i _ => D + 1 - (intOf i).toNat)
  case atStart => exact ⟨0, by omega, rfl, rfl, Lib.hid (Below.refl _ _)⟩
  case round =>
    obtain ⟨k, hk, rfl, rfl, HB⟩ := hrel
    have hk0 : (0 : Int) ≤ (k : Int) := by omega
    by_cases hkn : k < D + 1
    · have hkn' : (k : Int) < ((D + 1 : Nat) : Int) := by omega
      have hbk : bestN l k < D + 1 := by
        by_cases h : 0 < k
        · have := bestN_lt l k h; omega
        · have := (bestN_props l k).2.1 (by omega); omega
      have hb0 : (0 : Int) ≤ (bestN l k : Int) := by omega
      have hbk' : (bestN l k : Int) < ((D + 1 : Nat) : Int) := by omega
      obtain ⟨cc, _, _, _⟩ := own_cell HO.out k hkn 0
      obtain ⟨cb, _, _, _⟩ := own_cell HO.out (bestN l k) hbk 0
      have cc' : wr.cell? ⟨g, k, none⟩ = some (.int .i64 (l.getD k 0)) := cell_keep HB.out cc
      have cb' : wr.cell? ⟨g, bestN l k, none⟩ = some (.int .i64 (l.getD (bestN l k) 0)) := cell_keep HB.out cb
      have HBN : Hid (bestN l (k + 1) = if l.getD k 0 < l.getD (bestN l k) 0 then k else bestN l k) := Lib.hid rfl
      clear cc cb
      generalize bestN l k = bk at *
      generalize l.getD k 0 = ck at *
      generalize l.getD bk 0 = cb at *
      by_cases hlt : ck < cb
      · rw [if_pos hlt] at HBN
        have hdl : decide (ck < cb) = true := decide_eq_true hlt
        clear hlt
        go_wp2_with fail
        go_quiet (fail)
        go_wp2_with fail
        go_roundw
        case rel => exact ⟨k + 1, by omega, by go_num, by rw [HBN.out], by exact Lib.hid (below_drewN HB.out _)⟩
        case measure => simp [intOf]; omega
      · rw [if_neg hlt] at HBN
        have hdl : decide (ck < cb) = false := decide_eq_false hlt
        clear hlt
        go_wp2_with fail
        go_quiet (fail)
        go_wp2_with fail
        go_roundw
        case rel => exact ⟨k + 1, by omega, by go_num, by rw [HBN.out], by exact Lib.hid (below_drewN HB.out _)⟩
        case measure => simp [intOf]; omega
    · obtain rfl : k = D + 1 := by omega
      have hkn' : ¬ (((D + 1 : Nat) : Int)) < ((D + 1 : Nat) : Int) := by omega
      have HB4 := Lib.hid (below_step HB1.out HB.out)
      go_wp2
      go_ret2
      exact ⟨rfl, HB4.out⟩
end Go.Proofs.Ytjfakdbgcinpcaa
