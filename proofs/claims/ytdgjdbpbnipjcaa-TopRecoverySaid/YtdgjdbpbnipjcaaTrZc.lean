/-
  CUSTODY: what an event does. (Printed by gen_trz.py.)
-/
import Derived.Test.YtdgjdbpbnipjcaaTrZ
import Derived.BigQuiet
import Derived.BigRegion
import Derived.Laws.StructEq
import Derived.StillTailTactics
import Derived.RegionTactic
import Derived.Deep.DeepCutAuto
import Derived.Deep.QuietTactic
import Derived.WalkSpells
import Derived.WalkLawsBesides
namespace Go.Proofs.Ytdgjdbpbnipjcaa
open Go.RowKit Go.Maps
set_option linter.unusedVariables false

set_option maxRecDepth 100000 in
set_option maxHeartbeats 4000000 in
theorem do_k7 {c : CuP} {B : Nat} {fl : FlL} {N : Nat} {w : World} {σ : StL} (h : CuW c B fl N w σ) (x : EvL) (bn : Nat) (hb : x.b = (bn : Int)) (hbn : bn < c.n) (hk : x.k = 7) (hr : (σ.sp.getD bn SpL.zero).w = 3 → InI (σ.sp.getD bn SpL.zero).r) :
    Calls Try.prog 31 #[.pointer (some ⟨c.g, 0, none⟩), .agg (evA x)] w (fun e w' => e = .returned (.tuple #[]) ∧ CuW c B fl (N + 2) w' (doS σ x) ∧ Below B w w') := by
  have HLV := Lib.hid (fun W (h : CuW c B fl N W σ) => leave_any h bn hbn ⟨4, x.p, 0, false⟩ hr)
  dsimp only [spA] at HLV
  obtain ⟨σ', hσ'⟩ : ∃ σ', doS σ x = σ' := ⟨_, rfl⟩
  rw [hσ']
  have HSI : Hid (leaveS σ bn ⟨4, x.p, 0, false⟩ = σ') := Lib.hid (by rw [← hσ']; unfold doS; rw [hb, hk, Int.toNat_natCast]; rfl)
  clear hσ' hr
  obtain ⟨d, s, a, l, k, b, p, r, e⟩ := x
  dsimp only at *
  subst hb
  subst hk
  dsimp only [evA, Int.toNat_natCast] at *
  have HD := Lib.hid (doW_new h #[.int .i64 d, .int .i64 s, .int .i64 a, .int .i64 l, .int .i64 7, .int .i64 (bn : Int), .int .i64 p, .int .i64 r, .int .i64 e] #[.int .i64 3, .int .i64 0, .int .i64 e, .bool false] 27 60)
  have HS := Lib.hid h
  clear h
  go_enter Try.func31, Try.ntmps31
  go_upto_region 2 with (fail)
  generalize (w.alloc (.cells #[.int .i64 d, .int .i64 s, .int .i64 a, .int .i64 l, .int .i64 7, .int .i64 (bn : Int), .int .i64 p, .int .i64 r, .int .i64 e] 27)).alloc (.cells #[.int .i64 3, .int .i64 0, .int .i64 e, .bool false] 60) = W2 at *
  obtain ⟨e0, e1, e2, e3, e4, e5, e6, e7, e8⟩ := nine_cellsE HD.out.e
  go_wp2_with fail
  refine (HLV.out _ HD.out.cu).mono ?_
  rintro e' w3 ⟨rfl, hc, hb⟩
  have HF := Lib.hid (And.intro (hc.mono (Nat.le_add_right N 2)) (HD.out.bel.trans hb))
  rw [HSI.out] at HF
  clear hc hb e0 e1 e2 e3 e4 e5 e6 e7 e8
  go_wp2_with fail
  go_end0
  exact ⟨rfl, HF.out.1, HF.out.2⟩
set_option maxRecDepth 100000 in
set_option maxHeartbeats 4000000 in
theorem do_k8 {c : CuP} {B : Nat} {fl : FlL} {N : Nat} {w : World} {σ : StL} (h : CuW c B fl N w σ) (x : EvL) (bn : Nat) (hb : x.b = (bn : Int)) (hbn : bn < c.n) (hk : x.k = 8) (hr : (σ.sp.getD bn SpL.zero).w = 3 → InI (σ.sp.getD bn SpL.zero).r) :
    Calls Try.prog 31 #[.pointer (some ⟨c.g, 0, none⟩), .agg (evA x)] w (fun e w' => e = .returned (.tuple #[]) ∧ CuW c B fl (N + 2) w' (doS σ x) ∧ Below B w w') := by
  have HLV := Lib.hid (fun W (h : CuW c B fl N W σ) => leave_any h bn hbn ⟨5, 0, 0, false⟩ hr)
  dsimp only [spA] at HLV
  obtain ⟨σ', hσ'⟩ : ∃ σ', doS σ x = σ' := ⟨_, rfl⟩
  rw [hσ']
  have HSI : Hid (leaveS σ bn ⟨5, 0, 0, false⟩ = σ') := Lib.hid (by rw [← hσ']; unfold doS; rw [hb, hk, Int.toNat_natCast]; rfl)
  clear hσ' hr
  obtain ⟨d, s, a, l, k, b, p, r, e⟩ := x
  dsimp only at *
  subst hb
  subst hk
  dsimp only [evA, Int.toNat_natCast] at *
  have HD := Lib.hid (doW_new h #[.int .i64 d, .int .i64 s, .int .i64 a, .int .i64 l, .int .i64 8, .int .i64 (bn : Int), .int .i64 p, .int .i64 r, .int .i64 e] #[.int .i64 3, .int .i64 0, .int .i64 e, .bool false] 27 60)
  have HS := Lib.hid h
  clear h
  go_enter Try.func31, Try.ntmps31
  go_upto_region 2 with (fail)
  generalize (w.alloc (.cells #[.int .i64 d, .int .i64 s, .int .i64 a, .int .i64 l, .int .i64 8, .int .i64 (bn : Int), .int .i64 p, .int .i64 r, .int .i64 e] 27)).alloc (.cells #[.int .i64 3, .int .i64 0, .int .i64 e, .bool false] 60) = W2 at *
  obtain ⟨e0, e1, e2, e3, e4, e5, e6, e7, e8⟩ := nine_cellsE HD.out.e
  go_wp2_with fail
  refine (HLV.out _ HD.out.cu).mono ?_
  rintro e' w3 ⟨rfl, hc, hb⟩
  have HF := Lib.hid (And.intro (hc.mono (Nat.le_add_right N 2)) (HD.out.bel.trans hb))
  rw [HSI.out] at HF
  clear hc hb e0 e1 e2 e3 e4 e5 e6 e7 e8
  go_wp2_with fail
  go_end0
  exact ⟨rfl, HF.out.1, HF.out.2⟩
set_option maxRecDepth 100000 in
set_option maxHeartbeats 4000000 in
theorem do_k9 {c : CuP} {B : Nat} {fl : FlL} {N : Nat} {w : World} {σ : StL} (h : CuW c B fl N w σ) (x : EvL) (bn : Nat) (hb : x.b = (bn : Int)) (hbn : bn < c.n) (hk : x.k = 9) (hr : (σ.sp.getD bn SpL.zero).w = 3 → InI (σ.sp.getD bn SpL.zero).r) :
    Calls Try.prog 31 #[.pointer (some ⟨c.g, 0, none⟩), .agg (evA x)] w (fun e w' => e = .returned (.tuple #[]) ∧ CuW c B fl (N + 2) w' (doS σ x) ∧ Below B w w') := by
  have HLV := Lib.hid (fun W (h : CuW c B fl N W σ) => leave_any h bn hbn ⟨6, 0, 0, false⟩ hr)
  dsimp only [spA] at HLV
  obtain ⟨σ', hσ'⟩ : ∃ σ', doS σ x = σ' := ⟨_, rfl⟩
  rw [hσ']
  have HSI : Hid (leaveS σ bn ⟨6, 0, 0, false⟩ = σ') := Lib.hid (by rw [← hσ']; unfold doS; rw [hb, hk, Int.toNat_natCast]; rfl)
  clear hσ' hr
  obtain ⟨d, s, a, l, k, b, p, r, e⟩ := x
  dsimp only at *
  subst hb
  subst hk
  dsimp only [evA, Int.toNat_natCast] at *
  have HD := Lib.hid (doW_new h #[.int .i64 d, .int .i64 s, .int .i64 a, .int .i64 l, .int .i64 9, .int .i64 (bn : Int), .int .i64 p, .int .i64 r, .int .i64 e] #[.int .i64 3, .int .i64 0, .int .i64 e, .bool false] 27 60)
  have HS := Lib.hid h
  clear h
  go_enter Try.func31, Try.ntmps31
  go_upto_region 2 with (fail)
  generalize (w.alloc (.cells #[.int .i64 d, .int .i64 s, .int .i64 a, .int .i64 l, .int .i64 9, .int .i64 (bn : Int), .int .i64 p, .int .i64 r, .int .i64 e] 27)).alloc (.cells #[.int .i64 3, .int .i64 0, .int .i64 e, .bool false] 60) = W2 at *
  obtain ⟨e0, e1, e2, e3, e4, e5, e6, e7, e8⟩ := nine_cellsE HD.out.e
  go_wp2_with fail
  refine (HLV.out _ HD.out.cu).mono ?_
  rintro e' w3 ⟨rfl, hc, hb⟩
  have HF := Lib.hid (And.intro (hc.mono (Nat.le_add_right N 2)) (HD.out.bel.trans hb))
  rw [HSI.out] at HF
  clear hc hb e0 e1 e2 e3 e4 e5 e6 e7 e8
  go_wp2_with fail
  go_end0
  exact ⟨rfl, HF.out.1, HF.out.2⟩
set_option maxRecDepth 100000 in
set_option maxHeartbeats 4000000 in
theorem do_ko {c : CuP} {B : Nat} {fl : FlL} {N : Nat} {w : World} {σ : StL} (h : CuW c B fl N w σ) (x : EvL) (bn : Nat) (hb : x.b = (bn : Int)) (hbn : bn < c.n) (hk : x.k ≠ 1 ∧ x.k ≠ 2 ∧ x.k ≠ 3 ∧ x.k ≠ 4 ∧ x.k ≠ 5 ∧ x.k ≠ 6 ∧ x.k ≠ 7 ∧ x.k ≠ 8 ∧ x.k ≠ 9) :
    Calls Try.prog 31 #[.pointer (some ⟨c.g, 0, none⟩), .agg (evA x)] w (fun e w' => e = .returned (.tuple #[]) ∧ CuW c B fl (N + 2) w' (doS σ x) ∧ Below B w w') := by
  obtain ⟨n1, n2, n3, n4, n5, n6, n7, n8, n9⟩ := hk
  obtain ⟨σ', hσ'⟩ : ∃ σ', doS σ x = σ' := ⟨_, rfl⟩
  rw [hσ']
  have HSI : Hid (σ = σ') := Lib.hid (by rw [← hσ']; unfold doS; simp [n1, n2, n3, n4, n5, n6, n7, n8, n9])
  clear hσ'
  obtain ⟨d, s, a, l, k, b, p, r, e⟩ := x
  dsimp only at *
  subst hb
  dsimp only [evA, Int.toNat_natCast] at *
  have HD := Lib.hid (doW_new h #[.int .i64 d, .int .i64 s, .int .i64 a, .int .i64 l, .int .i64 k, .int .i64 (bn : Int), .int .i64 p, .int .i64 r, .int .i64 e] #[.int .i64 3, .int .i64 0, .int .i64 e, .bool false] 27 60)
  have HS := Lib.hid h
  clear h
  go_enter Try.func31, Try.ntmps31
  go_upto_region 2 with (fail)
  generalize (w.alloc (.cells #[.int .i64 d, .int .i64 s, .int .i64 a, .int .i64 l, .int .i64 k, .int .i64 (bn : Int), .int .i64 p, .int .i64 r, .int .i64 e] 27)).alloc (.cells #[.int .i64 3, .int .i64 0, .int .i64 e, .bool false] 60) = W2 at *
  obtain ⟨e0, e1, e2, e3, e4, e5, e6, e7, e8⟩ := nine_cellsE HD.out.e
  have HF := Lib.hid (And.intro (HD.out.cu.mono (Nat.le_add_right N 2)) HD.out.bel)
  have hh := HSI.out
  subst hh
  clear e0 e1 e2 e3 e5 e6 e7 e8
  go_wp2_with fail
  go_end0
  exact ⟨rfl, HF.out.1, HF.out.2⟩
end Go.Proofs.Ytdgjdbpbnipjcaa
