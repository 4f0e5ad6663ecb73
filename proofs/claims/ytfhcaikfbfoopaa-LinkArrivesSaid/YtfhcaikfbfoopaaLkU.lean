/-
  LINK, THE LAWS: the world's move: what is common; kind 0, and a kind that is none.
-/
import Derived.Test.YtfhcaikfbfoopaaProg
import Derived.Test.YtfhcaikfbfoopaaBase1
import Derived.Test.YtfhcaikfbfoopaaBase2
import Derived.Test.YtfhcaikfbfoopaaBase3
import Derived.Test.YtfhcaikfbfoopaaBase5
import Derived.Test.YtfhcaikfbfoopaaBase6
import Derived.Test.YtfhcaikfbfoopaaBase11
import Derived.Test.YtfhcaikfbfoopaaBase14
import Derived.Test.YtfhcaikfbfoopaaHeld
import Derived.Test.YtfhcaikfbfoopaaFlat
import Derived.Test.YtfhcaikfbfoopaaLkP
import Derived.Test.YtfhcaikfbfoopaaLk1
import Derived.Test.YtfhcaikfbfoopaaLk2
import Derived.Test.YtfhcaikfbfoopaaLk3
import Derived.Test.YtfhcaikfbfoopaaLk4
import Derived.Test.YtfhcaikfbfoopaaLk5
import Derived.Test.YtfhcaikfbfoopaaLk6
import Derived.Test.YtfhcaikfbfoopaaLk7
import Derived.Test.YtfhcaikfbfoopaaLk8
import Derived.Test.YtfhcaikfbfoopaaLk9
import Derived.Test.YtfhcaikfbfoopaaLkT
import Derived.Test.YtfhcaikfbfoopaaLkS
import Derived.Test.YtfhcaikfbfoopaaLkM
import Derived.Test.YtfhcaikfbfoopaaLkV
import Derived.BigQuiet
import Derived.Laws.StructEq
import Derived.StillTailTactics
import Derived.RegionTactic
import Derived.BigRegion
import Derived.Deep.RegionHeld3
import Derived.Deep.RegionLaw
import Derived.Deep.LoopGhost
import Derived.Deep.DeepCutAuto
import Derived.Deep.QuietTactic
import Derived.WalkSpells
import Derived.WalkLawsBesides
namespace Go.Proofs.Ytfhcaikfbfoopaa
open Go.RowKit Go.Maps
set_option linter.unusedVariables false

/-- The world of the link, and what it says. -/
def MvSt (w : World) (wb g r b cnt : Nat) (W : World) : Prop := ∃ (v : Value) (k : Nat) (xs : List Bv) (u : Value) (n : Nat) (D : DataW Value) (ys : List Bv) (f : Kf) (sv ov av : Value) (all : List (List UInt8)) (olds : List FrL) (aks : List Int),
  MvW w wb k g v k xs r b u n D ys f sv ov av all olds aks W ∧ MvA all k xs ys f olds aks n cnt
theorem mva_same {all : List (List UInt8)} {k n cnt : Nat} {xs ys : List Bv} {f : Kf} {olds : List FrL} {aks : List Int} (h : MvA all k xs ys f olds aks n cnt) : MvA all k xs ys f olds aks n (cnt + 1) := ⟨h.kle, h.xe, h.inv, h.len, Nat.le_succ_of_le h.sz, h.x16, h.old, h.ak, Nat.le_succ_of_le h.n, Nat.le_succ_of_le h.on, Nat.le_succ_of_le h.an⟩
theorem mva_sum {all : List (List UInt8)} {k n cnt : Nat} {xs ys : List Bv} {f : Kf} {olds : List FrL} {aks : List Int} (h : MvA all k xs ys f olds aks n cnt) : k + xs.length = all.length ∧ k ≤ all.length ∧ ys.length ≤ all.length := by
  have h1 := congrArg List.length h.xe
  rw [List.length_map, List.length_drop] at h1
  have h2 := h.inv.p.le
  rw [List.length_map] at h2
  have := h.kle
  omega
theorem mva_small {all : List (List UInt8)} {k n cnt : Nat} {xs ys : List Bv} {f : Kf} {olds : List FrL} {aks : List Int} (h : MvA all k xs ys f olds aks n cnt) : (∀ x ∈ xs, x.bs.length ≤ 256) ∧ ∀ x ∈ ys, x.bs.length ≤ 256 := by
  have key : ∀ bs ∈ all, bs.length ≤ 256 := fun bs hb => by
    obtain ⟨j, hj, e⟩ := List.getElem_of_mem hb
    have := h.len j
    rw [List.getD_eq_getElem?_getD, List.getElem?_eq_getElem hj, Option.getD_some, e] at this
    exact this
  refine ⟨fun x hx => key _ ?_, fun x hx => key _ ?_⟩
  · have : x.bs ∈ all.drop k := by rw [← h.xe]; exact List.mem_map.2 ⟨x, hx, rfl⟩
    exact List.mem_of_mem_drop this
  · have : x.bs ∈ all.take (ys.map Bv.bs).length := by rw [← h.inv.p.oo]; exact List.mem_map.2 ⟨x, hx, rfl⟩
    exact List.mem_of_mem_take this
theorem getD_app (all : List (List UInt8)) (bs : List UInt8) (j : Nat) (hj : j < all.length) : (all ++ [bs]).getD j [] = all.getD j [] := by
  rw [List.getD_eq_getElem?_getD, List.getD_eq_getElem?_getD, List.getElem?_append_left hj]
/-- A message more is put. -/
theorem mva_put {all : List (List UInt8)} {k n cnt : Nat} {xs ys : List Bv} {f : Kf} {olds : List FrL} {aks : List Int} (h : MvA all k xs ys f olds aks n cnt) (x : Bv) (hx : x.bs.length ≤ 256) (h16 : xs.length < 16) (hc : all.length < cnt + 1) : MvA (all ++ [x.bs]) k (xs ++ [x]) ys f olds aks n (cnt + 1) := by
  obtain ⟨hs, hk, hy⟩ := mva_sum h
  refine ⟨h.kle, ?_, ⟨⟨?_, ?_, fun j y e => ?_⟩, h.inv.n, h.inv.w⟩, fun j => ?_, ?_, ?_, fun o ho => ?_, h.ak, Nat.le_succ_of_le h.n, Nat.le_succ_of_le h.on, Nat.le_succ_of_le h.an⟩
  · rw [List.map_append, List.drop_append_of_le_length hk, h.xe]; rfl
  · have := h.inv.p.oo
    rw [List.take_append_of_le_length (by rw [List.length_map]; exact hy)]
    exact this
  · have := h.inv.p.le; rw [List.length_append]; omega
  · obtain ⟨a, b, c⟩ := h.inv.p.k j y e
    exact ⟨a, by rw [List.length_append]; omega, by rw [getD_app all _ j b]; exact c⟩
  · rcases Nat.lt_or_ge j all.length with hj | hj
    · rw [getD_app all _ j hj]; exact h.len j
    · rw [List.getD_eq_getElem?_getD, List.getElem?_append_right hj]
      cases e : j - all.length with
      | zero => simpa using hx
      | succ m => simp
  · rw [List.length_append]; simp; omega
  · rw [List.length_append]; simp; omega
  · obtain ⟨j, hj, e1, e2⟩ := h.old o ho
    exact ⟨j, by rw [List.length_append]; omega, e1, by rw [getD_app all _ j hj]; exact e2⟩
theorem frW_newR {w W W' : World} {g k r b n k' : Nat} {v u fu : Value} {xs ys zs : List Bv} {D : DataW Value} {f : Kf} (h : Hid (LkW w g v k xs r b u n D ys f W)) (hf : FrsAt W.heap.size W' fu k' zs) : FrW W.heap.size fu k' zs (rF r b u) W' := ⟨hf, fun j hj hj' => absurd (h.out.rc.lt j hj').1 (Nat.not_lt.2 (own_ltF hf.row (mem_own.1 hj)).2.1)⟩
section
variable {w W : World} {wb g k r b n cnt : Nat} {v u sv ov av : Value} {xs ys : List Bv} {D : DataW Value} {f : Kf} {all : List (List UInt8)} {olds : List FrL} {aks : List Int}
set_option maxRecDepth 100000 in
set_option maxHeartbeats 8000000 in
theorem move_none (h : Hid (MvW w wb k g v k xs r b u n D ys f sv ov av all olds aks W)) (hA : MvA all k xs ys f olds aks n cnt) (hc : cnt ≤ 1000) (N : Int) (K : Int) (hK : K ≠ 0 ∧ K ≠ 1 ∧ K ≠ 2 ∧ K ≠ 3 ∧ K ≠ 4) :
    Calls Try.prog 34 #[.pointer (some ⟨wb, 0, none⟩), .agg #[.int .i64 K, .int .i64 N]] W (fun e W' => e = .returned (.bool true) ∧ Hid (MvSt w wb g r b (cnt + 1) W')) := by
  obtain ⟨k0, k1, k2, k3, k4⟩ := hK
  have HA := Lib.hid hA
  have HM1 := mvAlloc (o := .cells #[.int .i64 K, .int .i64 N] 71) h
  have hF : Hid ((W.alloc (.cells #[.int .i64 K, .int .i64 N] 71)).heap[W.heap.size]? = some (.cells #[.int .i64 K, .int .i64 N] 71)) := Lib.hid (hp_new rfl)
  obtain ⟨hsm, hkl, hyl⟩ := mva_sum hA
  have hsz := hA.sz
  have h16 := hA.x16
  have HSZ := Lib.hid (And.intro hsm (And.intro hkl (And.intro hyl hsz)))
  have HSM := Lib.hid (mva_small hA)
  have hk9 : (k : Int) ≤ 1048576 := by omega
  clear hA hsm hkl hyl hsz
  obtain ⟨c0, c1, c2, c3, c4, c5, fz⟩ := mvCells HM1
  go_enter Try.func34, Try.ntmps34
  go_upto_region 1 with (fail)
  generalize W.alloc (.cells #[.int .i64 K, .int .i64 N] 71) = W1 at *
  generalize W.heap.size = mb at *
  clear h
  go_wp2_with fail
  refine (frames_any (lkwS (mvS HM1)) hk9 h16 HSM.out.1).mono ?_
  rintro e w2 ⟨fa, fc, zs, rfl, hz, hf, hb2⟩
  have HM2 := mvBelow HM1 hb2
  have HF2 : Hid (w2.heap[mb]? = some (.cells #[.int .i64 K, .int .i64 N] 71)) := Lib.hid (blk_keepF (L := []) hF.out (Fx.ofBelow hb2) (by simp))
  have HZS := Lib.hid hz
  have HFR := Lib.hid (frW_newR (mvS HM1) hf.out)
  have HW0 := Lib.hid HM1.out.lk.lo.size
  clear c0 c1 c2 c3 c4 c5 fz hF HM1 hz hf hb2 hk9
  obtain ⟨c0, c1, c2, c3, c4, c5, fz⟩ := mvCells HM2
  obtain ⟨d0, d1, _, _⟩ := two_facts ⟨_, HF2.out⟩
  go_wp2
  go_ret
  exact ⟨rfl, Lib.hid ⟨v, k, xs, u, n, D, ys, f, sv, ov, av, all, olds, aks, HM2.out, mva_same HA.out⟩⟩
set_option maxRecDepth 100000 in
set_option maxHeartbeats 8000000 in
theorem move_put (h : Hid (MvW w wb k g v k xs r b u n D ys f sv ov av all olds aks W)) (hA : MvA all k xs ys f olds aks n cnt) (hc : cnt ≤ 1000) (N : Int) :
    Calls Try.prog 34 #[.pointer (some ⟨wb, 0, none⟩), .agg #[.int .i64 0, .int .i64 N]] W (fun e W' => e = .returned (.bool true) ∧ Hid (MvSt w wb g r b (cnt + 1) W')) := by
  obtain ⟨c, hcw⟩ : ∃ c : UInt8, N % 256 = (c.toNat : Int) := ⟨UInt8.ofNat (N % 256).toNat, by
    have h1 : 0 ≤ N % 256 := Int.emod_nonneg _ (by decide)
    have h2 : N % 256 < 256 := Int.emod_lt_of_pos _ (by decide)
    rw [UInt8.toNat_ofNat']
    omega⟩
  have HA := Lib.hid hA
  have HM1 := mvAlloc (o := .cells #[.int .i64 0, .int .i64 N] 71) h
  have hF : Hid ((W.alloc (.cells #[.int .i64 0, .int .i64 N] 71)).heap[W.heap.size]? = some (.cells #[.int .i64 0, .int .i64 N] 71)) := Lib.hid (hp_new rfl)
  obtain ⟨hsm, hkl, hyl⟩ := mva_sum hA
  have hsz := hA.sz
  have h16 := hA.x16
  have HSZ := Lib.hid (And.intro hsm (And.intro hkl (And.intro hyl hsz)))
  have HSM := Lib.hid (mva_small hA)
  have hk9 : (k : Int) ≤ 1048576 := by omega
  clear hA hsm hkl hyl hsz
  obtain ⟨c0, c1, c2, c3, c4, c5, fz⟩ := mvCells HM1
  go_enter Try.func34, Try.ntmps34
  go_upto_region 1 with (fail)
  generalize W.alloc (.cells #[.int .i64 0, .int .i64 N] 71) = W1 at *
  generalize W.heap.size = mb at *
  clear h
  go_wp2_with fail
  refine (frames_any (lkwS (mvS HM1)) hk9 h16 HSM.out.1).mono ?_
  rintro e w2 ⟨fa, fc, zs, rfl, hz, hf, hb2⟩
  have HM2 := mvBelow HM1 hb2
  have HF2 : Hid (w2.heap[mb]? = some (.cells #[.int .i64 0, .int .i64 N] 71)) := Lib.hid (blk_keepF (L := []) hF.out (Fx.ofBelow hb2) (by simp))
  have HZS := Lib.hid hz
  have HFR := Lib.hid (frW_newR (mvS HM1) hf.out)
  have HW0 := Lib.hid HM1.out.lk.lo.size
  clear c0 c1 c2 c3 c4 c5 fz hF HM1 hz hf hb2 hk9
  obtain ⟨c0, c1, c2, c3, c4, c5, fz⟩ := mvCells HM2
  obtain ⟨d0, d1, _, _⟩ := two_facts ⟨_, HF2.out⟩
  go_upto_region 5 with (fail)
  have HM3 := mvAlloc (o := .cells #[b8 c] 5) HM2
  have HS3 := Lib.hid (sl_lit (f := b8) w2 5 [c] #[b8 c] rfl 1 rfl (by omega))
  have HB3 : Hid (BdOk (w2.alloc (.cells #[b8 c] 5)) w.heap.size ⟨some ⟨w2.heap.size, 0, none⟩, 1, [c]⟩) := Lib.hid ⟨rfl, .inr ⟨w2.heap.size, 1, #[b8 c], rfl, HM2.out.lk.lo.size, hp_new rfl, Nat.le_refl _, by unfold maxLen; omega, rfl, rfl⟩⟩
  by_cases hful : xs.length = 16
  · have hful' : (16 : Int) ≤ (xs.length : Int) := by omega
    have hful2 : (xs.length : Int) = 16 := by omega
    clear c0 c1 c2 c3 c4 c5 fz
    obtain ⟨c0, c1, c2, c3, c4, c5, fz⟩ := mvCells HM3
    generalize w2.alloc (.cells #[b8 c] 5) = w3 at *
    generalize w2.heap.size = lb at *
    go_wp2_with fail
    refine (put_full (lkwS (mvS HM3)) _ 1 1 hful').mono ?_
    rintro e w4 ⟨rfl, hw4⟩
    subst w4
    go_wp2
    go_ret
    exact ⟨rfl, Lib.hid ⟨v, k, xs, u, n, D, ys, f, sv, ov, av, all, olds, aks, HM3.out, mva_same HA.out⟩⟩
  · clear c0 c1 c2 c3 c4 c5 fz d0 d1
    obtain ⟨c0, c1, c2, c3, c4, c5, fz⟩ := mvCells HM3
    generalize w2.alloc (.cells #[b8 c] 5) = w3 at *
    generalize w2.heap.size = lb at *
    go_wp2_with fail
    refine (lkwPut (mvS HM3) _ 1 1 [c] HS3.out (by omega) (by decide) (by have := HSZ.out; omega) (all.length : Int) (by have := HSZ.out.1; omega)).mono ?_
    rintro e w4 ⟨rfl, v4, x4, hx4, HL4, HT4⟩
    have HM4 := mvSnd HM3 HL4 HT4
    have HB4 := Lib.hid (BdOk.keep HB3.out HT4.out.fx HT4.out.nou8)
    have HX4 := Lib.hid hx4
    clear c0 c1 c2 c3 c4 c5 fz HB3 HS3 HL4 HT4 hx4 HM3 HM2 HF2 HFR hcw
    obtain ⟨c0, c1, c2, c3, c4, c5, fz⟩ := mvCells HM4
    obtain ⟨sa, sc, e, _⟩ := sl_of_own HM4.out.st
    subst e
    have f2 := fz 2
    have hwW : w.heap.size ≤ w4.heap.size := HM4.out.lk.lo.size
    have hgW2 : wb < w4.heap.size := (Array.getElem?_eq_some_iff.1 HM4.out.blk).1
    have hgW3 : ¬ wb = w4.heap.size := by omega
    have c2a : ∀ o, (w4.alloc o).cell? ⟨wb, 2, none⟩ = some (.slice sa all.length sc) := fun o => cell_keep (below_alloc w4 o) c2
    have hal : all.length ≤ 1000 := by have := HSZ.out; omega
    have hcv : ∀ m, (convert 22 9 (.slice (some ⟨lb, 0, none⟩) 1 1)).run Try.prog (w4.drewN m) = .ok (.string ⟨[c].toArray⟩) (w4.drewN m) := fun m => run_b2s (w4.drewN m) 22 9 5 Try.underlying22 Try.underlying9 Try.underlying5 (HB4.out.sl.ext (below_drewN (Below.refl _ _) m))
    have hcv1 := hcv 1
    have hcv2 : (convert 22 9 (.slice (some ⟨lb, 0, none⟩) 1 1)).run Try.prog w4.drew = .ok (.string ⟨[c].toArray⟩) w4.drew := run_b2s w4.drew 22 9 5 Try.underlying22 Try.underlying9 Try.underlying5 (HB4.out.sl.ext (below_drew (Below.refl _ _)))
    go_upto_region 7 with (fail)
    go_region_law ((refine step_append_row _ rfl (.tmp 37) (.tmp 40) 33 rfl w.heap.size 9 (.string ⟨#[]⟩) 1 16 Try.underlying33 infoS rfl (by decide) (v := .slice sa all.length sc) (n := all.length) (xs := cs stb all) (by rfl) (mvAlloc (mvDrew HM4)).out.st (k := w4.heap.size) (C := #[.string ⟨[c].toArray⟩]) (by rfl) (by (repeat (first | ((with_reducible refine blkNew ?_); focus (simp; done)) | (with_reducible refine blkDrew ?_) | (with_reducible refine blkOld ?_)))) rfl (stb_all [c]) (by unfold maxLen; omega) (by omega) (by first | (simp; done) | (simp; omega)) ?_); intro v9 w9 ho9 hg9 hf9; obtain ⟨a9, n9, e9, _⟩ := sl_of_own ho9; subst e9; have hblk := (mvRow (i := 2) (x' := .int .i64 0) HM4 (below_step (below_drew (Below.refl _ _)) (below_alloc w4.drew (.cells #[.string ⟨[c].toArray⟩] 9))) (mvAlloc (mvDrew HM4)).out.st hg9 (by decide) (by decide) (by decide) (by decide) (by decide)).2.2.2.2; have c9 : w9.cell? ⟨wb, 2, none⟩ = some (.slice sa all.length sc) := (by rw [cell_of_row _ _ _ _ _ _ hblk]; rfl); have f9 : w9.frozen? ⟨wb, 2, none⟩ = false := frozen_of_row _ _ _ _ _ hblk; have HO9 := Lib.hid (And.intro ho9 hg9); clear ho9 hg9 hf9 hblk)
    all_goals
      have hmo := mvSent (bs := [c]) HM4 (below_step (below_drew (Below.refl _ _)) (below_alloc w4.drew (.cells #[.string ⟨[c].toArray⟩] 9))) HO9.out.1 HO9.out.2
      have HMO := Lib.hid hmo.out
      have hmp := mva_put HA.out x4 (by rw [HX4.out]; simp) (by omega) (by have := HSZ.out; omega)
      rw [HX4.out] at hmp
      have HMP := Lib.hid hmp
      clear hmo hmp HO9 c2a c0 c1 c2 c3 c4 c5 fz f2 hcv hcv1 hcv2
      obtain ⟨c0, c1, c2, c3, c4, c5, fz⟩ := mvCells (Lib.hid HMO.out)
      have hal0 : (all.length : Int) ≤ 1000 := by omega
      have hal1 : (0 : Int) ≤ (all.length : Int) := by omega
      go_wp2
      go_ret
      exact ⟨rfl, Lib.hid ⟨v4, k, xs ++ [x4], u, n, D, ys, f, _, ov, av, all ++ [[c]], olds, aks, HMO.out, HMP.out⟩⟩
end
end Go.Proofs.Ytfhcaikfbfoopaa
