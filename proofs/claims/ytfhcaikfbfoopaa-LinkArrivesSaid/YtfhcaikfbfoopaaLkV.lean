/-
  LINK, THE LAWS: the world's take.
-/
import Derived.Test.YtfhcaikfbfoopaaProg
import Derived.Test.YtfhcaikfbfoopaaBase1
import Derived.Test.YtfhcaikfbfoopaaBase2
import Derived.Test.YtfhcaikfbfoopaaBase3
import Derived.Test.YtfhcaikfbfoopaaBase5
import Derived.Test.YtfhcaikfbfoopaaBase6
import Derived.Test.YtfhcaikfbfoopaaBase11
import Derived.Test.YtfhcaikfbfoopaaBase14
import Derived.Test.YtfhcaikfbfoopaaHeld
import Derived.Test.YtfhcaikfbfoopaaFlat
import Derived.Test.YtfhcaikfbfoopaaLkP
import Derived.Test.YtfhcaikfbfoopaaLk1
import Derived.Test.YtfhcaikfbfoopaaLk2
import Derived.Test.YtfhcaikfbfoopaaLk3
import Derived.Test.YtfhcaikfbfoopaaLk4
import Derived.Test.YtfhcaikfbfoopaaLk5
import Derived.Test.YtfhcaikfbfoopaaLk6
import Derived.Test.YtfhcaikfbfoopaaLk7
import Derived.Test.YtfhcaikfbfoopaaLk8
import Derived.Test.YtfhcaikfbfoopaaLk9
import Derived.Test.YtfhcaikfbfoopaaLkT
import Derived.Test.YtfhcaikfbfoopaaLkS
import Derived.Test.YtfhcaikfbfoopaaLkM
import Derived.BigQuiet
import Derived.Laws.StructEq
import Derived.StillTailTactics
import Derived.RegionTactic
import Derived.BigRegion
import Derived.Deep.RegionHeld3
import Derived.Deep.RegionLaw
import Derived.Deep.LoopGhost
import Derived.Deep.DeepCutAuto
import Derived.Deep.QuietTactic
import Derived.WalkSpells
import Derived.WalkLawsBesides
namespace Go.Proofs.Ytfhcaikfbfoopaa
open Go.RowKit Go.Maps
set_option linter.unusedVariables false

/-- What the receiver answers to a frame of the messages. -/
theorem take_ans {all : List (List UInt8)} {k n cnt : Nat} {xs ys : List Bv} {f : Kf} {olds : List FrL} {aks : List Int} (h : MvA all k xs ys f olds aks n cnt) (j : Nat) (hj : j < all.length) (hc : cnt ≤ 10000) :
    ∃ o' q' er, takeA (ys.map Bv.bs) (absF f) (j : Int) (all.getD j []) = (o', q', er) ∧ RInv all o' q' ∧ ys.length ≤ o'.length ∧ (∀ i, Got (ys.map Bv.bs) (absF f) i → Got o' q' i) ∧ ((er = 0 ∧ Got o' q' j) ∨ (er = 8 ∧ ys.length + 16 ≤ j)) := by
  have hl := h.sz
  by_cases h16 : j < ys.length + 16
  · obtain ⟨o', q', e1, e2, e3, e4, e5⟩ := take_inv h.inv j hj (by omega) (h.len j) (by rw [List.length_map]; exact h16)
    rw [List.length_map] at e3
    exact ⟨o', q', 0, e1, e2, e3, e4, .inl ⟨rfl, e5⟩⟩
  · have e1 := take_full_inv (all := all) (q := absF f) (o := ys.map Bv.bs) j (all.getD j []) (by omega) (h.len j) (by rw [List.length_map]; omega)
    exact ⟨_, _, 8, e1, h.inv, by rw [List.length_map]; exact Nat.le_refl _, fun i hi => hi, .inr ⟨rfl, by omega⟩⟩
theorem mva_take {all : List (List UInt8)} {k n n' cnt : Nat} {xs ys ys' : List Bv} {f f' : Kf} {olds : List FrL} {aks : List Int} (h : MvA all k xs ys f olds aks n cnt) (j : Nat) (hj : j < all.length) (z : Bv) (hz : z.bs = all.getD j []) (hi : RInv all (ys'.map Bv.bs) (absF f')) (hl : ys.length ≤ ys'.length) (hn : n' ≤ n + 1) : MvA all k xs ys' f' (olds ++ [⟨(j : Int), z⟩]) aks n' (cnt + 1) := by
  refine ⟨Nat.le_trans h.kle hl, h.xe, hi, h.len, Nat.le_succ_of_le h.sz, h.x16, fun o ho => ?_, h.ak, by have := h.n; omega, by rw [List.length_append]; have := h.on; simp; omega, Nat.le_succ_of_le h.an⟩
  rcases List.mem_append.1 ho with ho | ho
  · exact h.old o ho
  · simp at ho; subst ho
    exact ⟨j, hj, rfl, hz⟩
theorem frA_oneV (x : FrL) : ∀ u ∈ (frA x).toList, u.oneCell' = true := frA_one x
section
variable {w W W' : World} {wb A g k r b n cnt : Nat} {v u sv ov av : Value} {xs ys : List Bv} {D : DataW Value} {f : Kf} {all : List (List UInt8)} {olds : List FrL} {aks : List Int}
/-- The blocks that take turns. -/
abbrev tF (wb : Nat) (ov : Value) (r b : Nat) (u : Value) : List Nat := wb :: (own ov ++ rF r b u)
theorem trPre {L L' : List Nat} {W1 W2 : World} (hb : Below W.heap.size W W1) (t : Hid (Tr L L' W1 W2)) (hn : NoU8 W L) : Hid (Tr L L' W W2) := Lib.hid ⟨(Fx.ofBelow hb).trans t.out.fx (fun k hk => .inl hk), fun j hj => (t.out.fresh j hj).imp id (fun e => Nat.le_trans hb.size e), hn⟩
theorem wtTr {W2 W3 W5 : World} {ov' u5 : Value} {n5 : Nat} {D5 : DataW Value} {ys5 : List Bv} {f5 : Kf} (h : Hid (MvW w wb A g v k xs r b u n D ys f sv ov av all olds aks W)) (t : Hid (Tr (rF r b u) (rF r b u5) W W5)) (h5 : Hid (MvW w wb A g v k xs r b u5 n5 D5 ys5 f5 sv ov av all olds aks W5)) (hb : Below W5.heap.size W5 W2) (hg : W2.grownBy W3 ov.ownBlock) (hf : Fresh W2 ov ov') : Hid (Tr (tF wb ov r b u) (tF wb ov' r b u5) W (W3.setCell ⟨wb, 3, none⟩ ov')) := by
  have h2 := mvBelow h5 hb
  have fx2 := (mvRow (i := 3) (x' := ov') h5 hb h2.out.od hg (by decide) (by decide) (by decide) (by decide) (by decide)).2.1
  have m1 : ∀ j ∈ rF r b u, j ∈ tF wb ov r b u := fun j hj => List.mem_cons_of_mem _ (List.mem_append_right _ hj)
  have m2 : ∀ j ∈ own ov, j ∈ tF wb ov r b u := fun j hj => List.mem_cons_of_mem _ (List.mem_append_left _ hj)
  refine Lib.hid ⟨((t.out.fx.mono m1).step hb).trans fx2 (fun j hj => .inl ?_), fun j hj => ?_, fun j hj => ?_⟩
  · rcases List.mem_cons.1 hj with rfl | hj
    · simp
    · exact m2 j hj
  · rcases List.mem_cons.1 hj with rfl | hj
    · exact .inl (by simp)
    rcases List.mem_append.1 hj with hj | hj
    · rcases hf j (mem_own.1 hj) with e | e
      · exact .inl (m2 j (mem_own.2 e))
      · exact .inr (Nat.le_trans t.out.fx.size (Nat.le_trans hb.size e))
    · exact (t.out.fresh j hj).imp (m1 j) id
  · rcases List.mem_cons.1 hj with rfl | hj
    · exact noTy_blk h.out.blk (by decide) _ (by simp)
    rcases List.mem_append.1 hj with hj | hj
    · exact noTy_own h.out.od (by decide) j hj
    · exact h.out.lk.rc.nou8 j hj
/-- What take leaves. -/
def WtRet (w W0 : World) (wb A g : Nat) (v : Value) (k : Nat) (xs : List Bv) (r b : Nat) (u : Value) (n cnt : Nat) (D : DataW Value) (ys : List Bv) (f : Kf) (sv ov av : Value) (all : List (List UInt8)) (olds : List FrL) (aks : List Int) (j : Nat) (now : Bool) (e : Ending) (W' : World) : Prop :=
  e = .returned (.bool true) ∧ ∃ u' n' D' ys' f' ov' olds', Hid (MvW w wb A g v k xs r b u' n' D' ys' f' sv ov' av all olds' aks W') ∧ Hid (MvA all k xs ys' f' olds' aks n' (cnt + 1)) ∧ Hid ((∀ i, Got (ys.map Bv.bs) (absF f) i → Got (ys'.map Bv.bs) (absF f') i) ∧ (now = true → Got (ys'.map Bv.bs) (absF f') j)) ∧ Hid (Tr (tF wb ov r b u) (tF wb ov' r b u') W0 W')
set_option maxRecDepth 100000 in
set_option maxHeartbeats 4000000 in
theorem wtake (h : Hid (MvW w wb A g v k xs r b u n D ys f sv ov av all olds aks W)) (hA : MvA all k xs ys f olds aks n cnt) (j : Nat) (hj : j < all.length) (z : Bv) (hz : BdOk W w.heap.size z) (hzb : z.bs = all.getD j []) (now : Bool) (hnow : now = true → j < ys.length + 16) (hc : cnt ≤ 10000) :
    Calls Try.prog 36 #[.pointer (some ⟨wb, 0, none⟩), .agg #[.int .i64 (j : Int), .slice z.a z.bs.length z.c], .bool now] W (WtRet w W wb A g v k xs r b u n cnt D ys f sv ov av all olds aks j now) := by
  obtain ⟨o', q', er, hta, hri, hlen9, hgot, her⟩ := take_ans hA j hj hc
  obtain ⟨za, zc, zb⟩ := z
  dsimp only at hz hzb ⊢
  rw [← hzb] at hta
  have HZ : Hid (BdOk W w.heap.size ⟨za, zc, zb⟩) := Lib.hid hz
  have HM1 := mvAlloc (o := .cells #[.int .i64 (j : Int), .slice za zb.length zc] 56) h
  have hF : Hid ((W.alloc (.cells #[.int .i64 (j : Int), .slice za zb.length zc] 56)).heap[W.heap.size]? = some (.cells #[.int .i64 (j : Int), .slice za zb.length zc] 56)) := Lib.hid (hp_new rfl)
  have HZ1 : Hid (BdOk (W.alloc (.cells #[.int .i64 (j : Int), .slice za zb.length zc] 56)) w.heap.size ⟨za, zc, zb⟩) := Lib.hid (hz.keep (L := []) (Fx.ofBelow (below_alloc _ _)) (fun j hj => by simp at hj))
  have hyl : ys.length ≤ all.length := by have := hA.inv.p.le; rw [List.length_map] at this; exact this
  have HTK : Hid (∀ W', Hid (MvW w wb A g v k xs r b u n D ys f sv ov av all olds aks W') → BdOk W' w.heap.size ⟨za, zc, zb⟩ → Calls Try.prog 29 #[.pointer (some ⟨r, 0, none⟩), .agg #[.int .i64 (j : Int), .slice za zb.length zc]] W' (fun e W'' => e = .returned (.int .i64 er) ∧ ∃ u' n' D' ys' f', n' ≤ n + 1 ∧ Hid (ys'.map Bv.bs = o' ∧ absF f' = q') ∧ Hid (LkW w g v k xs r b u' n' D' ys' f' W'') ∧ Hid (Tr (rF r b u) (rF r b u') W' W''))) := Lib.hid (fun W' h' hb' => lkwTakeAny (mvS h') (j : Int) za zb.length zc zb hb'.sl (by have := hA.sz; omega) (by have := hA.n; omega) (by have := hA.inv.w; rw [List.length_map] at this; exact key_abs rfl this) o' q' er (Lib.hid hta))
  have HB1 : Hid (Below W.heap.size W (W.alloc (.cells #[.int .i64 (j : Int), .slice za zb.length zc] 56))) := Lib.hid (below_alloc _ _)
  have H0 := Lib.hid h.out
  have HAA := Lib.hid hA
  have HRI := Lib.hid (And.intro hri (And.intro hlen9 hgot))
  have HJ := Lib.hid (And.intro hj hzb)
  have HER := Lib.hid her
  have HNW := Lib.hid hnow
  have hsz : olds.length ≤ 10000 := by have := hA.on; omega
  obtain ⟨c0, c1, c2, c3, c4, c5, fz⟩ := mvCells HM1
  obtain ⟨oa, oc, e, _⟩ := sl_of_own HM1.out.od
  subst e
  clear hta hri hlen9 hgot her hA hz hzb hj hnow hyl
  generalize hjj : (j : Int) = jj at *
  have HJJ := Lib.hid hjj
  clear hjj
  go_enter Try.func36, Try.ntmps36
  go_upto_region 1 with (fail)
  generalize W.alloc (.cells #[.int .i64 jj, .slice za zb.length zc] 56) = W1 at *
  obtain ⟨d0, d1, _, _⟩ := two_facts ⟨_, hF.out⟩
  go_cut [7] (fun e7 wx => e7 = .int .i64 er ∧ ∃ u' n' D' ys' f', Hid (n' ≤ n + 1) ∧ Hid (ys'.map Bv.bs = o' ∧ absF f' = q') ∧ Hid (MvW w wb A g v k xs r b u' n' D' ys' f' sv (.slice oa olds.length oc) av all olds aks wx) ∧ Hid (BdOk wx w.heap.size ⟨za, zc, zb⟩) ∧ Hid (wx.heap[W.heap.size]? = some (.cells #[.int .i64 jj, .slice za zb.length zc] 56)) ∧ Hid (Tr (rF r b u) (rF r b u') W wx))
  case first =>
    go_region_law (((rw [if_pos (by simp [Region.wanted])]); go_simp; go_at_call 29; (with_reducible refine (HTK.out _ (mvDrew HM1) ?_).mono ?_); (focus exact HZ1.out); rintro e w5 ⟨rfl, u5, n5, D5, ys5, f5, hn5, ha5, hl5, ht5⟩))
    all_goals
      have hmt := mvTake (mvDrew HM1) hl5 ht5
      have hz5 : BdOk w5 w.heap.size ⟨za, zc, zb⟩ := BdOk.keep (W := W1.drew) HZ1.out ht5.out.fx ht5.out.nou8
      have hf5 := blk_keepF (W := W1.drew) hF.out ht5.out.fx (notin_of (W := W1.drew) hF.out (noTy_r (mvDrew HM1).out.lk.rc _ (by decide) (by decide)))
      have HH := Lib.hid (And.intro hz5 hf5)
      have HT5 := trPre (below_step HB1.out (below_drew (Below.refl _ _))) ht5 H0.out.lk.rc.nou8
      have HN5 := Lib.hid hn5
      clear hz5 hf5 hn5
      go_wp2_with fail
      go_meet
      exact ⟨rfl, u5, n5, D5, ys5, f5, HN5, ha5, hmt, Lib.hid HH.out.1, Lib.hid HH.out.2, HT5⟩
  case rest =>
    obtain ⟨rfl, u5, n5, D5, ys5, f5, HN5, HA5, HM5, HZ5, HF5, HT5⟩ := hcut
    obtain ⟨W5, hW5⟩ : ∃ W', W' = wc := ⟨_, rfl⟩
    subst hW5
    clear c0 c1 c2 c3 c4 c5 fz d0 d1 HM1 HZ1 hF HTK h HZ
    obtain ⟨c0, c1, c2, c3, c4, c5, fz⟩ := mvCells HM5
    obtain ⟨d0, d1, _, _⟩ := two_facts ⟨_, HF5.out⟩
    have f3 := fz 3
    have hwW : w.heap.size ≤ W5.heap.size := HM5.out.lk.lo.size
    have hgW2 : wb < W5.heap.size := (Array.getElem?_eq_some_iff.1 HM5.out.blk).1
    have hgW3 : ¬ wb = W5.heap.size := by omega
    have c3a : ∀ o, (W5.alloc o).cell? ⟨wb, 3, none⟩ = some (.slice oa olds.length oc) := fun o => cell_keep (below_alloc W5 o) c3
    go_upto_region 2 with (fail)
    go_region_law? ((refine step_append_row _ rfl (.tmp 18) (.tmp 20) 47 rfl w.heap.size 56 (.agg #[.int .i64 0, .slice none 0 0]) 2 32 Try.underlying47 infoF rfl (by decide) (v := .slice oa olds.length oc) (n := olds.length) (xs := flatV frA olds) (by rfl) (mvAlloc (mvDrew HM5)).out.od (k := W5.heap.size) (C := #[.int .i64 jj, .slice za zb.length zc]) (by rfl) (by (repeat (first | ((with_reducible refine blkNew ?_); focus (simp; done)) | (with_reducible refine blkDrew ?_) | (with_reducible refine blkOld ?_)))) rfl (frA_one ⟨jj, ⟨za, zc, zb⟩⟩) (by unfold maxLen; omega) (by omega) (by first | (simp; done) | (simp; omega)) ?_); intro v9 w9 ho9 hg9 hf9; obtain ⟨a9, n9, e9, _⟩ := sl_of_own ho9; subst e9; have hblk := (mvRow (i := 3) (x' := .int .i64 0) HM5 (below_step (below_drew (Below.refl _ _)) (below_alloc W5.drew (.cells #[.int .i64 jj, .slice za zb.length zc] 56))) (mvAlloc (mvDrew HM5)).out.od hg9 (by decide) (by decide) (by decide) (by decide) (by decide)).2.2.2.2; have c9 : w9.cell? ⟨wb, 3, none⟩ = some (.slice oa olds.length oc) := (by rw [cell_of_row _ _ _ _ _ _ hblk]; rfl); have f9 : w9.frozen? ⟨wb, 3, none⟩ = false := frozen_of_row _ _ _ _ _ hblk; have HO9 := Lib.hid (And.intro ho9 (And.intro hg9 hf9)); clear ho9 hg9 hf9 hblk)
    all_goals
      have hmo := mvOld (o := ⟨jj, ⟨za, zc, zb⟩⟩) HM5 (below_step (below_drew (Below.refl _ _)) (below_alloc W5.drew (.cells #[.int .i64 jj, .slice za zb.length zc] 56))) HO9.out.1 HO9.out.2.1 HZ5.out
      have HMO := Lib.hid hmo
      have HTR := wtTr (Lib.hid H0.out) HT5 HM5 (below_step (below_drew (Below.refl _ _)) (below_alloc W5.drew (.cells #[.int .i64 jj, .slice za zb.length zc] 56))) HO9.out.2.1 HO9.out.2.2
      clear hmo HO9 c3a c0 c1 c2 c3 c4 c5 fz d0 d1 f3
      have hmv := mva_take (ys' := ys5) (f' := f5) (n' := n5) HAA.out j HJ.out.1 ⟨za, zc, zb⟩ HJ.out.2 (by rw [HA5.out.1, HA5.out.2]; exact HRI.out.1) (by have := HRI.out.2.1; rw [← HA5.out.1, List.length_map] at this; exact this) HN5.out
      rw [HJJ.out] at hmv
      have hgt : ∀ i, Got (ys.map Bv.bs) (absF f) i → Got (ys5.map Bv.bs) (absF f5) i := fun i hi => by rw [HA5.out.1, HA5.out.2]; exact HRI.out.2.2 i hi
      have HMV := Lib.hid (And.intro hmv hgt)
      clear hmv hgt
      rcases HER.out with ⟨he, hg⟩ | ⟨he, hge⟩
      · have HG := Lib.hid hg
        subst he
        clear hg
        go_wp2
        go_ret
        exact ⟨rfl, u5, n5, D5, ys5, f5, _, _, HMO.out, Lib.hid HMV.out.1, Lib.hid ⟨HMV.out.2, fun _ => by rw [HA5.out.1, HA5.out.2]; exact HG.out⟩, HTR⟩
      · cases now with
        | true => exact absurd (HNW.out rfl) (by omega)
        | false =>
          subst he
          clear hge
          go_wp2
          go_ret
          exact ⟨rfl, u5, n5, D5, ys5, f5, _, _, HMO.out, Lib.hid HMV.out.1, Lib.hid ⟨HMV.out.2, fun h => by cases h⟩, HTR⟩
end
end Go.Proofs.Ytfhcaikfbfoopaa
