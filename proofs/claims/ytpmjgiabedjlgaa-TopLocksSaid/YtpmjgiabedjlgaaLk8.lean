/-
  LINK: Take of a new body, the walk.
-/
import Derived.Test.YtpmjgiabedjlgaaProg
import Derived.Test.YtpmjgiabedjlgaaBase7
import Derived.Test.YtpmjgiabedjlgaaBase11
import Derived.Test.YtpmjgiabedjlgaaBase14
import Derived.Test.YtpmjgiabedjlgaaLk2
import Derived.Test.YtpmjgiabedjlgaaLk5
import Derived.Test.YtpmjgiabedjlgaaLk6
import Derived.Test.YtpmjgiabedjlgaaLk7
import Derived.BigQuiet
import Derived.Laws.StructEq
import Derived.StillTailTactics
import Derived.RegionTactic
import Derived.BigRegion
import Derived.Deep.RegionHeld3
import Derived.Deep.RegionLaw
import Derived.Deep.LoopGhost
import Derived.Deep.DeepCutAuto
import Derived.Deep.QuietTactic
import Derived.WalkSpells
import Derived.WalkLawsBesides
namespace Go.Proofs.Ytpmjgiabedjlgaa
open Go.RowKit Go.Maps
set_option linter.unusedVariables false

theorem stop_here8 {p : Prop} (h : Hid p) : p := h.out
/-- What Take of a new body leaves. -/
structure TkRet (B r b n : Nat) (v : Value) (xs : List Bv) (f : Kf) (s : Nat) (bs : List UInt8) (W W' : World) (v' : Value) (n' : Nat) (D' : DataW Value) (xs' : List Bv) (f' : Kf) : Prop where
  at_ : RecAt B W' r v' b n' D' xs' f'
  fx : Fx (rF r b v) W W'
  fresh : ∀ j ∈ own v', j ∈ own v ∨ W.heap.size ≤ j
  cnt : n' ≤ n + 1
  new : ∀ x ∈ xs', x ∈ xs ∨ (∃ k, f k = some x) ∨ ∀ j, (bsv x).ownBlock = some j → W.heap.size ≤ j
  ans : (xs'.map Bv.bs, absF f') = drain 17 (xs.map Bv.bs) (fun j => if j = s then some bs else absF f j)
/-- The loop's state. -/
structure TkLoop (B r b n : Nat) (v : Value) (xs : List Bv) (f : Kf) (s : Nat) (bs : List UInt8) (W : World) (gk : Nat) (W' : World) (v' : Value) (n' : Nat) (D' : DataW Value) (xs' : List Bv) (f' : Kf) : Prop where
  at_ : RecAt B W' r v' b n' D' xs' f'
  fx : Fx (rF r b v) W W'
  fresh : ∀ j ∈ own v', j ∈ own v ∨ W.heap.size ≤ j
  cnt : n' ≤ n + 1
  newx : ∀ x ∈ xs', x ∈ xs ∨ (∃ k, f k = some x) ∨ ∀ j, (bsv x).ownBlock = some j → W.heap.size ≤ j
  newf : ∀ k x, f' k = some x → (∃ k, f k = some x) ∨ ∀ j, (bsv x).ownBlock = some j → W.heap.size ≤ j
  len : xs'.length + gk = xs.length + 17
  key : ∀ k x, f' k = some x → k < xs.length + 16
  ans : drain gk (xs'.map Bv.bs) (absF f') = drain 17 (xs.map Bv.bs) (fun j => if j = s then some bs else absF f j)
theorem tkLoop_end {B r b n s gk n' : Nat} {v v' : Value} {xs xs' : List Bv} {f f' : Kf} {bs : List UInt8} {W W' W'' : World} {D' : DataW Value} (h : TkLoop B r b n v xs f s bs W gk W' v' n' D' xs' f') (hn : f' xs'.length = none) (m : Nat) (hW : W'' = W'.drewN m) : TkRet B r b n v xs f s bs W W'' v' n' D' xs' f' := by
  subst hW
  refine ⟨h.at_.below (below_drewN (Below.refl _ _) m), h.fx.drewN m, h.fresh, h.cnt, h.newx, ?_⟩
  rw [← h.ans]
  exact (drain_none (by rw [List.length_map]; unfold absF; rw [hn]; rfl)).symm
theorem tkLoop_next {B r b n s gk n' : Nat} {v v' v'' : Value} {xs xs' : List Bv} {f f' : Kf} {bs : List UInt8} {x : Bv} {W W' W1 W2 W3 W4 : World} {D' D'' : DataW Value} (h : TkLoop B r b n v xs f s bs W gk W' v' n' D' xs' f') (hx : f' xs'.length = some x)
    (hb1 : Below W'.heap.size W' W1) (hm : kmap W2 b n' D'') (ha : kAt D'' (fun j => if j = xs'.length then none else f' j)) (ht : W1.mapTurned W2 b)
    (hb3 : Below W2.heap.size W2 W3) (ho : W4.ownsRow B 22 1 v'' (xs'.length + 1) (cs bsv xs' ++ [bsv x])) (hg : W3.grownBy W4 v'.ownBlock) (hf : Fresh W3 v' v'') :
    ∃ g', g' < gk ∧ TkLoop B r b n v xs f s bs W g' (W4.setCell ⟨r, 0, none⟩ v'') v'' n' D'' (xs' ++ [x]) (fun j => if j = xs'.length then none else f' j) := by
  obtain ⟨r1, fx1, hb⟩ := rec_del h.at_ hb1 hm ha ht
  obtain ⟨r2, fx2, fr2⟩ := rec_app r1 (hb _ _ hx) hb3 ho hg hf
  have hk := h.key _ _ hx
  have hl := h.len
  obtain ⟨g', rfl⟩ : ∃ g', gk = g' + 1 := ⟨gk - 1, by omega⟩
  have hlt := h.at_.lt
  have hs : W.heap.size ≤ W'.heap.size := h.fx.size
  have hsub : ∀ k ∈ rF r b v', k ∈ rF r b v ∨ W.heap.size ≤ k := fun k hk => by
    rcases List.mem_cons.1 hk with rfl | hk
    · exact .inl (by simp)
    rcases List.mem_cons.1 hk with rfl | hk
    · exact .inl (by simp)
    · rcases h.fresh k hk with e | e
      · exact .inl (List.mem_cons_of_mem _ (List.mem_cons_of_mem _ e))
      · exact .inr e
  refine ⟨g', Nat.lt_succ_self _, ⟨r2, (h.fx.trans fx1 hsub).trans fx2 hsub, fun j hj => ?_, h.cnt, fun y hy => ?_, fun k y e => ?_, by rw [List.length_append]; simp; omega, fun k y e => ?_, ?_⟩⟩
  · rcases fr2 j hj with e | e
    · exact h.fresh j e
    · exact .inr (Nat.le_trans hs (Nat.le_trans fx1.size e))
  · rcases List.mem_append.1 hy with hy | hy
    · exact h.newx y hy
    · simp at hy
      subst hy
      exact .inr (h.newf _ _ hx)
  · by_cases e' : k = xs'.length
    · rw [if_pos e'] at e; cases e
    · rw [if_neg e'] at e; exact h.newf k y e
  · by_cases e' : k = xs'.length
    · rw [if_pos e'] at e; cases e
    · rw [if_neg e'] at e; exact h.key k y e
  · rw [← h.ans, drain_some (x := x.bs) (by rw [List.length_map]; unfold absF; rw [hx]; rfl), List.map_append, absF_del, List.length_map]
    rfl
section
variable {B : Nat} {W : World} {r b n : Nat} {v : Value} {D : DataW Value} {xs : List Bv} {f : Kf}
set_option maxRecDepth 100000 in
set_option maxHeartbeats 4000000 in
theorem take_new (h : Hid (RecAt B W r v b n D xs f)) (s : Nat) (a : Option Addr) (len cap : Nat) (bs : List UInt8) (hs : Sl W 1 a len cap (cs b8 bs)) (h1 : (s : Int) < 1048576) (h2 : ¬ (256 : Int) < (len : Int)) (hx : (xs.length : Int) ≤ 1048576) (hxn : (n : Int) ≤ 100000) (h3 : ¬ (xs.length : Int) + 16 ≤ (s : Int))
    (hsn : ¬ s < xs.length) (hfs : f s = none) (hkey : ∀ k x, f k = some x → k < xs.length + 16) :
    Calls Try.prog 36 #[.pointer (some ⟨r, 0, none⟩), .agg #[.int .i64 (s : Int), .slice a len cap]] W (fun e W' => e = .returned (.int .i64 0) ∧ ∃ v' n' D' xs' f', Hid (TkRet B r b n v xs f s bs W W' v' n' D' xs' f')) := by
  have HB := Lib.hid (below_alloc W (.cells #[.int .i64 (s : Int), .slice a len cap] 88))
  have HR1 := (recAlloc (o := .cells #[.int .i64 (s : Int), .slice a len cap] 88) h)
  obtain ⟨c0, c1, _, _⟩ := HR1.out.cells
  obtain ⟨va, vc, e, _⟩ := h.out.form
  subst e
  have hF : Hid (BlkAt (W.alloc (.cells #[.int .i64 (s : Int), .slice a len cap] 88)) W.heap.size #[.int .i64 (s : Int), .slice a len cap]) := blkNew rfl
  have g1 : ¬ (s : Int) < 0 := by omega
  have g2 : ¬ (1048576 : Int) ≤ (s : Int) := by omega
  obtain ⟨L, hL⟩ : ∃ L : Int, (xs.length : Int) + 16 = L := ⟨_, rfl⟩
  have hw : IntKind.i64.wrap ((xs.length : Int) + 16) = L := by rw [IntKind.wrap_i64]; omega
  rw [hL] at h3
  have HKN : Hid (∀ W', Hid (RecAt B W' r (.slice va xs.length vc) b n D xs f) → Calls Try.prog 54 #[.pointer (some ⟨r, 0, none⟩), .int .i64 (s : Int)] W' (fun e W'' => e = .returned (.tuple #[.slice none 0 0, .bool false]) ∧ W'' = W')) := fun W' h' => by
    have := known_map h' s hsn (by omega)
    rw [hfs] at this
    exact this
  have HCL : Hid (∀ W', Below W.heap.size W W' → Calls Try.prog 53 #[.slice a len cap] W' (RetBd bs W')) := fun W' hb => clone_any W' a len cap bs (hs.ext hb) (by omega)
  have HPUT : Hid (∀ (W0 W1 : World) (x : Bv), Hid (RecAt B W0 r (.slice va xs.length vc) b n D xs f) → Below W0.heap.size W0 W1 → ∃ W' D', (Instr.mapUpdate 107 (.map (some b)) (.int .i64 (s : Int)) (bsv x)).run Try.prog W1 = .ok () W' ∧ kmap W' b (n + 1) D' ∧ kAt D' (fun j => if j = s then some x else f j) ∧ W1.mapTurned W' b) := fun W0 W1 x h' hb => kmap_put (kmap_keep (L := []) h'.out.km (Fx.ofBelow hb) (by simp)) h'.out.ka (by omega) s (by omega) x
  have HKEY : Hid (∀ k x, (fun j => if j = s then some x else f j) k = some x → k < xs.length + 16) := fun k x e => by
    by_cases hk : k = s
    · omega
    · dsimp only at e; rw [if_neg hk] at e; exact hkey k x e
  have HKEY0 := Lib.hid hkey
  have HSL := Lib.hid (show s < xs.length + 16 ∧ xs.length ≤ 1048576 by omega)
  have HN := Lib.hid hxn
  clear h1 h hs hsn hfs hkey hx hxn hL
  generalize (s : Int) = q at *
  go_enter Try.func36, Try.ntmps36
  go_upto_region 5 with (fail)
  generalize W.alloc (.cells #[.int .i64 q, .slice a len cap] 88) = W1 at *
  obtain ⟨f0, f1, _, _⟩ := two_facts hF.out
  go_quiet (fail)
  have HRq := recDrewN HR1 nq
  have HBq := Lib.hid (below_drewN HB.out nq)
  go_wp2_with fail
  refine (HKN.out _ HRq).mono ?_
  rintro e w5 ⟨rfl, rfl⟩
  go_upto_region 12 with (fail)
  clear c0 c1 f0 f1 HR1 HKN g1 g2 h3 hw
  have HF2 : Hid (BlkAt (W1.drewN nq) W.heap.size #[.int .i64 q, .slice a len cap]) := blkBelow (below_drewN (Below.refl _ _) nq) hF.out
  generalize W1.drewN nq = W2 at *
  obtain ⟨f0, f1, _, _⟩ := two_facts HF2.out
  obtain ⟨c0, c1, _, _⟩ := HRq.out.cells
  clear HB hF HF2 h2
  go_cut [] (fun wx => ∃ (D' : DataW Value) (x : Bv), x.bs = bs ∧ Hid (∀ j, (bsv x).ownBlock = some j → W.heap.size ≤ j) ∧ Hid (RecAt B wx r (.slice va xs.length vc) b (n + 1) D' xs (fun j => if j = s then some x else f j)) ∧ Hid (Fx (rF r b (.slice va xs.length vc)) W wx))
  case first =>
    go_region_law (first
      | ((rw [if_pos (by simp [Region.wanted])]); go_simp; go_at_call 53; (with_reducible refine (HCL.out _ ?_).mono ?_); (focus (first | exact below_drew HBq.out | exact HBq.out)); rintro e w5 ⟨xa, xc, rfl, hbd5, hb5⟩; have d1 := cell_keep hb5 c1; have d2 := cell_keep hb5 f0; obtain ⟨W9, D9, hrun9, hkm9, hka9, ht9⟩ := HPUT.out W2 w5 ⟨xa, xc, bs⟩ HRq (below_step (below_drew (Below.refl _ _)) hb5); unfold bsv at hrun9; dsimp only at hrun9; have HD9 := Lib.hid (And.intro hkm9 (And.intro hka9 ht9)); clear hkm9 hka9 ht9))
    all_goals
      have hp := rec_put (x := ⟨xa, xc, bs⟩) HRq.out (below_step (below_drew (Below.refl _ _)) hb5) hbd5.out HD9.out.1 HD9.out.2.1 HD9.out.2.2
      have HP := Lib.hid hp
      clear hp
      go_wp2_with fail
      go_meet
      exact ⟨D9, ⟨xa, xc, bs⟩, rfl, Lib.hid (fun j hj => Nat.le_trans HBq.out.size (own_ltF hbd5.out hj).2.1), Lib.hid HP.out.1, Lib.hid ((Fx.ofBelow HBq.out).trans HP.out.2 (fun k hk => .inl hk))⟩
  case rest =>
    obtain ⟨D1, x, hxb, HXN, HR3, HF3⟩ := hcut
    have HXB := Lib.hid hxb
    obtain ⟨W3, hW3⟩ : ∃ W', W' = wc := ⟨_, rfl⟩
    subst hW3
    clear hxb HRq HBq HCL HPUT f0 f1 c0 c1
    have hstart : TkLoop B r b n (.slice va xs.length vc) xs f s bs W 17 W3 (.slice va xs.length vc) (n + 1) D1 xs (fun j => if j = s then some x else f j) := ⟨HR3.out, HF3.out, fun j hj => .inl hj, Nat.le_refl _, fun y hy => .inl hy, fun k y e => by
      by_cases hk : k = s
      · rw [if_pos hk] at e; cases e; exact .inr HXN.out
      · rw [if_neg hk] at e; exact .inl ⟨k, e⟩, rfl, fun k y e => by
      by_cases hk : k = s
      · have := HSL.out; omega
      · rw [if_neg hk] at e; exact HKEY0.out k y e, by rw [absF_put, HXB.out]⟩
    have HST := Lib.hid hstart
    clear hstart HR3 HF3 HXB HXN HKEY HKEY0
    go_upto_region 13 with (fail)
    go_loopg [7, 8] 17 (fun gk _p _q wr => ∃ (v' : Value) (n' : Nat) (D' : DataW Value) (xs' : List Bv) (f' : Kf), Hid (TkLoop B r b n (.slice va xs.length vc) xs f s bs W gk wr v' n' D' xs' f'))
    case atStart => exact ⟨_, _, _, _, _, HST⟩
    case round =>
      obtain ⟨v', n', D', xs', f', HT⟩ := hrel
      clear HST
      obtain ⟨c0, c1, _, _⟩ := HT.out.at_.cells
      obtain ⟨va2, vc2, e, _⟩ := HT.out.at_.form
      subst e
      have hl9 : xs'.length < 100000000 := by have := HT.out.len; have := HSL.out; omega
      have hl9' : (xs'.length : Int) < 100000000 := by omega
      have hlk := fun m => kmap_look (kmap_keep (L := []) HT.out.at_.km (Fx.ofBelow (below_drewN (Below.refl wr.heap.size wr) m)) (by simp)) HT.out.at_.ka xs'.length (by omega)
      cases hfx : f' xs'.length with
      | none =>
        rw [hfx] at hlk
        have HFX := Lib.hid hfx
        clear hfx
        go_upto_region 13 with (fail)
        go_quiet (fail)
        go_wp2
        go_ret
        exact ⟨rfl, _, _, _, _, _, Lib.hid (tkLoop_end HT.out HFX.out _ rfl)⟩
      | some x =>
        rw [hfx] at hlk
        have HFX := Lib.hid hfx
        clear hfx
        obtain ⟨xa, xc, xb⟩ := x
        simp only [Option.getD_some, Option.isSome_some, bsv] at hlk
        go_upto_region 13 with (fail)
        go_quiet (fail)
        go_upto_region 16 with (fail)
        have HB5 := Lib.hid (below_drewN (Below.refl wr.heap.size wr) nq)
        have HT5 := recDrewN (Lib.hid HT.out.at_) nq
        generalize wr.drewN nq = W5 at *
        clear c0 c1 hlk
        obtain ⟨c0, c1, _, _⟩ := HT5.out.cells
        obtain ⟨W9, D9, hrun9, hkm9, hka9, ht9⟩ := kmap_del (recDrew HT5).out.km HT5.out.ka xs'.length (by omega) 0
        have HD9 := Lib.hid (And.intro hkm9 (And.intro hka9 ht9))
        clear hkm9 hka9 ht9
        have HR9 := Lib.hid (rec_del HT.out.at_ (below_step HB5.out (below_drew (Below.refl _ _))) HD9.out.1 HD9.out.2.1 HD9.out.2.2).1
        go_region_law (refine step_delete _ rfl (.tmp 77) (.tmp 82) 107 3 rfl (mv := .map (some b)) (xv := .int .i64 (xs'.length : Int)) (w' := W9) (by rfl) (by rfl) hrun9 ?_)
        all_goals
          obtain ⟨d0, d1, e0, _⟩ := HR9.out.cells
          have hr9 : r < W9.heap.size := (HR9.out.lt r (by simp)).1
          have hBr : B ≤ r := HR9.out.hB
          have hrne : some r ≠ (Value.slice va2 xs'.length vc2).ownBlock := fun e => HR9.out.apart.2.1 (mem_own.2 e.symm)
          go_wp2_with (at_builtin; refine stop_here8 ?_)
          refine Lib.hid ?_
          at_builtin
          refine wpList_append_row _ rfl _ _ 90 rfl B 22 (.slice none 0 0) 1 24 Try.underlying90 infoB rfl (by decide) (v := .slice va2 xs'.length vc2) (n := xs'.length) (xs := cs bsv xs') rfl (recAlloc HR9).out.row (k := W9.heap.size) (C := #[.slice xa xb.length xc]) rfl (blkNew rfl) rfl (bsv_all ⟨xa, xc, xb⟩) (by unfold maxLen; omega) (by omega) (by simp; omega) ?_
          intro v9 w9 ho9 hg9 hf9
          have c9 := (World.cell?_of_block (a := ⟨r, 0, none⟩) (hg9.block r (by simp; omega) hrne)).trans (cell_keep (below_alloc W9 _) d0)
          have f9 := (World.frozen?_of_block (a := ⟨r, 0, none⟩) (hg9.block r (by simp; omega) hrne)).trans (((below_alloc W9 _).frozen (p := ⟨r, 0, none⟩) hr9).trans e0)
          obtain ⟨a9, n9, e9, _⟩ := sl_of_own ho9
          subst e9
          obtain ⟨g', hg', hnext⟩ := tkLoop_next HT.out HFX.out (below_step HB5.out (below_drew (Below.refl _ _))) HD9.out.1 HD9.out.2.1 HD9.out.2.2 (below_alloc _ _) ho9 hg9 hf9
          have HNX := Lib.hid hnext
          have HG := Lib.hid hg'
          clear hnext hg' ho9 hg9 hf9 d0 d1 e0 hrun9 c0 c1 hl9'
          go_wp2
          go_roundg g'
          case rel => exact ⟨_, _, _, _, _, HNX⟩
          case measure => exact HG.out
end
end Go.Proofs.Ytpmjgiabedjlgaa
