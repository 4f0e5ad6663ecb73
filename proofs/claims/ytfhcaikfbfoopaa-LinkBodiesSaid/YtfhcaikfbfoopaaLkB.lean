/-
  LINK, THE LAWS: LinkBodies.
-/
import Derived.Test.YtfhcaikfbfoopaaProg
import Derived.Test.YtfhcaikfbfoopaaBase1
import Derived.Test.YtfhcaikfbfoopaaBase2
import Derived.Test.YtfhcaikfbfoopaaBase3
import Derived.Test.YtfhcaikfbfoopaaBase5
import Derived.Test.YtfhcaikfbfoopaaBase6
import Derived.Test.YtfhcaikfbfoopaaBase11
import Derived.Test.YtfhcaikfbfoopaaBase14
import Derived.Test.YtfhcaikfbfoopaaHeld
import Derived.Test.YtfhcaikfbfoopaaFlat
import Derived.Test.YtfhcaikfbfoopaaLkP
import Derived.Test.YtfhcaikfbfoopaaLk1
import Derived.Test.YtfhcaikfbfoopaaLk2
import Derived.Test.YtfhcaikfbfoopaaLk3
import Derived.Test.YtfhcaikfbfoopaaLk4
import Derived.Test.YtfhcaikfbfoopaaLk5
import Derived.Test.YtfhcaikfbfoopaaLk6
import Derived.Test.YtfhcaikfbfoopaaLk7
import Derived.Test.YtfhcaikfbfoopaaLk8
import Derived.Test.YtfhcaikfbfoopaaLk9
import Derived.Test.YtfhcaikfbfoopaaLkA
import Derived.BigQuiet
import Derived.Laws.StructEq
import Derived.StillTailTactics
import Derived.RegionTactic
import Derived.Deep.DeepCutAuto
import Derived.Deep.QuietTactic
import Derived.WalkSpells
import Derived.WalkLawsBesides
namespace Go.Proofs.Ytfhcaikfbfoopaa
open Go.RowKit Go.Maps
set_option linter.unusedVariables false

theorem stop_hereB {p : Prop} (h : Hid p) : p := h.out
/-- '[]byte(s)': a new block; its cells are not frozen. -/
theorem wpList_s2b_new {P : Program} (w : World) {ops : Array Oper} {rest : List Oper} {o : Oper} {a : Act} {Q : Exit → Act → World → Prop} (hgd : o.guard = none) (src dst e : TypeId) (x : Operand)
    (ho : o.op = .convert src dst x) (hs : P.underlying src = some .string) (hd : P.underlying dst = some (.slice e)) (he : P.underlying e = some (.int .u8))
    {s : ByteArray} (hx : a.eval x = .string s) (hm : s.size ≤ maxLen) (hpos : 0 < s.size)
    (hK : ∀ cap w', Sl w' 1 (some ⟨w.heap.size, 0, none⟩) s.size cap (cs b8 s.data.toList) → w'.frozen? ⟨w.heap.size, 0, none⟩ = false → (∃ C fz, w'.heap[w.heap.size]? = some (.cells C e fz)) → Below w.heap.size w w' → wpList P ops Q rest (a.put o.dst (.slice (some ⟨w.heap.size, 0, none⟩) s.size cap)) w') : wpList P ops Q (o :: rest) a w := by
  refine wpList_plain hgd fun K hK' => ?_
  have hrun := run_bytes_of_string (P := P) w src dst e s hs hd he
  unfold Oper.wp
  simp [execOp, ho, hx, hrun, Result.andThen]
  have hh : (w.drew.alloc (.cells (bytesRow s (grownCap w s.size 0 e)) e ((bytesRow s (grownCap w s.size 0 e)).size, (bytesRow s (grownCap w s.size 0 e)).size + 1))).heap[w.heap.size]? = some (.cells (bytesRow s (grownCap w s.size 0 e)) e ((bytesRow s (grownCap w s.size 0 e)).size, (bytesRow s (grownCap w s.size 0 e)).size + 1)) := heap_alloc_new w.drew _
  have hl : s.data.toList.length = s.size := by rw [Array.length_toList]; rfl
  have hsz : s.size ≤ (bytesRow s (grownCap w s.size 0 e)).size := by unfold bytesRow; first | (simp; done) | (simp; omega)
  refine hK' _ _ (hK _ _ ?_ ?_ ⟨_, _, hh⟩ ((Below.refl _ _).drew.alloc (Nat.le_refl _) _))
  · refine ⟨by rw [cs_length, hl]; omega, grownCap_ge w _ _ e, grownCap_le_maxLen w _ _ e hm, (fun h => by cases h), fun j u hj => ⟨w.heap.size, 0, rfl, ?_⟩⟩
    rw [cs_get] at hj
    rw [Nat.zero_add, cell_of_row _ _ _ _ _ _ hh]
    unfold bytesRow
    obtain ⟨c, hc, rfl⟩ := Option.map_eq_some_iff.1 hj
    have hjl := (List.getElem?_eq_some_iff.1 hc).1
    rw [Array.getElem?_append_left (by simp; simpa using hjl)]
    simp only [Array.getElem?_toList] at hc
    rw [Array.getElem?_map, hc]
    rfl
  · unfold World.frozen?
    dsimp only
    rw [hh]
    dsimp only
    rw [Bool.and_eq_false_iff]
    exact .inl (decide_eq_false (Nat.not_le.2 (Nat.lt_of_lt_of_le hpos hsz)))
section
variable {w W W' : World} {g k r b n : Nat} {v u : Value} {xs ys : List Bv} {D : DataW Value} {f : Kf}
theorem bd_store {B : Nat} {x : Bv} {gz i : Nat} {z : Value} (h : BdOk W B x) (hne : ∀ j, (bsv x).ownBlock = some j → j ≠ gz) : BdOk (W.setCell ⟨gz, i, none⟩ z) B x :=
  own_keepF (L := [gz]) h ((Fx.refl [gz] W).setCell (by simp)) (fun j hj => by simpa using hne j hj)
theorem lkwStore {gz i : Nat} {z : Value} (h : Hid (LkW w g v k xs r b u n D ys f W)) (hz : w.heap.size ≤ gz) (hu : ∃ C fz, W.heap[gz]? = some (.cells C 5 fz))
    (hx : ∀ x ∈ xs, ∀ j, (bsv x).ownBlock = some j → j ≠ gz) (hy : ∀ x ∈ ys, ∀ j, (bsv x).ownBlock = some j → j ≠ gz) (hf : ∀ k x, f k = some x → ∀ j, (bsv x).ownBlock = some j → j ≠ gz) : Hid (LkW w g v k xs r b u n D ys f (W.setCell ⟨gz, i, none⟩ z)) := by
  have fx : Fx [gz] W (W.setCell ⟨gz, i, none⟩ z) := (Fx.refl [gz] W).setCell (by simp)
  obtain ⟨C, fz, hC⟩ := hu
  have hs : ∀ j ∈ sF g v, j ∉ [gz] := fun j hj hj' => by
    obtain rfl : j = gz := by simpa using hj'
    exact h.out.sd.nou8 j hj C fz hC
  have hr : ∀ j ∈ rF r b u, j ∉ [gz] := fun j hj hj' => by
    obtain rfl : j = gz := by simpa using hj'
    exact h.out.rc.nou8 j hj C fz hC
  have s0 := h.out.sd
  have r0 := h.out.rc
  exact Lib.hid ⟨⟨blk_keepF s0.blk fx (hs g (by simp)), own_keepF s0.row fx (fun j hj => hs j (List.mem_cons_of_mem _ (mem_own.2 hj))), fun x hx' => bd_store (s0.bds x hx') (hx x hx'), s0.hB⟩,
    ⟨blk_keepF r0.blk fx (hr r (by simp)), own_keepF r0.row fx (fun j hj => hr j (List.mem_cons_of_mem _ (List.mem_cons_of_mem _ (mem_own.2 hj)))), fun x hx' => bd_store (r0.bds x hx') (hy x hx'), kmap_keep r0.km fx (hr b (by simp)), r0.ka, fun k x e => bd_store (r0.kb k x e) (hf k x e), r0.hB, r0.hb⟩,
    h.out.dj, h.out.lo.setCell (p := ⟨gz, i, none⟩) hz z⟩
theorem lkwLower {w0 : World} (h : Hid (LkW w g v k xs r b u n D ys f W)) (hb : Below w0.heap.size w0 w) : Hid (LkW w0 g v k xs r b u n D ys f W) := Lib.hid ⟨h.out.sd.lower hb.size, h.out.rc.lower hb.size, h.out.dj, hb.trans (h.out.lo.mono hb.size)⟩
/-- The first byte of a body in memory of its own. -/
theorem bd_first {B : Nat} {a : Option Addr} {c : Nat} {c0 : UInt8} {t : List UInt8} (h : BdOk W B ⟨a, c, c0 :: t⟩) : ∃ gz, a = some ⟨gz, 0, none⟩ ∧ W.cell? ⟨gz, 0, none⟩ = some (.int .u8 (c0.toNat : Int)) ∧ W.frozen? ⟨gz, 0, none⟩ = false ∧ B ≤ gz ∧ gz < W.heap.size ∧ ∃ C fz, W.heap[gz]? = some (.cells C 5 fz) := by
  rcases h.2 with ⟨_, hn⟩ | ⟨gz, cap, cur, hv, _⟩
  · simp at hn
  · unfold bsv at hv
    cases hv
    obtain ⟨h1, h2, h3, h4⟩ := own_cell (f := b8) h 0 (by simp) 0
    obtain ⟨_, _, hC⟩ := own_ltF h rfl
    exact ⟨gz, rfl, h1, h2, h3, h4, hC⟩
end
theorem drain_one (bs : List UInt8) : drain 17 ([].map Bv.bs) (fun j => if j = 0 then some bs else absF (fun _ => none) j) = ([bs], fun j => if j = 0 then none else if j = 0 then some bs else absF (fun _ => none) j) := by rfl
set_option maxRecDepth 100000 in
theorem linkBodies_out (a : Option Addr) (len cap : Nat) (w : World) (h : (len : Int) < 1 ∨ (256 : Int) < (len : Int)) : Calls Try.prog 9 #[.slice a len cap] w (RetB (.bool true) w) := by
  by_cases h1 : (len : Int) < 1
  · clear h
    go_enter Try.func9, Try.ntmps9
    go_wp2_with fail
    refine (awake12_any _).mono ?_
    rintro e wz ⟨rfl, hbz⟩
    have HBZ := Lib.hid hbz
    clear hbz
    go_wp2
    go_ret
    exact ⟨rfl, HBZ.out⟩
  · have h2 : (256 : Int) < (len : Int) := by omega
    clear h
    go_enter Try.func9, Try.ntmps9
    go_wp2_with fail
    refine (awake12_any _).mono ?_
    rintro e wz ⟨rfl, hbz⟩
    have HBZ := Lib.hid hbz
    clear hbz
    go_wp2
    go_ret
    exact ⟨rfl, HBZ.out⟩
set_option maxRecDepth 100000 in
set_option maxHeartbeats 8000000 in
theorem linkBodies_ok (a : Option Addr) (len cap : Nat) (c0 : UInt8) (t : List UInt8) (w : World) (h1 : ¬ (len : Int) < 1) (h2 : ¬ (256 : Int) < (len : Int)) (hs : Sl w 1 a len cap (cs b8 (c0 :: t))) : Calls Try.prog 9 #[.slice a len cap] w (RetB (.bool true) w) := by
  have hcv := run_b2s w 22 9 5 Try.underlying22 Try.underlying9 Try.underlying5 hs
  have hn := hs.count
  have HLEN : Hid ((c0 :: t).length ≤ 256) := Lib.hid (by omega)
  clear hs
  go_enter Try.func9, Try.ntmps9
  go_upto_region 4 with (fail)
  obtain ⟨S, hS⟩ : ∃ S : ByteArray, S = ⟨(c0 :: t).toArray⟩ := ⟨_, rfl⟩
  rw [← hS]
  have HSS : Hid (S.data.toList = c0 :: t ∧ S.size = (c0 :: t).length) := Lib.hid (by subst hS; exact ⟨by simp, by simp [ByteArray.size]⟩)
  clear hcv
  go_wp2_with (with_reducible refine wpList_s2b_new _ rfl 9 22 5 _ rfl Try.underlying9 Try.underlying22 Try.underlying5 rfl ?_ ?_ ?_)
  · have := HLEN.out; unfold maxLen; omega
  · omega
  intro cp w1 hsl hfz C lo hi hC hb1
  have HSL := Lib.hid hsl
  have HG1 : Hid (w1.frozen? ⟨w.heap.size, 0, none⟩ = false ∧ (∃ C fz, w1.heap[w.heap.size]? = some (.cells C 5 fz)) ∧ w.heap.size < w1.heap.size) := Lib.hid ⟨hfz, ⟨C, (lo, hi), hC⟩, (Array.getElem?_eq_some_iff.1 hC).1⟩
  have HB1 := Lib.hid hb1
  clear hsl hfz hC hb1
  obtain ⟨gb, hgb⟩ : ∃ gb, w.heap.size = gb := ⟨_, rfl⟩
  rw [hgb] at HSL HG1 ⊢
  go_wp2_with fail
  refine (newSender_any _).mono ?_
  rintro e w2 ⟨rfl, hs1, hb2⟩
  go_wp2_with fail
  refine (newReceiver_any _).mono ?_
  rintro e w3 ⟨rfl, hr2, hb3⟩
  have HL := lkwStart hs1 hb2 hr2 hb3
  generalize w2.heap.size + 1 = r at *
  generalize w2.heap.size = b at *
  clear hs1 hb2 hr2 hb3
  obtain ⟨g, hg⟩ : ∃ g, g = w1.heap.size := ⟨_, rfl⟩
  rw [← hg] at HL ⊢
  have HGG := Lib.hid hg
  clear hg
  go_wp2_with fail
  refine (lkwPut HL _ len cp (c0 :: t) (HSL.out.ext HL.out.lo) (by decide) (by omega) (by decide) 0 rfl).mono ?_
  rintro e w4 ⟨rfl, v4, x4, hx4, HL4', _⟩
  have HL4 : Hid (LkW w1 g v4 0 [x4] r b (.slice none 0 0) 0 (.map []) [] (fun _ => none) w4) := HL4'
  have HX4 := Lib.hid hx4
  obtain ⟨_, _, e, hc⟩ := HSL.out.at_ 0 (by omega) 0
  cases e
  have hc4 : w4.cell? ⟨gb, 0, none⟩ = some (.int .u8 (c0.toNat : Int)) := cell_keep HL4.out.lo hc
  have hf4 : w4.frozen? ⟨gb, 0, none⟩ = false := (HL4.out.lo.frozen (p := ⟨gb, 0, none⟩) HG1.out.2.2).trans HG1.out.1
  have hx4lo : ∀ j, (bsv x4).ownBlock = some j → j ≠ gb := fun j hj e => by
    have := (own_ltF (HL4.out.sd.bds x4 (by simp)) hj).2.1
    have := HG1.out.2.2
    omega
  have hx4hi : ∀ j, (bsv x4).ownBlock = some j → j < w4.heap.size := fun j hj => (own_ltF (HL4.out.sd.bds x4 (by simp)) hj).1
  have HXHI := Lib.hid hx4hi
  have HL5 : Hid (∀ z, Hid (LkW w g v4 0 [x4] r b (.slice none 0 0) 0 (.map []) [] (fun _ => none) (w4.setCell ⟨gb, 0, none⟩ z))) := Lib.hid (fun z => lkwStore (lkwLower HL4 HB1.out) (by omega) (by obtain ⟨C, fz, hC⟩ := HG1.out.2.1; exact ⟨C, fz, by rw [HL4.out.lo.block gb HG1.out.2.2]; exact hC⟩) (fun x hx => by simp at hx; subst hx; exact hx4lo) (fun x hx => by simp at hx) (fun k x e => by cases e))
  clear hx4 HL4' hx4lo hx4hi hc HL HGG
  go_wp2_with fail
  refine (frames_any (lkwS (HL5.out _)) (by decide) (by simp) (fun x hx => by simp at hx; subst hx; rw [HX4.out]; exact HLEN.out)).mono ?_
  rintro e w6 ⟨fa, fc, zs, rfl, hz, hf, hb6⟩
  have HL6 := lkwBelow hb6 (HL5.out _)
  obtain ⟨z0, rfl, hz0⟩ : ∃ z0, zs = [z0] ∧ z0.bs = c0 :: t := by
    match zs, hz with
    | [z0], e => simp [HX4.out] at e; exact ⟨z0, rfl, e⟩
    | [], e => simp at e
    | z0 :: z1 :: tt, e => simp at e
  obtain ⟨z0a, z0c, z0b⟩ := z0
  dsimp only at hz0
  subst hz0
  have hsz5 : ∀ z, (w4.setCell ⟨gb, 0, none⟩ z).heap.size = w4.heap.size := fun z => by have h1 := (Below.refl 0 w4).setCell (p := ⟨gb, 0, none⟩) (Nat.zero_le _) z; first | (simp [World.setCell]; done) | exact World.size_setCell _ _ _
  rw [hsz5] at hf
  have HF6 := Lib.hid (⟨hf.out, fun j hj hj' => by
    have h1 := (own_ltF hf.out.row (mem_own.1 hj)).2.1
    have h2 := ((HL5.out (.int .u8 0)).out.rc.lt j hj').1
    rw [hsz5] at h2
    omega⟩ : FrW w4.heap.size (.slice fa 1 fc) 0 [⟨z0a, z0c, c0 :: t⟩] (rF r b (.slice none 0 0)) w6)
  obtain ⟨gz, e, hzc, hzf, hzlo, hzhi, hzC⟩ := bd_first (hf.out.bds ⟨z0a, z0c, c0 :: t⟩ (by simp))
  subst e
  obtain ⟨fb, fo, e, hc0, hd0, hbd0⟩ := HF6.out.at_.cells (n := 1) rfl 0 (by decide)
  subst e
  simp at hc0 hd0
  have HZ := Lib.hid (And.intro hzlo hzhi)
  have HS6 := Lib.hid hbd0.sl
  have hcv6 := run_b2s w6 22 9 5 Try.underlying22 Try.underlying9 Try.underlying5 HS6.out
  simp at hcv6
  clear hz hf hb6 hc4 hf4 hzc hzf hzC hbd0 hzlo hzhi
  have hlt : ¬ (256 : Int) < ((t.length + 1 : Nat) : Int) := by have := HLEN.out; simp at this; omega
  have htk := take_new (lkwR HL6) 0 (some ⟨gz, 0, none⟩) (t.length + 1) z0c (c0 :: t) HS6.out (by decide) hlt (by decide) (by decide) (by simp) (by decide) rfl (fun k x e => by cases e)
  rw [show ((0 : Nat) : Int) = 0 from rfl] at htk
  have HTK := Lib.hid htk
  clear htk hlt
  go_wp2_with fail
  refine HTK.out.mono ?_
  rintro e w7 ⟨rfl, u7, n7, D7, ys7, f7, ht7⟩
  have HL7 := lkwTake HL6 ht7.out.at_ ht7.out.fx ht7.out.fresh
  have HF7 := Lib.hid (HF6.out.tr ⟨ht7.out.fx, trR ht7.out.fresh, HL6.out.rc.nou8⟩)
  have hans := ht7.out.ans
  rw [drain_one] at hans
  obtain ⟨ha1, ha2⟩ := Prod.mk.inj hans
  obtain ⟨y7, rfl, hy7⟩ : ∃ y, ys7 = [y] ∧ y.bs = c0 :: t := by
    match ys7, ha1 with
    | [y], e => simp at e; exact ⟨y, rfl, e⟩
    | [], e => simp at e
    | y :: y' :: tt, e => simp at e
  have hf7 : ∀ k, f7 k = none := fun k => by
    have e := congrFun ha2 k
    have e2 : absF f7 k = none := by
      rw [e]
      by_cases hk : k = 0 <;> simp [hk, absF]
    cases hfk : f7 k with
    | none => rfl
    | some x => unfold absF at e2; rw [hfk] at e2; cases e2
  have hy7b : ∀ j, (bsv y7).ownBlock = some j → w6.heap.size ≤ j := by
    rcases ht7.out.new y7 (by simp) with e | ⟨k, e⟩ | e
    · simp at e
    · cases e
    · exact e
  have HF7N := Lib.hid hf7
  have HY7 := Lib.hid hy7
  obtain ⟨gz', e, hzc, hzf, _, hzhi, hzC⟩ := bd_first (HF7.out.at_.bds ⟨some ⟨gz, 0, none⟩, z0c, c0 :: t⟩ (by simp))
  cases e
  have HL8 : Hid (∀ z, Hid (LkW w g v4 0 [x4] r b u7 n7 D7 [y7] f7 (w7.setCell ⟨gz, 0, none⟩ z))) := Lib.hid (fun z => lkwStore HL7 (by have := HZ.out.1; have := HL4.out.lo.size; have := HG1.out.2.2; omega) hzC (fun x hx => by simp at hx; subst hx; intro j hj; have := HXHI.out j hj; have := HZ.out.1; omega) (fun x hx => by simp at hx; subst hx; intro j hj; have := hy7b j hj; have := HZ.out.2; omega) (fun k x e => by rw [hf7 k] at e; cases e))
  obtain ⟨fb', fo', e, hc7, hd7, _⟩ := HF7.out.at_.cells (n := 1) rfl 0 (by decide)
  cases e
  simp at hc7 hd7
  clear hans ha1 ha2 hf7 hy7b hy7 ht7 HTK HL6 HL7 hzC hzhi hc0 hd0 hcv6 HS6
  go_wp2_with fail
  refine (out_any (lkwR (HL8.out _)) (by simp) (fun x hx => by simp at hx; subst hx; rw [HY7.out]; exact HLEN.out)).mono ?_
  rintro e w9 ⟨oa, oc, zs9, rfl, hz9, ho9, hb9⟩
  have HL9 := lkwBelow hb9 (HL8.out _)
  obtain ⟨o9, rfl, ho9b⟩ : ∃ o, zs9 = [o] ∧ o.bs = c0 :: t := by
    match zs9, hz9 with
    | [o], e => simp [HY7.out] at e; exact ⟨o, rfl, e⟩
    | [], e => simp at e
    | o :: o' :: tt, e => simp at e
  obtain ⟨oa9, oc9, ob9⟩ := o9
  dsimp only at ho9b
  subst ho9b
  have HB9 := Lib.hid hb9
  obtain ⟨go9, e, hgc, hgf, hglo, hghi, hgC⟩ := bd_first (ho9.out.bds ⟨oa9, oc9, c0 :: t⟩ (by simp))
  subst e
  obtain ⟨_, _, e, hsl9⟩ := ho9.out.form
  cases e
  obtain ⟨ob, oo, e, hoc⟩ := hsl9.at_ 0 (by simp) nilB
  subst e
  unfold bsv at hoc
  simp at hoc
  have hcv9 := run_b2s w9 22 9 5 Try.underlying22 Try.underlying9 Try.underlying5 (ho9.out.bds ⟨some ⟨go9, 0, none⟩, oc9, c0 :: t⟩ (by simp)).sl
  simp at hcv9
  have hwlo : w.heap.size ≤ go9 := Nat.le_trans (HL8.out _).out.lo.size hglo
  have hsz7 : ∀ z, (w7.setCell ⟨gz, 0, none⟩ z).heap.size = w7.heap.size := fun z => by first | (simp [World.setCell]; done) | exact World.size_setCell _ _ _
  rw [hsz7] at hglo
  have hx10 : ∀ x ∈ [x4], ∀ j, (bsv x).ownBlock = some j → j ≠ go9 := fun x hx j hj => by
    have h1 := (own_ltF ((HL8.out (.int .u8 0)).out.sd.bds x hx) hj).1
    rw [hsz7] at h1
    omega
  have hy10 : ∀ x ∈ [y7], ∀ j, (bsv x).ownBlock = some j → j ≠ go9 := fun x hx j hj => by
    have h1 := (own_ltF ((HL8.out (.int .u8 0)).out.rc.bds x hx) hj).1
    rw [hsz7] at h1
    omega
  have HL10 : Hid (∀ z, Hid (LkW w g v4 0 [x4] r b u7 n7 D7 [y7] f7 (w9.setCell ⟨go9, 0, none⟩ z))) := Lib.hid (fun z => lkwStore HL9 hwlo hgC hx10 hy10 (fun k x e => by rw [HF7N.out k] at e; cases e))
  clear hwlo hsz7 hx10 hy10
  clear hz9 hglo hghi hgC hsl9 hb9 ho9 hzc hzf hc7 hd7
  go_wp2_with fail
  refine (out_any (lkwR (HL10.out _)) (by simp) (fun x hx => by simp at hx; subst hx; rw [HY7.out]; exact HLEN.out)).mono ?_
  rintro e w11 ⟨pa, pc, zs11, rfl, hz11, ho11, hb11⟩
  have HL11 := lkwBelow hb11 (HL10.out _)
  obtain ⟨p11, rfl, hp11⟩ : ∃ o, zs11 = [o] ∧ o.bs = c0 :: t := by
    match zs11, hz11 with
    | [o], e => simp [HY7.out] at e; exact ⟨o, rfl, e⟩
    | [], e => simp at e
    | o :: o' :: tt, e => simp at e
  have HO11 := Lib.hid ho11.out
  clear hz11 ho11 hb11 hgc hgf hoc hcv9
  go_wp2_with fail
  refine (frames_any (lkwS HL11) (by decide) (by simp) (fun x hx => by simp at hx; subst hx; rw [HX4.out]; exact HLEN.out)).mono ?_
  rintro e w12 ⟨qa, qc, zs12, rfl, hz12, hf12, hb12⟩
  have HL12 := lkwBelow hb12 HL11
  obtain ⟨q12, rfl, hq12⟩ : ∃ o, zs12 = [o] ∧ o.bs = c0 :: t := by
    match zs12, hz12 with
    | [o], e => simp [HX4.out] at e; exact ⟨o, rfl, e⟩
    | [], e => simp at e
    | o :: o' :: tt, e => simp at e
  have ho12 := HO11.out.below hb12
  obtain ⟨p11a, p11c, p11b⟩ := p11
  obtain ⟨q12a, q12c, q12b⟩ := q12
  dsimp only at hp11 hq12
  subst hp11
  subst hq12
  obtain ⟨_, _, e, hsl12⟩ := ho12.form
  cases e
  obtain ⟨pb, po, e, hpc⟩ := hsl12.at_ 0 (by simp) nilB
  subst e
  unfold bsv at hpc
  simp at hpc
  obtain ⟨qb, qo, e, hqc, hqd, hqbd⟩ := hf12.out.cells (n := 1) rfl 0 (by decide)
  subst e
  simp at hqc hqd
  have hcvp := run_b2s w12 22 9 5 Try.underlying22 Try.underlying9 Try.underlying5 (ho12.bds ⟨p11a, p11c, c0 :: t⟩ (by simp)).sl
  have hcvq := run_b2s w12 22 9 5 Try.underlying22 Try.underlying9 Try.underlying5 (hf12.out.bds ⟨q12a, q12c, c0 :: t⟩ (by simp)).sl
  simp at hcvp hcvq
  clear hz12 hf12 hb12 ho12 hsl12 hqbd HL11 HO11
  go_wp2_with fail
  refine (awake12_any _).mono ?_
  rintro e wz ⟨rfl, hbz⟩
  have HBZ := Lib.hid (below_step HL12.out.lo hbz)
  clear hbz
  go_wp2
  go_ret
  exact ⟨rfl, HBZ.out⟩
theorem linkBodies_walk (a : Option Addr) (len cap : Nat) (bs : List UInt8) (w : World) (hs : Sl w 1 a len cap (cs b8 bs)) : Calls Try.prog 9 #[.slice a len cap] w (RetB (.bool true) w) := by
  by_cases h : (len : Int) < 1 ∨ (256 : Int) < (len : Int)
  · exact linkBodies_out a len cap w h
  · match bs, hs with
    | [], hs => have := hs.count; simp at this; omega
    | c0 :: t, hs => exact linkBodies_ok a len cap c0 t w (fun e => h (.inl e)) (fun e => h (.inr e)) hs
end Go.Proofs.Ytfhcaikfbfoopaa
