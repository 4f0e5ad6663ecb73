/-
  LINK, THE REFERENCE: Ack, Frames, SameFrames.
-/
import Derived.Test.YtfhcaikfbfoopaaProg
import Derived.Test.YtfhcaikfbfoopaaBase1
import Derived.Test.YtfhcaikfbfoopaaBase2
import Derived.Test.YtfhcaikfbfoopaaBase3
import Derived.Test.YtfhcaikfbfoopaaBase5
import Derived.Test.YtfhcaikfbfoopaaBase6
import Derived.Test.YtfhcaikfbfoopaaBase11
import Derived.Test.YtfhcaikfbfoopaaBase13
import Derived.Test.YtfhcaikfbfoopaaBase14
import Derived.Test.YtfhcaikfbfoopaaHeld
import Derived.Test.YtfhcaikfbfoopaaFlat
import Derived.Test.YtfhcaikfbfoopaaLkP
import Derived.Test.YtfhcaikfbfoopaaLk1
import Derived.Test.YtfhcaikfbfoopaaLk2
import Derived.Test.YtfhcaikfbfoopaaLk3
import Derived.Test.YtfhcaikfbfoopaaLk6
import Derived.Test.YtfhcaikfbfoopaaLk9
import Derived.Test.YtfhcaikfbfoopaaLkS
import Derived.Test.YtfhcaikfbfoopaaLkF
import Derived.BigQuiet
import Derived.Laws.StructEq
import Derived.StillTailTactics
import Derived.RegionTactic
import Derived.BigRegion
import Derived.Deep.RegionHeld3
import Derived.Deep.RegionLaw
import Derived.Deep.DeepCutAuto
import Derived.Deep.QuietTactic
import Derived.WalkSpells
import Derived.WalkLawsBesides
namespace Go.Proofs.Ytfhcaikfbfoopaa
open Go.RowKit Go.Maps
set_option linter.unusedVariables false

theorem refAck_bad (W : World) (sa : Option Addr) (n c : Nat) (ac m : Int) (h : Hid (m < 0 ∨ (n : Int) < m)) : Calls Try.prog 24 #[.agg #[.slice sa n c, .int .i64 ac], .int .i64 m] W (RetB (.tuple #[.agg #[.slice sa n c, .int .i64 ac], .int .i64 1]) W) := by
  by_cases h1 : m < 0
  · go_enter Try.func24, Try.ntmps24
    go_wp2
    refine bodyPost_ret (v := .tuple #[.agg #[.slice sa n c, .int .i64 ac], .int .i64 1]) ?_ rfl ⟨rfl, ?_⟩
    · rw [results_cell_tmpF rfl]
      go_simp
    · exact below_step (below_alloc _ _) (below_alloc _ _)
  · have h2 : (n : Int) < m := by have := h.out; omega
    go_enter Try.func24, Try.ntmps24
    go_wp2
    refine bodyPost_ret (v := .tuple #[.agg #[.slice sa n c, .int .i64 ac], .int .i64 1]) ?_ rfl ⟨rfl, ?_⟩
    · rw [results_cell_tmpF rfl]
      go_simp
    · exact below_step (below_alloc _ _) (below_alloc _ _)
theorem refAck_ok (W : World) (sa : Option Addr) (n c : Nat) (ac m M : Int) (h1 : ¬ m < 0) (h2 : ¬ (n : Int) < m) (hM : (if ac < m then m else ac) = M) : Calls Try.prog 24 #[.agg #[.slice sa n c, .int .i64 ac], .int .i64 m] W (RetB (.tuple #[.agg #[.slice sa n c, .int .i64 M], .int .i64 0]) W) := by
  go_enter Try.func24, Try.ntmps24
  go_wp2
  refine bodyPost_ret (v := .tuple #[.agg #[.slice sa n c, .int .i64 M], .int .i64 0]) ?_ rfl ⟨rfl, ?_⟩
  · rw [results_cell_tmpF rfl]
    go_simp
  · exact below_step (below_alloc _ _) (below_alloc _ _)
/-- '[]byte(s)': a new block of bytes. -/
theorem wpList_s2b_blk {P : Program} (w : World) {ops : Array Oper} {rest : List Oper} {o : Oper} {a : Act} {Q : Exit → Act → World → Prop} (hgd : o.guard = none) (src dst e : TypeId) (x : Operand)
    (ho : o.op = .convert src dst x) (hs : P.underlying src = some .string) (hd : P.underlying dst = some (.slice e)) (he : P.underlying e = some (.int .u8))
    {s : ByteArray} (hx : a.eval x = .string s) (hm : s.size ≤ maxLen)
    (hK : ∀ cap w', Sl w' 1 (some ⟨w.heap.size, 0, none⟩) s.size cap (cs b8 s.data.toList) → (∃ C fz, w'.heap[w.heap.size]? = some (Obj.cells C e fz)) → Below w.heap.size w w' → wpList P ops Q rest (a.put o.dst (.slice (some ⟨w.heap.size, 0, none⟩) s.size cap)) w') : wpList P ops Q (o :: rest) a w := by
  refine wpList_plain hgd fun K hK' => ?_
  have hrun := run_bytes_of_string (P := P) w src dst e s hs hd he
  unfold Oper.wp
  simp [execOp, ho, hx, hrun, Result.andThen]
  have hh : (w.drew.alloc (.cells (bytesRow s (grownCap w s.size 0 e)) e ((bytesRow s (grownCap w s.size 0 e)).size, (bytesRow s (grownCap w s.size 0 e)).size + 1))).heap[w.heap.size]? = some (.cells (bytesRow s (grownCap w s.size 0 e)) e ((bytesRow s (grownCap w s.size 0 e)).size, (bytesRow s (grownCap w s.size 0 e)).size + 1)) := heap_alloc_new w.drew _
  have hl : s.data.toList.length = s.size := by rw [Array.length_toList]; rfl
  refine hK' _ _ (hK _ _ ?_ ⟨_, _, hh⟩ ((Below.refl _ _).drew.alloc (Nat.le_refl _) _))
  refine ⟨by rw [cs_length, hl]; omega, grownCap_ge w _ _ e, grownCap_le_maxLen w _ _ e hm, (fun h => by cases h), fun j u hj => ⟨w.heap.size, 0, rfl, ?_⟩⟩
  rw [cs_get] at hj
  rw [Nat.zero_add, cell_of_row _ _ _ _ _ _ hh]
  unfold bytesRow
  obtain ⟨c, hc, rfl⟩ := Option.map_eq_some_iff.1 hj
  have hjl := (List.getElem?_eq_some_iff.1 hc).1
  rw [Array.getElem?_append_left (by simp; simpa using hjl)]
  simp only [Array.getElem?_toList] at hc
  rw [Array.getElem?_map, hc]
  rfl
theorem stop_hereG {p : Prop} (h : Hid p) : p := h.out
/-- A body that lies in a block of bytes. -/
def BdR (W : World) (x : Bv) : Prop := Sl W 1 x.a x.bs.length x.c (cs b8 x.bs) ∧ ∀ b o p, x.a = some ⟨b, o, p⟩ → ∃ C fz, W.heap[b]? = some (Obj.cells C 5 fz)
theorem BdR.keep {L : List Nat} {W W' : World} {x : Bv} (h : BdR W x) (hf : Fx L W W') (hn : NoU8 W L) : BdR W' x := by
  have key : ∀ b, (∃ C fz, W.heap[b]? = some (Obj.cells C 5 fz)) → W'.heap[b]? = W.heap[b]? := fun b ⟨C, fz, e⟩ => hf.block b (Array.getElem?_eq_some_iff.1 e).1 (fun hb => hn b hb C fz e)
  refine ⟨⟨h.1.hlen, h.1.hle, h.1.hmax, h.1.hbare, fun j u hj => ?_⟩, fun b o p e => ?_⟩
  · obtain ⟨b, off, e, hc⟩ := h.1.hcell j u hj
    refine ⟨b, off, e, ?_⟩
    have hk := key b (h.2 b off none e)
    unfold World.cell? at hc ⊢
    dsimp only at hc ⊢
    rw [hk]
    exact hc
  · rw [key b (h.2 b o p e)]
    exact h.2 b o p e
/-- The reference's list of frames. -/
structure FrsR (B : Nat) (W : World) (u : Value) (k : Nat) (ys : List Bv) : Prop where
  row : W.ownsRow B 56 2 u ys.length (flatV frA (frL k ys))
  bds : ∀ y ∈ ys, BdR W y
theorem frsR_nou8 {B k : Nat} {W : World} {u : Value} {ys : List Bv} (h : FrsR B W u k ys) : NoU8 W (own u) := fun j hj C fz e => by
  obtain ⟨_, _, C', fz', e'⟩ := own_ltF h.row (mem_own.1 hj)
  rw [e'] at e; exact absurd (Obj.cells.inj (Option.some.inj e)).2.1 (by decide)
theorem FrsR.keep {L : List Nat} {B k : Nat} {W W' : World} {u : Value} {ys : List Bv} (h : FrsR B W u k ys) (hf : Fx L W W') (hn : NoU8 W L) (hd : ∀ j ∈ own u, j ∉ L) : FrsR B W' u k ys := ⟨own_keepF h.row hf (fun j hj => hd j (mem_own.2 hj)), fun y hy => (h.bds y hy).keep hf hn⟩
theorem FrsR.below {B k : Nat} {W W' : World} {u : Value} {ys : List Bv} (h : FrsR B W u k ys) (hb : Below W.heap.size W W') : FrsR B W' u k ys := h.keep (L := []) (Fx.ofBelow hb) (fun j hj => by simp at hj) (fun j _ => by simp)
theorem frsR_more {B k : Nat} {u u' : Value} {ys : List Bv} {x : Bv} {W W1 W2 W3 : World} (h : Hid (FrsR B W u k ys)) (hB : B ≤ W.heap.size) (hb1 : Below W.heap.size W W1) (hbd : BdR W1 x) (hb2 : Below W1.heap.size W1 W2)
    (ho : W3.ownsRow B 56 2 u' (ys.length + 1) (flatV frA (frL k ys) ++ (#[.int .i64 ((k + ys.length : Nat) : Int), bsv x] : Array Value).toList)) (hg : W2.grownBy W3 u.ownBlock) : Hid (FrsR B W3 u' k (ys ++ [x])) ∧ Below B W W3 := by
  have hb12 := below_step hb1 hb2
  have s1 := h.out.below hb1
  have f3 : Fx (own u) W W3 := (Fx.ofBelow (L := own u) hb12).trans (Fx.ofGrown (L := own u) hg (fun k e => mem_own.2 e)) (fun k hk => .inl hk)
  have f13 : Fx (own u) W1 W3 := (Fx.ofBelow (L := own u) hb2).trans (Fx.ofGrown (L := own u) hg (fun k e => mem_own.2 e)) (fun k hk => .inl hk)
  refine ⟨Lib.hid ⟨?_, fun y hy => ?_⟩, f3.below (fun j hj => (own_ltF h.out.row (mem_own.1 hj)).2.1) hB⟩
  · rw [frL_snoc, flatV_append, List.length_append]
    exact ho
  · rcases List.mem_append.1 hy with hy | hy
    · exact (h.out.bds y hy).keep f3 (frsR_nou8 h.out)
    · simp at hy; subst hy
      exact hbd.keep f13 (frsR_nou8 s1)
theorem get_tk (all : List (List UInt8)) (ac q : Nat) (h : ac + q < all.length) : (all.drop ac).take (q + 1) = (all.drop ac).take q ++ [all.getD (ac + q) []] := by
  rw [List.take_add_one, List.getElem?_drop, List.getElem?_eq_getElem h, List.getD_eq_getElem?_getD, List.getElem?_eq_getElem h]
  rfl
/-- What the reference's Frames hands back. -/
def RetFrR (k : Nat) (all : List (List UInt8)) (m : Nat) (W : World) (e : Ending) (W' : World) : Prop := ∃ a c ys, e = .returned (.slice a m c) ∧ ys.map Bv.bs = all.drop k ∧ Hid (FrsR W.heap.size W' (.slice a m c) k ys) ∧ Below W.heap.size W W'
set_option maxRecDepth 100000 in
set_option maxHeartbeats 4000000 in
theorem refFrames_any (W : World) (sa : Option Addr) (n c ac : Nat) (all : List (List UInt8)) (hl : all.length = n) (hac : ac ≤ n) (hn : n ≤ 1000) (hbl : ∀ b ∈ all, b.length ≤ 256) (hsa : Sl W 1 sa n c (cs stb all)) :
    Calls Try.prog 27 #[.agg #[.slice sa n c, .int .i64 (ac : Int)]] W (RetFrR ac all (n - ac) W) := by
  have HX : Hid (BlkAt (W.alloc (.cells #[.slice sa n c, .int .i64 (ac : Int)] 35)) W.heap.size #[.slice sa n c, .int .i64 (ac : Int)]) := Lib.hid (blkNew rfl)
  have HB1 : Hid (Below W.heap.size W (W.alloc (.cells #[.slice sa n c, .int .i64 (ac : Int)] 35))) := Lib.hid (below_alloc _ _)
  have HSA := Lib.hid hsa
  have HL := Lib.hid hl
  have HBL := Lib.hid hbl
  clear hsa hl hbl
  go_enter Try.func27, Try.ntmps27
  have hsz : W.heap.size < (W.alloc (.cells #[.slice sa n c, .int .i64 (ac : Int)] 35)).heap.size := by simp
  go_upto_region 1 with (fail)
  generalize W.alloc (.cells #[.slice sa n c, .int .i64 (ac : Int)] 35) = W1 at *
  obtain ⟨b0, b1, _, _⟩ := two_facts HX.out
  go_upto_region 3 with (fail)
  clear b0 b1
  go_loopw [3, 4] (fun u i wr => ∃ (q : Nat) (a : Option Addr) (c' : Nat) (ys : List Bv), ac + q ≤ n ∧ i = .int .i64 ((ac + q : Nat) : Int) ∧ u = .slice a q c' ∧ Hid (ys.length = q ∧ ys.map Bv.bs = (all.drop ac).take q) ∧ Hid (FrsR W1.heap.size wr (.slice a q c') ac ys) ∧ Hid (Below W1.heap.size W1 wr)) (fun _ i _ => n - (intOf i).toNat)
  case atStart => exact ⟨0, none, 0, [], by omega, rfl, rfl, ⟨rfl, rfl⟩, ⟨World.ownsRow_nil _ _ _ _, fun y hy => by simp at hy⟩, Below.refl _ _⟩
  case round =>
    obtain ⟨q, a, c', ys, hq, rfl, rfl, HY, HR, HB⟩ := hrel
    obtain ⟨I, hI⟩ : ∃ I : Nat, ac + q = I := ⟨_, rfl⟩
    rw [hI] at hq ⊢
    have hi0 : (0 : Int) ≤ (I : Int) := by omega
    have HX2 := Lib.hid (blkLow HB.out hsz HX.out)
    obtain ⟨b0, b1, _, _⟩ := two_facts HX2.out
    have hbw := Lib.hid (below_step HB1.out HB.out)
    by_cases hil : I < n
    · have hil' : (I : Int) < (n : Int) := by omega
      obtain ⟨b, off, e, hc⟩ := HSA.out.at_ I hil []
      subst e
      have hc' := cell_keep hbw.out hc
      have hgt := get_tk all ac q (by rw [HL.out, hI]; exact hil)
      rw [hI] at hgt
      have hbl := HBL.out (all.getD I []) (by rw [List.getD_eq_getElem?_getD, List.getElem?_eq_getElem (by rw [HL.out]; exact hil)]; exact List.getElem_mem _)
      unfold stb at hc'
      generalize all.getD I [] = bs at *
      have HGT := Lib.hid (And.intro hgt hI)
      have hsz8 : (⟨bs.toArray⟩ : ByteArray).size = bs.length := by simp [ByteArray.size]
      have hq9 : q ≤ 1000 := by omega
      clear hc hgt hI
      go_wp2_with (with_reducible refine wpList_s2b_blk _ rfl 9 22 5 _ rfl Try.underlying9 Try.underlying22 Try.underlying5 rfl ?_ ?_)
      · rw [hsz8]; unfold maxLen; omega
      intro cap w5 hs5 C5 f5 g5 hk5 hb5
      have HB5 := Lib.hid hb5
      have HS5 : Hid (BdR w5 ⟨some ⟨wr.heap.size, 0, none⟩, cap, bs⟩) := Lib.hid ⟨hs5, fun b o p e => by cases e; exact ⟨_, _, hk5⟩⟩
      clear hs5 hk5 hb5 hc' b0 b1
      go_wp2_with (at_builtin; refine stop_hereG ?_)
      have HR5 := Lib.hid (HR.out.below (below_step HB5.out (below_alloc w5 (.cells #[.int .i64 (I : Int), .slice (some ⟨wr.heap.size, 0, none⟩) bs.length cap] 56))))
      refine Lib.hid ?_
      at_builtin
      refine wpList_append_row _ rfl _ _ 47 rfl W1.heap.size 56 (.agg #[.int .i64 0, .slice none 0 0]) 2 32 Try.underlying47 infoF rfl (by decide) (n := q) (xs := flatV frA (frL ac ys)) rfl (by have := HR5.out.row; rw [HY.out.1] at this; exact this) (k := w5.heap.size) (C := #[.int .i64 (I : Int), .slice (some ⟨wr.heap.size, 0, none⟩) bs.length cap]) rfl (blkNew rfl) rfl (frA_one ⟨(I : Int), ⟨some ⟨wr.heap.size, 0, none⟩, cap, bs⟩⟩) (by unfold maxLen; omega) (by omega) (by have := HB.out.size; have := HB5.out.size; first | omega | (simp; omega)) ?_
      intro v9 w9 ho9 hg9 _
      obtain ⟨a9, n9, e9, _⟩ := sl_of_own ho9
      subst e9
      have hm := frsR_more (x := ⟨some ⟨wr.heap.size, 0, none⟩, cap, bs⟩) HR HB.out.size HB5.out HS5.out (below_alloc _ _) (by rw [HY.out.1, HGT.out.2]; exact ho9) hg9
      have HM := Lib.hid hm
      have hI9 : ((ac + (q + 1) : Nat) : Int) = (I : Int) + 1 := by have := HGT.out.2; omega
      have HQ9 : Hid (ac + (q + 1) ≤ n) := Lib.hid (by have := HGT.out.2; omega)
      clear hm ho9 hg9 HR5 HS5
      go_wp2
      go_roundw
      case rel => exact ⟨q + 1, a9, n9, ys ++ [⟨some ⟨wr.heap.size, 0, none⟩, cap, bs⟩], HQ9.out, by rw [hI9], rfl, Lib.hid ⟨by simp [HY.out.1], by rw [List.map_append, HY.out.2, HGT.out.1]; rfl⟩, HM.out.1, Lib.hid (HB.out.trans HM.out.2)⟩
      case measure => simp [intOf]; omega
    · have hil' : ¬ (I : Int) < (n : Int) := by omega
      obtain rfl : I = n := by omega
      have hqn : I - ac = q := by omega
      go_wp2
      go_ret
      refine ⟨a, c', ys, rfl, ?_, ?_, hbw.out⟩
      · have := HY.out.2
        rw [List.take_of_length_le (by rw [List.length_drop, HL.out]; omega)] at this
        exact this
      · exact Lib.hid ⟨ownsRow_mono HR.out.row (by omega), HR.out.bds⟩
set_option maxRecDepth 100000 in
set_option maxHeartbeats 4000000 in
theorem sameFrames_yes (W : World) (a a2 : Option Addr) (n c c2 k : Nat) (ys zs : List Bv) (hn9 : (n : Int) ≤ 1000000 ∧ (k : Int) ≤ 1000000) (hy : ys.length = n) (hz : zs.map Bv.bs = ys.map Bv.bs) (h1 : Sl W 2 a n c (flatV frA (frL k ys))) (b1 : ∀ y ∈ ys, Sl W 1 y.a y.bs.length y.c (cs b8 y.bs)) (h2 : Sl W 2 a2 n c2 (flatV frA (frL k zs))) (b2 : ∀ y ∈ zs, Sl W 1 y.a y.bs.length y.c (cs b8 y.bs)) :
    Calls Try.prog 25 #[.slice a n c, .slice a2 n c2] W (fun e W' => e = .returned (.bool true) ∧ Below W.heap.size W W') := by
  have hz9 : zs.length = n := by have := congrArg List.length hz; simp at this; omega
  have HS := Lib.hid h1
  have HS2 := Lib.hid h2
  have HB1 := Lib.hid b1
  have HB2 := Lib.hid b2
  have HN := Lib.hid (And.intro hy (And.intro hz9 hz))
  clear h1 h2 b1 b2 hy hz hz9
  obtain ⟨hn9, hk9⟩ := hn9
  go_enter Try.func25, Try.ntmps25
  go_upto_region 4 with (fail)
  go_loopw [5] (fun i wr => ∃ q : Nat, q ≤ n ∧ i = .int .i64 (q : Int) ∧ Hid (Below W.heap.size W wr)) (fun i _ => n - (intOf i).toNat)
  case atStart => exact ⟨0, by omega, rfl, Below.refl _ _⟩
  case round =>
    obtain ⟨q, hq, rfl, HW⟩ := hrel
    have hq0 : (0 : Int) ≤ (q : Int) := by omega
    by_cases hqn : q < n
    · have hqn' : (q : Int) < (n : Int) := by omega
      obtain ⟨o1, m1, e, hc1⟩ := flat_at FrL.zero frA 2 (by decide) (fun _ => rfl) HS.out (by rw [frL_len]; exact HN.out.1) q hqn
      subst e
      obtain ⟨o2, m2, e, hc2⟩ := flat_at FrL.zero frA 2 (by decide) (fun _ => rfl) HS2.out (by rw [frL_len]; exact HN.out.2.1) q hqn
      subst e
      rw [frL_get k ys q (by rw [HN.out.1]; exact hqn)] at hc1
      rw [frL_get k zs q (by rw [HN.out.2.1]; exact hqn)] at hc2
      have hm1 := HB1.out (ys.getD q nilB) (by rw [List.getD_eq_getElem?_getD, List.getElem?_eq_getElem (by rw [HN.out.1]; exact hqn)]; exact List.getElem_mem _)
      have hm2 := HB2.out (zs.getD q nilB) (by rw [List.getD_eq_getElem?_getD, List.getElem?_eq_getElem (by rw [HN.out.2.1]; exact hqn)]; exact List.getElem_mem _)
      have hbe : (zs.getD q nilB).bs = (ys.getD q nilB).bs := by rw [← getD_map_bs zs q (by rw [HN.out.2.1]; exact hqn), ← getD_map_bs ys q (by rw [HN.out.1]; exact hqn), HN.out.2.2]
      generalize ys.getD q nilB = y at *
      generalize zs.getD q nilB = z at *
      obtain ⟨ya, yc, yb⟩ := y
      obtain ⟨za, zc, zb⟩ := z
      dsimp only at hm1 hm2 hbe
      subst hbe
      have p0 : wr.cell? ⟨o1, m1 + q * 2, none⟩ = some (.int .i64 ((k + q : Nat) : Int)) := cell_keep HW.out (hc1 0 _ rfl)
      have p1 : wr.cell? ⟨o1, m1 + q * 2 + 1, none⟩ = some (.slice ya zb.length yc) := cell_keep HW.out (hc1 1 _ rfl)
      have p2 : wr.cell? ⟨o2, m2 + q * 2, none⟩ = some (.int .i64 ((k + q : Nat) : Int)) := cell_keep HW.out (hc2 0 _ rfl)
      have p3 : wr.cell? ⟨o2, m2 + q * 2 + 1, none⟩ = some (.slice za zb.length zc) := cell_keep HW.out (hc2 1 _ rfl)
      generalize ((k + q : Nat) : Int) = kq at *
      have hcv1 : ∀ m, (convert 22 9 (.slice ya zb.length yc)).run Try.prog (wr.drewN m) = .ok (.string ⟨zb.toArray⟩) (wr.drewN m) := fun m => run_b2s (wr.drewN m) 22 9 5 Try.underlying22 Try.underlying9 Try.underlying5 (hm1.ext (below_drewN HW.out m))
      have hcv2 : ∀ m, (convert 22 9 (.slice za zb.length zc)).run Try.prog (wr.drewN m) = .ok (.string ⟨zb.toArray⟩) (wr.drewN m) := fun m => run_b2s (wr.drewN m) 22 9 5 Try.underlying22 Try.underlying9 Try.underlying5 (hm2.ext (below_drewN HW.out m))
      clear hc1 hc2 hm1 hm2
      go_wp2
      go_quiet (fail)
      go_wp2
      go_roundw
      case rel => exact ⟨q + 1, by omega, by go_num, by first | exact HW | exact Lib.hid (below_drewN HW.out _)⟩
      case measure => simp [intOf]; omega
    · have hqn' : ¬ (q : Int) < (n : Int) := by omega
      go_wp2
      go_ret
      exact ⟨rfl, HW.out⟩
end Go.Proofs.Ytfhcaikfbfoopaa
