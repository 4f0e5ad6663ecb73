/-
  LINK, THE REFERENCE: Take of a new frame.
-/
import Derived.Test.YtfhcaikfbfoopaaProg
import Derived.Test.YtfhcaikfbfoopaaBase1
import Derived.Test.YtfhcaikfbfoopaaBase2
import Derived.Test.YtfhcaikfbfoopaaBase3
import Derived.Test.YtfhcaikfbfoopaaBase5
import Derived.Test.YtfhcaikfbfoopaaBase6
import Derived.Test.YtfhcaikfbfoopaaBase11
import Derived.Test.YtfhcaikfbfoopaaBase13
import Derived.Test.YtfhcaikfbfoopaaBase14
import Derived.Test.YtfhcaikfbfoopaaHeld
import Derived.Test.YtfhcaikfbfoopaaFlat
import Derived.Test.YtfhcaikfbfoopaaLkP
import Derived.Test.YtfhcaikfbfoopaaLk1
import Derived.Test.YtfhcaikfbfoopaaLk2
import Derived.Test.YtfhcaikfbfoopaaLk3
import Derived.Test.YtfhcaikfbfoopaaLk6
import Derived.Test.YtfhcaikfbfoopaaLk9
import Derived.Test.YtfhcaikfbfoopaaLkS
import Derived.Test.YtfhcaikfbfoopaaLkM
import Derived.Test.YtfhcaikfbfoopaaLkF
import Derived.Test.YtfhcaikfbfoopaaLkG
import Derived.Test.YtfhcaikfbfoopaaLkJ
import Derived.Test.YtfhcaikfbfoopaaLkK
import Derived.Test.YtfhcaikfbfoopaaLkC
import Derived.Test.YtfhcaikfbfoopaaOrdT
import Derived.BigQuiet
import Derived.Laws.StructEq
import Derived.StillTailTactics
import Derived.RegionTactic
import Derived.BigRegion
import Derived.Deep.RegionHeld3
import Derived.Deep.RegionLaw
import Derived.Deep.DeepCutAuto
import Derived.Deep.QuietTactic
import Derived.WalkSpells
import Derived.WalkLawsBesides
namespace Go.Proofs.Ytfhcaikfbfoopaa
open Go.RowKit Go.Maps
set_option linter.unusedVariables false

/-- A row of bytes as a conversion lays it. -/
def BytesX (bs : List UInt8) (X : Array Value) (fz : Nat × Nat) (c : Nat) : Prop := X = bytesRow ⟨bs.toArray⟩ c ∧ bs.length ≤ c ∧ c ≤ maxLen
theorem bytes_bdr2 {W : World} {k c : Nat} {bs : List UInt8} {X : Array Value} {fz : Nat × Nat} (hx : BytesX bs X fz c) (h : W.heap[k]? = some (Obj.cells X 5 fz)) : BdR W ⟨some ⟨k, 0, none⟩, c, bs⟩ := by
  rw [hx.1] at h
  exact bytes_bdr h hx.2.1 hx.2.2
theorem belowB {w W : World} {B : Nat} (o : Obj) (h : Below B w W) (hB : B ≤ W.heap.size) : Below B w (W.alloc o) := h.alloc hB o
theorem keepDT {w w1 : World} {x y u : Value} (h : w1.cell? ⟨w.heap.size + 1, 0, none⟩ = some x ∧ w1.cell? ⟨w.heap.size + 1, 1, none⟩ = some y ∧ Below w.heap.size w w1) : (w1.setCell ⟨w.heap.size, 1, none⟩ u).cell? ⟨w.heap.size + 1, 0, none⟩ = some x ∧ (w1.setCell ⟨w.heap.size, 1, none⟩ u).cell? ⟨w.heap.size + 1, 1, none⟩ = some y ∧ Below w.heap.size w (w1.setCell ⟨w.heap.size, 1, none⟩ u) := by
  have hb : ∀ k, k ≠ w.heap.size → (w1.setCell ⟨w.heap.size, 1, none⟩ u).heap[k]? = w1.heap[k]? := fun k hk => heap_setCell_other _ _ _ _ hk
  have h1 := hb (w.heap.size + 1) (by omega)
  have h2 := h.1
  have h3 := h.2.1
  unfold World.cell? at h2 h3 ⊢
  dsimp only at h2 h3 ⊢
  rw [h1]
  exact ⟨h2, h3, h.2.2.setCell (p := ⟨w.heap.size, 1, none⟩) (Nat.le_refl _) _⟩
def leftK (K : List FrL) (n m : Nat) : List FrL := (K.take m).filter (fun y => decide ((n : Int) ≤ y.s))
section
variable {w w1 w2 : World} {a b c : Addr} {x y z : Value}
theorem keepQ (hb : Below w1.heap.size w1 w2) (h : w1.cell? a = some x ∧ w1.cell? b = some y ∧ w1.cell? c = some z ∧ Below w.heap.size w w1) : w2.cell? a = some x ∧ w2.cell? b = some y ∧ w2.cell? c = some z ∧ Below w.heap.size w w2 := ⟨cell_keep hb h.1, cell_keep hb h.2.1, cell_keep hb h.2.2.1, below_step h.2.2.2 hb⟩
theorem keepQD (h : w1.cell? a = some x ∧ w1.cell? b = some y ∧ w1.cell? c = some z ∧ Below w.heap.size w w1) : w1.drew.cell? a = some x ∧ w1.drew.cell? b = some y ∧ w1.drew.cell? c = some z ∧ Below w.heap.size w w1.drew := keepQ (below_drew (Below.refl _ _)) h
theorem keepQA (o : Obj) (h : w1.cell? a = some x ∧ w1.cell? b = some y ∧ w1.cell? c = some z ∧ Below w.heap.size w w1) : (w1.alloc o).cell? a = some x ∧ (w1.alloc o).cell? b = some y ∧ (w1.alloc o).cell? c = some z ∧ Below w.heap.size w (w1.alloc o) := keepQ (below_alloc _ _) h
end
/-- What Take of a new frame leaves. -/
def TakeNewRet (B : Nat) (o : List (List UInt8)) (K : List FrL) (q : Nat) (bs : List UInt8) (W : World) (e : Ending) (W' : World) : Prop :=
  ∃ (oa : Option Addr) (oc : Nat) (ka : Option Addr) (kc : Nat) (z : Bv) (o' : List (List UInt8)) (K' : List FrL), z.bs = bs ∧ Hid (o' = itD (K ++ [FrL.mk (q : Int) z]) 16 o ∧ K' = (K ++ [FrL.mk (q : Int) z]).filter (fun y => decide ((o'.length : Int) ≤ y.s))) ∧ e = .returned (.tuple #[.agg #[.slice oa o'.length oc, .slice ka K'.length kc], .int .i64 0]) ∧
    Hid (W'.ownsRow B 9 1 (.slice oa o'.length oc) o'.length (cs stb o')) ∧ Hid (W'.ownsRow B 56 2 (.slice ka K'.length kc) K'.length (flatV frA K')) ∧ Hid (∀ x ∈ K', BdR W' x.b) ∧ Below W.heap.size W W'
set_option maxRecDepth 100000 in
set_option maxHeartbeats 16000000 in
theorem refTake_new (W : World) (B : Nat) (oa : Option Addr) (oc : Nat) (ka : Option Addr) (kc : Nat) (q : Nat) (fa : Option Addr) (fc : Nat) (o : List (List UInt8)) (K : List FrL) (bs : List UInt8) (hO : W.ownsRow B 9 1 (.slice oa o.length oc) o.length (cs stb o)) (hK : W.ownsRow B 56 2 (.slice ka K.length kc) K.length (flatV frA K)) (hbd : ∀ x ∈ K, BdR W x.b) (hB : B ≤ W.heap.size) (hf : Sl W 1 fa bs.length fc (cs b8 bs))
    (hm : K.length ≤ 900) (h2 : ¬ 1048576 ≤ (q : Int)) (h3 : ¬ (256 : Int) < (bs.length : Int)) (hn : o.length ≤ 900) (h4 : ¬ (o.length : Int) + 16 ≤ (q : Int)) (h5 : ¬ (q : Int) < (o.length : Int)) (hR : Hid (lookK K (q : Int) = none)) :
    Calls Try.prog 30 #[.agg #[.slice oa o.length oc, .slice ka K.length kc], .agg #[.int .i64 (q : Int), .slice fa bs.length fc]] W (TakeNewRet B o K q bs W) := by
  have h0 : ¬ (q : Int) < 0 := by omega
  have hq0 : (0 : Int) ≤ (q : Int) := by omega
  have hb1 := below_step (below_step (below_alloc W (.cells #[.slice oa o.length oc, .slice ka K.length kc] 54)) (below_alloc _ (.cells #[.int .i64 (q : Int), .slice fa bs.length fc] 56))) (below_alloc _ (.cells #[.slice none 0 0, .slice none 0 0] 54))
  have HT1 : Hid (TkW W B (.slice oa o.length oc) o (.slice ka K.length kc) K (q : Int) (.slice fa bs.length fc) (((W.alloc (.cells #[.slice oa o.length oc, .slice ka K.length kc] 54)).alloc (.cells #[.int .i64 (q : Int), .slice fa bs.length fc] 56)).alloc (.cells #[.slice none 0 0, .slice none 0 0] 54))) := Lib.hid ⟨hp_old (hp_old (hp_new rfl)), hp_old (hp_new (by simp)), hp_new (by simp), ownsRow_ext hO hb1, ownsRow_ext hK hb1, fun x hx => (hbd x hx).keep (L := []) (Fx.ofBelow hb1) (fun j hj => by simp at hj), hb1, hB⟩
  have HKP : Hid (∀ W', Below W.heap.size W W' → Calls Try.prog 48 #[.agg #[.slice oa o.length oc, .slice ka K.length kc], .int .i64 (q : Int)] W' (fun e W'' => e = .returned (.tuple #[.string ⟨#[]⟩, .bool false]) ∧ Below W'.heap.size W' W'')) := Lib.hid (fun W' hb' => by
    obtain ⟨_, _, e, hk⟩ := sl_of_own hK
    cases e
    exact kept_any W' oa o.length oc ka K.length kc K (q : Int) rfl (hk.ext hb') (fun y hy => (hbd y hy).1.ext hb') (by omega) none hR)
  have HCV : Hid (∀ W', Below W.heap.size W W' → (convert 22 9 (.slice fa bs.length fc)).run Try.prog W' = .ok (.string ⟨bs.toArray⟩) W') := Lib.hid (fun W' hb' => run_b2s W' 22 9 5 Try.underlying22 Try.underlying9 Try.underlying5 (hf.ext hb'))
  clear hO hK hbd hf hb1 hR
  go_enter Try.func30, Try.ntmps30
  go_upto_region 1 with (fail)
  generalize ((W.alloc (.cells #[.slice oa o.length oc, .slice ka K.length kc] 54)).alloc (.cells #[.int .i64 (q : Int), .slice fa bs.length fc] 56)).alloc (.cells #[.slice none 0 0, .slice none 0 0] 54) = W1 at *
  obtain ⟨⟨c0, c1, f0, f1⟩, ⟨d0, d1⟩, z0, z1, y0, y1⟩ := tkCells HT1
  go_wp2_with fail
  refine (HKP.out _ HT1.out.lo).mono ?_
  rintro e W2 ⟨rfl, hb2⟩
  have HT2 := tkBelow HT1 hb2
  clear c0 c1 f0 f1 d0 d1 z0 z1 y0 y1 hb2 HT1 HKP
  obtain ⟨⟨c0, c1, f0, f1⟩, ⟨d0, d1⟩, z0, z1, y0, y1⟩ := tkCells HT2
  go_upto_region 14 with (fail)
  have hcv1 : (convert 22 9 (.slice fa bs.length fc)).run Try.prog W2.drew = .ok (.string ⟨bs.toArray⟩) W2.drew := HCV.out _ (below_drew HT2.out.lo)
  have hcv2 : ∀ o, (convert 22 9 (.slice fa bs.length fc)).run Try.prog (W2.alloc o).drew = .ok (.string ⟨bs.toArray⟩) (W2.alloc o).drew := fun o => HCV.out _ (below_drew (below_step HT2.out.lo (below_alloc _ _)))
  have hsb : (⟨bs.toArray⟩ : ByteArray).size = bs.length := by simp [ByteArray.size]
  obtain ⟨G, X, Fz, hs2b, hG⟩ : ∃ (G : World → Nat) (X : World → Array Value) (Fz : World → Nat × Nat), (∀ W', (convert 9 22 (.string ⟨bs.toArray⟩)).run Try.prog W' = .ok (.slice (some ⟨W'.heap.size, 0, none⟩) bs.length (G W')) (W'.drew.alloc (.cells (X W') 5 (Fz W')))) ∧ ∀ W', BytesX bs (X W') (Fz W') (G W') :=
    ⟨fun W' => grownCap W' bs.length 0 5, fun W' => bytesRow ⟨bs.toArray⟩ (grownCap W' bs.length 0 5), fun W' => ((bytesRow ⟨bs.toArray⟩ (grownCap W' bs.length 0 5)).size, (bytesRow ⟨bs.toArray⟩ (grownCap W' bs.length 0 5)).size + 1), fun W' => by
      have := run_bytes_of_string (P := Try.prog) W' 9 22 5 ⟨bs.toArray⟩ Try.underlying9 Try.underlying22 Try.underlying5
      rw [hsb] at this
      exact this, fun W' => ⟨rfl, grownCap_ge _ _ _ _, grownCap_le_maxLen _ _ _ _ (by unfold maxLen; omega)⟩⟩
  have HG := Lib.hid hG
  clear hG
  obtain ⟨ka2, kc2, e, hskl⟩ := tkK HT2
  cases e
  have HSK := Lib.hid hskl
  clear hskl hsb
  have hgl0 : W.heap.size < W2.heap.size := World.block_lt_of_cell? _ _ c0
  have hgl1 : W.heap.size + 1 < W2.heap.size := World.block_lt_of_cell? _ _ d0
  have hgl2 : W.heap.size + 1 + 1 < W2.heap.size := World.block_lt_of_cell? _ _ z0
  have hga1 : W.heap.size < W2.heap.size + 1 := by omega
  have hga2 : W.heap.size < W2.heap.size + 1 + 1 := by omega
  have hga3 : W.heap.size < W2.heap.size + 1 + 1 + 1 := by omega
  have hgb1 : W.heap.size + 1 < W2.heap.size + 1 := by omega
  have hgb2 : W.heap.size + 1 < W2.heap.size + 1 + 1 := by omega
  have hgb3 : W.heap.size + 1 < W2.heap.size + 1 + 1 + 1 := by omega
  go_cut [] (fun wx => ∃ (z : Bv) (a9 : Option Addr) (c9 : Nat), z.bs = bs ∧ Hid (TkW W B (.slice oa o.length oc) o (.slice a9 (K.length + 1) c9) (K ++ [FrL.mk (q : Int) z]) (q : Int) (.slice fa bs.length fc) wx))
  case first =>
    have hS0 : W2.drew.cell? ⟨W.heap.size, 1, none⟩ = some (.slice ka K.length kc) ∧ W2.drew.cell? ⟨W.heap.size + 1, 0, none⟩ = some (.int .i64 (q : Int)) ∧ W2.drew.cell? ⟨W.heap.size + 1, 1, none⟩ = some (.slice fa bs.length fc) ∧ Below W.heap.size W W2.drew := ⟨c1, d0, d1, below_drew HT2.out.lo⟩
    have hS00 : W2.cell? ⟨W.heap.size, 1, none⟩ = some (.slice ka K.length kc) ∧ W2.cell? ⟨W.heap.size + 1, 0, none⟩ = some (.int .i64 (q : Int)) ∧ W2.cell? ⟨W.heap.size + 1, 1, none⟩ = some (.slice fa bs.length fc) ∧ Below W.heap.size W W2 := ⟨c1, d0, d1, HT2.out.lo⟩
    have hBW2 : B ≤ W2.heap.size := Nat.le_trans hB HT2.out.lo.size
    have hcvC : ∀ W', Below W.heap.size W W' → (convert 22 9 (.slice fa bs.length fc)).run Try.prog W' = .ok (.string ⟨bs.toArray⟩) W' := HCV.out
    refine wp_region_T (t := 14) (S := fun w9 => w9.cell? ⟨W.heap.size, 1, none⟩ = some (.slice ka K.length kc) ∧ w9.cell? ⟨W.heap.size + 1, 0, none⟩ = some (.int .i64 (q : Int)) ∧ w9.cell? ⟨W.heap.size + 1, 1, none⟩ = some (.slice fa bs.length fc) ∧ Below W.heap.size W w9) (by kernel_rfl) hS0 (fun hHeld => ?_)
    refine wpAnyT_take (i := 1) (v := ?_) rfl (by kernel_rfl) (by kernel_rfl) (by kernel_rfl) (by kernel_rfl) (by kernel_rfl) (fun _ _ _ h => h) (Or.inl ⟨by rfl, ?_⟩) (by assumption) ?_
    rotate_left 1
    focus (intro w hSw; (try dsimp only at hSw); go_simp; try with_reducible rfl)
    try simp only [Act.put]
    refine wpAnyT_take (i := 2) (v := ?_) rfl (by kernel_rfl) (by kernel_rfl) (by kernel_rfl) (by kernel_rfl) (by kernel_rfl) (fun _ _ _ h => h) (Or.inl ⟨by rfl, ?_⟩) (by assumption) ?_
    rotate_left 1
    focus (intro w hSw; (try dsimp only at hSw); go_simp; try with_reducible rfl)
    try simp only [Act.put]
    refine wpAnyT_take (i := 4) (v := ?_) rfl (by kernel_rfl) (by kernel_rfl) (by kernel_rfl) (by kernel_rfl) (by kernel_rfl) (fun _ _ _ h => h) (Or.inl ⟨by rfl, ?_⟩) (by assumption) ?_
    rotate_left 1
    focus (intro w hSw; (try dsimp only at hSw); go_simp; try with_reducible rfl)
    try simp only [Act.put]
    refine wpAnyT_take (i := 5) (v := ?_) rfl (by kernel_rfl) (by kernel_rfl) (by kernel_rfl) (by kernel_rfl) (by kernel_rfl) (fun _ _ _ h => h) (Or.inl ⟨by rfl, ?_⟩) (by assumption) ?_
    rotate_left 1
    focus (intro w hSw; (try dsimp only at hSw); go_simp; try with_reducible rfl)
    try simp only [Act.put]
    refine wpAnyT_take (i := 6) (v := ?_) rfl (by kernel_rfl) (by kernel_rfl) (by kernel_rfl) (by kernel_rfl) (by kernel_rfl) (fun _ _ _ h => h) (Or.inl ⟨by rfl, ?_⟩) (by assumption) ?_
    rotate_left 1
    focus (intro w hSw; (try dsimp only at hSw); go_simp; try with_reducible rfl)
    try simp only [Act.put]
    refine wpAnyT_take (i := 7) (v := ?_) rfl (by kernel_rfl) (by kernel_rfl) (by kernel_rfl) (by kernel_rfl) (by kernel_rfl) (fun _ _ _ h => h) (Or.inl ⟨by rfl, ?_⟩) (by assumption) ?_
    rotate_left 1
    focus (intro w hSw; (try dsimp only at hSw); go_simp; try with_reducible rfl)
    try simp only [Act.put]
    refine wpAnyT_take (i := 8) (v := ?_) rfl (by kernel_rfl) (by kernel_rfl) (by kernel_rfl) (by kernel_rfl) (by kernel_rfl) (fun _ _ _ h => h) (Or.inl ⟨by rfl, ?_⟩) (by assumption) ?_
    rotate_left 1
    focus (intro w hSw; (try dsimp only at hSw); go_simp; try with_reducible rfl)
    try simp only [Act.put]
    refine wpAnyT_ready (rs := [0, 9]) (by kernel_rfl) (by simp) ?_
    refine AllReadyT.cons rfl (by decide) (fun K' hK => ?_) ?_
    · skip
      go_simp
      refine hK.out _ _ ?_ (fun hHeld => ?_)
      · (try dsimp only)
        (repeat (with_reducible first | assumption | refine keepQD ?_ | refine keepQA _ ?_))
      clear hK K'
      refine wpAnyT_ready (rs := [3, 9]) (by kernel_rfl) (by simp) ?_
      refine AllReadyT.cons rfl (by decide) (fun K' hK => ?_) ?_
      · skip
        refine step_append_flatT _ rfl (.tmp 69) (.tmp 71) 47 rfl W2.heap.size 56 (.agg #[.int .i64 0, .slice none 0 0]) 2 32 Try.underlying47 infoF rfl (by decide) (v := .slice (some ⟨_, 0, none⟩) 0 0) (n := 0) (xs := []) rfl (own_emptyS (by (repeat (first | ((with_reducible refine hp_new ?_); focus (simp; done)) | (with_reducible refine hp_drew ?_) | (with_reducible refine hp_old ?_)))) (by first | (simp; done) | (simp; omega) | omega)) (ao := ka) (m := K.length) (c := kc) (zs := flatV frA K) rfl (Sl.ext HSK.out (by (repeat (first | (with_reducible exact Below.refl _ _) | (with_reducible refine below_drew ?_) | (with_reducible refine belowA _ ?_))))) (flat_one K) (by unfold maxLen; omega) (by omega) (by first | (simp; done) | (simp; omega)) ?_
        intro v8 w8 ho8 hb8 ht8 hf8; have F8 := Lib.hid hf8; clear hf8; rw [Nat.zero_add, List.nil_append] at ho8; obtain ⟨a8, c8, e8, _⟩ := sl_of_own ho8; subst e8; have O8 := Lib.hid ho8; have T8 := Lib.hid ht8; have HB8 : Hid (Below W2.heap.size W2 w8) := Lib.hid (Below.trans (by (repeat (first | (with_reducible exact Below.refl _ _) | (with_reducible refine below_drew ?_) | (with_reducible refine belowA _ ?_)))) hb8); have hcv8 := HCV.out w8 (HT2.out.lo.trans (HB8.out.mono HT2.out.lo.size)); have hz8 := HB8.out.size; have hg8 : W.heap.size + 1 < w8.heap.size := Nat.lt_of_lt_of_le hgl1 hz8; have hg81 : W.heap.size + 1 < w8.heap.size + 1 := Nat.lt_succ_of_lt hg8; have hg82 : W.heap.size + 1 < w8.heap.size + 1 + 1 := Nat.lt_succ_of_lt hg81; have HT8 := tkBelow HT2 HB8.out; obtain ⟨⟨e2, _⟩, ⟨e0, e1⟩, _⟩ := tkCells HT8; obtain ⟨⟨_, e3, _⟩, _⟩ := tkCells HT8; have hs8 : w8.cell? ⟨W.heap.size, 1, none⟩ = some (.slice ka K.length kc) ∧ w8.cell? ⟨W.heap.size + 1, 0, none⟩ = some (.int .i64 (q : Int)) ∧ w8.cell? ⟨W.heap.size + 1, 1, none⟩ = some (.slice fa bs.length fc) ∧ Below W.heap.size W w8 := ⟨e3, e0, e1, HT8.out.lo⟩; clear ho8 hb8 ht8
        try go_simp
        refine hK.out _ _ ?_ (fun hHeld => ?_)
        · (try dsimp only)
          (repeat (with_reducible first | assumption | refine keepQD ?_ | refine keepQA _ ?_))
        clear hK K'
        refine wpAnyT_ready (rs := [9]) (by kernel_rfl) (by simp) ?_
        refine AllReadyT.cons rfl (by decide) (fun K' hK => ?_) ?_
        · skip
          go_simp
          refine hK.out _ _ ?_ (fun hHeld => ?_)
          · (try dsimp only)
            (repeat (with_reducible first | assumption | refine keepQD ?_ | refine keepQA _ ?_))
          clear hK K'
          refine wpAnyT_take (i := 10) (v := ?_) rfl (by kernel_rfl) (by kernel_rfl) (by kernel_rfl) (by kernel_rfl) (by kernel_rfl) (fun _ _ _ h => h) (Or.inl ⟨by rfl, ?_⟩) (by assumption) ?_
          rotate_left 1
          focus (intro w hSw; (try dsimp only at hSw); go_simp; try with_reducible rfl)
          try simp only [Act.put]
          refine wpAnyT_ready (rs := [11]) (by kernel_rfl) (by simp) ?_
          refine AllReadyT.cons rfl (by decide) (fun K' hK => ?_) ?_
          · skip
            go_simp
            refine hK.out _ _ ?_ (fun hHeld => ?_)
            · (try dsimp only)
              (repeat (with_reducible first | assumption | refine keepQD ?_ | refine keepQA _ ?_))
            clear hK K'
            refine wpAnyT_ready (rs := [12]) (by kernel_rfl) (by simp) ?_
            refine AllReadyT.cons rfl (by decide) (fun K' hK => ?_) ?_
            · skip
              refine step_append_rowT (C := ?_) _ rfl (.tmp 72) (.tmp 80) 47 rfl W2.heap.size 56 (.agg #[.int .i64 0, .slice none 0 0]) 2 32 Try.underlying47 infoF rfl (by decide) (v := .slice a8 K.length c8) (n := K.length) (xs := flatV frA K) rfl (Hid.out (by (repeat (first | (with_reducible assumption) | (with_reducible refine stDrewF ?_) | (with_reducible refine stAllocF ?_))))) rfl ?_ ?_ ?_ (by unfold maxLen; omega) (by omega) (by first | assumption | (simp; done) | (simp; omega)) ?_
              rotate_left 1; (focus (repeat (first | ((with_reducible refine blkNew ?_); focus (simp; done)) | (with_reducible refine blkDrew ?_) | (with_reducible refine blkOld ?_) | ((with_reducible refine F8.out _ _ ?_ ?_); rotate_left 1; focus (first | (simp [Value.ownBlock]; done) | (simp [Value.ownBlock]; omega)))))); (focus rfl); (focus (intro u hu; simp at hu; rcases hu with rfl | rfl <;> rfl)); intro v9 w9 ho9 hb9 ht9 hf9; clear hf9; obtain ⟨a9, c9, e9, _⟩ := sl_of_own ho9; subst e9; have O9 := Lib.hid ho9; have T9 := Lib.hid ht9; have HB9 : Hid (Below W2.heap.size W2 w9) := Lib.hid (Below.trans (by (repeat (first | (with_reducible exact HB8.out) | (with_reducible refine below_drew ?_) | (with_reducible refine belowA _ ?_)))) hb9); have HT9 := tkBelow HT2 HB9.out; obtain ⟨⟨_, g1, _, g2⟩, ⟨g3, g4⟩, _⟩ := tkCells HT9; have hs9 : w9.cell? ⟨W.heap.size, 1, none⟩ = some (.slice ka K.length kc) ∧ w9.cell? ⟨W.heap.size + 1, 0, none⟩ = some (.int .i64 (q : Int)) ∧ w9.cell? ⟨W.heap.size + 1, 1, none⟩ = some (.slice fa bs.length fc) ∧ Below W.heap.size W w9 := ⟨g1, g3, g4, HT9.out.lo⟩; clear ho9 hb9 ht9
              try go_simp
              refine hK.out _ _ ?_ (fun hHeld => ?_)
              · (try dsimp only)
                (repeat (with_reducible first | assumption | refine keepQD ?_ | refine keepQA _ ?_))
              clear hK K'
              refine wpAnyT_take (i := 13) (v := ?_) rfl (by kernel_rfl) (by kernel_rfl) (by kernel_rfl) (by kernel_rfl) (by kernel_rfl) (fun _ _ _ h => h) (Or.inl ⟨by rfl, ?_⟩) (by assumption) ?_
              rotate_left 1
              focus (intro w hSw; (try dsimp only at hSw); go_simp; try with_reducible rfl)
              try simp only [Act.put]
              refine wpAnyT_ready (rs := [14]) (by kernel_rfl) (by simp) ?_
              refine AllReadyT.last rfl (fun K hK => ?_)
              go_simp
              refine hK.out _ _ ?_
              clear hK K
              refine wpAnyT_done (by kernel_rfl) ?_ _
              go_wp2_with fail
              go_meet
              refine ⟨⟨_, _, bs⟩, a9, c9, rfl, tkSetK (K' := K ++ [⟨(q : Int), ⟨_, _, bs⟩⟩]) HT9 (by rw [flatV_append, List.length_append]; exact ownsRow_mono O9.out hBW2) (fun x hx => ?_)⟩
              rcases List.mem_append.1 hx with hx | hx
              · exact HT9.out.bd x hx
              · simp at hx; subst hx
                exact bytes_bdr2 (HG.out _) (by (repeat (first | (with_reducible refine T9.out _ _ _ _ ?_ (by decide)) | (with_reducible refine T8.out _ _ _ _ ?_ (by decide)) | ((with_reducible refine hp_new ?_); focus (simp; done)) | (with_reducible refine hp_drew ?_) | (with_reducible refine hp_old ?_))))
            exact AllReadyT.nil
          exact AllReadyT.nil
        exact AllReadyT.nil
      refine AllReadyT.cons rfl (by decide) (fun K' hK => ?_) ?_
      · skip
        go_simp
        refine hK.out _ _ ?_ (fun hHeld => ?_)
        · (try dsimp only)
          (repeat (with_reducible first | assumption | refine keepQD ?_ | refine keepQA _ ?_))
        clear hK K'
        refine wpAnyT_take (i := 10) (v := ?_) rfl (by kernel_rfl) (by kernel_rfl) (by kernel_rfl) (by kernel_rfl) (by kernel_rfl) (fun _ _ _ h => h) (Or.inl ⟨by rfl, ?_⟩) (by assumption) ?_
        rotate_left 1
        focus (intro w hSw; (try dsimp only at hSw); go_simp; try with_reducible rfl)
        try simp only [Act.put]
        refine wpAnyT_ready (rs := [3, 11]) (by kernel_rfl) (by simp) ?_
        refine AllReadyT.cons rfl (by decide) (fun K' hK => ?_) ?_
        · skip
          refine step_append_flatT _ rfl (.tmp 69) (.tmp 71) 47 rfl W2.heap.size 56 (.agg #[.int .i64 0, .slice none 0 0]) 2 32 Try.underlying47 infoF rfl (by decide) (v := .slice (some ⟨_, 0, none⟩) 0 0) (n := 0) (xs := []) rfl (own_emptyS (by (repeat (first | ((with_reducible refine hp_new ?_); focus (simp; done)) | (with_reducible refine hp_drew ?_) | (with_reducible refine hp_old ?_)))) (by first | (simp; done) | (simp; omega) | omega)) (ao := ka) (m := K.length) (c := kc) (zs := flatV frA K) rfl (Sl.ext HSK.out (by (repeat (first | (with_reducible exact Below.refl _ _) | (with_reducible refine below_drew ?_) | (with_reducible refine belowA _ ?_))))) (flat_one K) (by unfold maxLen; omega) (by omega) (by first | (simp; done) | (simp; omega)) ?_
          intro v8 w8 ho8 hb8 ht8 hf8; have F8 := Lib.hid hf8; clear hf8; rw [Nat.zero_add, List.nil_append] at ho8; obtain ⟨a8, c8, e8, _⟩ := sl_of_own ho8; subst e8; have O8 := Lib.hid ho8; have T8 := Lib.hid ht8; have HB8 : Hid (Below W2.heap.size W2 w8) := Lib.hid (Below.trans (by (repeat (first | (with_reducible exact Below.refl _ _) | (with_reducible refine below_drew ?_) | (with_reducible refine belowA _ ?_)))) hb8); have hcv8 := HCV.out w8 (HT2.out.lo.trans (HB8.out.mono HT2.out.lo.size)); have hz8 := HB8.out.size; have hg8 : W.heap.size + 1 < w8.heap.size := Nat.lt_of_lt_of_le hgl1 hz8; have hg81 : W.heap.size + 1 < w8.heap.size + 1 := Nat.lt_succ_of_lt hg8; have hg82 : W.heap.size + 1 < w8.heap.size + 1 + 1 := Nat.lt_succ_of_lt hg81; have HT8 := tkBelow HT2 HB8.out; obtain ⟨⟨e2, _⟩, ⟨e0, e1⟩, _⟩ := tkCells HT8; obtain ⟨⟨_, e3, _⟩, _⟩ := tkCells HT8; have hs8 : w8.cell? ⟨W.heap.size, 1, none⟩ = some (.slice ka K.length kc) ∧ w8.cell? ⟨W.heap.size + 1, 0, none⟩ = some (.int .i64 (q : Int)) ∧ w8.cell? ⟨W.heap.size + 1, 1, none⟩ = some (.slice fa bs.length fc) ∧ Below W.heap.size W w8 := ⟨e3, e0, e1, HT8.out.lo⟩; clear ho8 hb8 ht8
          try go_simp
          refine hK.out _ _ ?_ (fun hHeld => ?_)
          · (try dsimp only)
            (repeat (with_reducible first | assumption | refine keepQD ?_ | refine keepQA _ ?_))
          clear hK K'
          refine wpAnyT_ready (rs := [11]) (by kernel_rfl) (by simp) ?_
          refine AllReadyT.cons rfl (by decide) (fun K' hK => ?_) ?_
          · skip
            go_simp
            refine hK.out _ _ ?_ (fun hHeld => ?_)
            · (try dsimp only)
              (repeat (with_reducible first | assumption | refine keepQD ?_ | refine keepQA _ ?_))
            clear hK K'
            refine wpAnyT_ready (rs := [12]) (by kernel_rfl) (by simp) ?_
            refine AllReadyT.cons rfl (by decide) (fun K' hK => ?_) ?_
            · skip
              refine step_append_rowT (C := ?_) _ rfl (.tmp 72) (.tmp 80) 47 rfl W2.heap.size 56 (.agg #[.int .i64 0, .slice none 0 0]) 2 32 Try.underlying47 infoF rfl (by decide) (v := .slice a8 K.length c8) (n := K.length) (xs := flatV frA K) rfl (Hid.out (by (repeat (first | (with_reducible assumption) | (with_reducible refine stDrewF ?_) | (with_reducible refine stAllocF ?_))))) rfl ?_ ?_ ?_ (by unfold maxLen; omega) (by omega) (by first | assumption | (simp; done) | (simp; omega)) ?_
              rotate_left 1; (focus (repeat (first | ((with_reducible refine blkNew ?_); focus (simp; done)) | (with_reducible refine blkDrew ?_) | (with_reducible refine blkOld ?_) | ((with_reducible refine F8.out _ _ ?_ ?_); rotate_left 1; focus (first | (simp [Value.ownBlock]; done) | (simp [Value.ownBlock]; omega)))))); (focus rfl); (focus (intro u hu; simp at hu; rcases hu with rfl | rfl <;> rfl)); intro v9 w9 ho9 hb9 ht9 hf9; clear hf9; obtain ⟨a9, c9, e9, _⟩ := sl_of_own ho9; subst e9; have O9 := Lib.hid ho9; have T9 := Lib.hid ht9; have HB9 : Hid (Below W2.heap.size W2 w9) := Lib.hid (Below.trans (by (repeat (first | (with_reducible exact HB8.out) | (with_reducible refine below_drew ?_) | (with_reducible refine belowA _ ?_)))) hb9); have HT9 := tkBelow HT2 HB9.out; obtain ⟨⟨_, g1, _, g2⟩, ⟨g3, g4⟩, _⟩ := tkCells HT9; have hs9 : w9.cell? ⟨W.heap.size, 1, none⟩ = some (.slice ka K.length kc) ∧ w9.cell? ⟨W.heap.size + 1, 0, none⟩ = some (.int .i64 (q : Int)) ∧ w9.cell? ⟨W.heap.size + 1, 1, none⟩ = some (.slice fa bs.length fc) ∧ Below W.heap.size W w9 := ⟨g1, g3, g4, HT9.out.lo⟩; clear ho9 hb9 ht9
              try go_simp
              refine hK.out _ _ ?_ (fun hHeld => ?_)
              · (try dsimp only)
                (repeat (with_reducible first | assumption | refine keepQD ?_ | refine keepQA _ ?_))
              clear hK K'
              refine wpAnyT_take (i := 13) (v := ?_) rfl (by kernel_rfl) (by kernel_rfl) (by kernel_rfl) (by kernel_rfl) (by kernel_rfl) (fun _ _ _ h => h) (Or.inl ⟨by rfl, ?_⟩) (by assumption) ?_
              rotate_left 1
              focus (intro w hSw; (try dsimp only at hSw); go_simp; try with_reducible rfl)
              try simp only [Act.put]
              refine wpAnyT_ready (rs := [14]) (by kernel_rfl) (by simp) ?_
              refine AllReadyT.last rfl (fun K hK => ?_)
              go_simp
              refine hK.out _ _ ?_
              clear hK K
              refine wpAnyT_done (by kernel_rfl) ?_ _
              go_wp2_with fail
              go_meet
              refine ⟨⟨_, _, bs⟩, a9, c9, rfl, tkSetK (K' := K ++ [⟨(q : Int), ⟨_, _, bs⟩⟩]) HT9 (by rw [flatV_append, List.length_append]; exact ownsRow_mono O9.out hBW2) (fun x hx => ?_)⟩
              rcases List.mem_append.1 hx with hx | hx
              · exact HT9.out.bd x hx
              · simp at hx; subst hx
                exact bytes_bdr2 (HG.out _) (by (repeat (first | (with_reducible refine T9.out _ _ _ _ ?_ (by decide)) | (with_reducible refine T8.out _ _ _ _ ?_ (by decide)) | ((with_reducible refine hp_new ?_); focus (simp; done)) | (with_reducible refine hp_drew ?_) | (with_reducible refine hp_old ?_))))
            exact AllReadyT.nil
          exact AllReadyT.nil
        refine AllReadyT.cons rfl (by decide) (fun K' hK => ?_) ?_
        · skip
          go_simp
          refine hK.out _ _ ?_ (fun hHeld => ?_)
          · (try dsimp only)
            (repeat (with_reducible first | assumption | refine keepQD ?_ | refine keepQA _ ?_))
          clear hK K'
          refine wpAnyT_ready (rs := [3]) (by kernel_rfl) (by simp) ?_
          refine AllReadyT.cons rfl (by decide) (fun K' hK => ?_) ?_
          · skip
            refine step_append_flatT _ rfl (.tmp 69) (.tmp 71) 47 rfl W2.heap.size 56 (.agg #[.int .i64 0, .slice none 0 0]) 2 32 Try.underlying47 infoF rfl (by decide) (v := .slice (some ⟨_, 0, none⟩) 0 0) (n := 0) (xs := []) rfl (own_emptyS (by (repeat (first | ((with_reducible refine hp_new ?_); focus (simp; done)) | (with_reducible refine hp_drew ?_) | (with_reducible refine hp_old ?_)))) (by first | (simp; done) | (simp; omega) | omega)) (ao := ka) (m := K.length) (c := kc) (zs := flatV frA K) rfl (Sl.ext HSK.out (by (repeat (first | (with_reducible exact Below.refl _ _) | (with_reducible refine below_drew ?_) | (with_reducible refine belowA _ ?_))))) (flat_one K) (by unfold maxLen; omega) (by omega) (by first | (simp; done) | (simp; omega)) ?_
            intro v8 w8 ho8 hb8 ht8 hf8; have F8 := Lib.hid hf8; clear hf8; rw [Nat.zero_add, List.nil_append] at ho8; obtain ⟨a8, c8, e8, _⟩ := sl_of_own ho8; subst e8; have O8 := Lib.hid ho8; have T8 := Lib.hid ht8; have HB8 : Hid (Below W2.heap.size W2 w8) := Lib.hid (Below.trans (by (repeat (first | (with_reducible exact Below.refl _ _) | (with_reducible refine below_drew ?_) | (with_reducible refine belowA _ ?_)))) hb8); have hcv8 := HCV.out w8 (HT2.out.lo.trans (HB8.out.mono HT2.out.lo.size)); have hz8 := HB8.out.size; have hg8 : W.heap.size + 1 < w8.heap.size := Nat.lt_of_lt_of_le hgl1 hz8; have hg81 : W.heap.size + 1 < w8.heap.size + 1 := Nat.lt_succ_of_lt hg8; have hg82 : W.heap.size + 1 < w8.heap.size + 1 + 1 := Nat.lt_succ_of_lt hg81; have HT8 := tkBelow HT2 HB8.out; obtain ⟨⟨e2, _⟩, ⟨e0, e1⟩, _⟩ := tkCells HT8; obtain ⟨⟨_, e3, _⟩, _⟩ := tkCells HT8; have hs8 : w8.cell? ⟨W.heap.size, 1, none⟩ = some (.slice ka K.length kc) ∧ w8.cell? ⟨W.heap.size + 1, 0, none⟩ = some (.int .i64 (q : Int)) ∧ w8.cell? ⟨W.heap.size + 1, 1, none⟩ = some (.slice fa bs.length fc) ∧ Below W.heap.size W w8 := ⟨e3, e0, e1, HT8.out.lo⟩; clear ho8 hb8 ht8
            try go_simp
            refine hK.out _ _ ?_ (fun hHeld => ?_)
            · (try dsimp only)
              (repeat (with_reducible first | assumption | refine keepQD ?_ | refine keepQA _ ?_))
            clear hK K'
            refine wpAnyT_ready (rs := [12]) (by kernel_rfl) (by simp) ?_
            refine AllReadyT.cons rfl (by decide) (fun K' hK => ?_) ?_
            · skip
              refine step_append_rowT (C := ?_) _ rfl (.tmp 72) (.tmp 80) 47 rfl W2.heap.size 56 (.agg #[.int .i64 0, .slice none 0 0]) 2 32 Try.underlying47 infoF rfl (by decide) (v := .slice a8 K.length c8) (n := K.length) (xs := flatV frA K) rfl (Hid.out (by (repeat (first | (with_reducible assumption) | (with_reducible refine stDrewF ?_) | (with_reducible refine stAllocF ?_))))) rfl ?_ ?_ ?_ (by unfold maxLen; omega) (by omega) (by first | assumption | (simp; done) | (simp; omega)) ?_
              rotate_left 1; (focus (repeat (first | ((with_reducible refine blkNew ?_); focus (simp; done)) | (with_reducible refine blkDrew ?_) | (with_reducible refine blkOld ?_) | ((with_reducible refine F8.out _ _ ?_ ?_); rotate_left 1; focus (first | (simp [Value.ownBlock]; done) | (simp [Value.ownBlock]; omega)))))); (focus rfl); (focus (intro u hu; simp at hu; rcases hu with rfl | rfl <;> rfl)); intro v9 w9 ho9 hb9 ht9 hf9; clear hf9; obtain ⟨a9, c9, e9, _⟩ := sl_of_own ho9; subst e9; have O9 := Lib.hid ho9; have T9 := Lib.hid ht9; have HB9 : Hid (Below W2.heap.size W2 w9) := Lib.hid (Below.trans (by (repeat (first | (with_reducible exact HB8.out) | (with_reducible refine below_drew ?_) | (with_reducible refine belowA _ ?_)))) hb9); have HT9 := tkBelow HT2 HB9.out; obtain ⟨⟨_, g1, _, g2⟩, ⟨g3, g4⟩, _⟩ := tkCells HT9; have hs9 : w9.cell? ⟨W.heap.size, 1, none⟩ = some (.slice ka K.length kc) ∧ w9.cell? ⟨W.heap.size + 1, 0, none⟩ = some (.int .i64 (q : Int)) ∧ w9.cell? ⟨W.heap.size + 1, 1, none⟩ = some (.slice fa bs.length fc) ∧ Below W.heap.size W w9 := ⟨g1, g3, g4, HT9.out.lo⟩; clear ho9 hb9 ht9
              try go_simp
              refine hK.out _ _ ?_ (fun hHeld => ?_)
              · (try dsimp only)
                (repeat (with_reducible first | assumption | refine keepQD ?_ | refine keepQA _ ?_))
              clear hK K'
              refine wpAnyT_take (i := 13) (v := ?_) rfl (by kernel_rfl) (by kernel_rfl) (by kernel_rfl) (by kernel_rfl) (by kernel_rfl) (fun _ _ _ h => h) (Or.inl ⟨by rfl, ?_⟩) (by assumption) ?_
              rotate_left 1
              focus (intro w hSw; (try dsimp only at hSw); go_simp; try with_reducible rfl)
              try simp only [Act.put]
              refine wpAnyT_ready (rs := [14]) (by kernel_rfl) (by simp) ?_
              refine AllReadyT.last rfl (fun K hK => ?_)
              go_simp
              refine hK.out _ _ ?_
              clear hK K
              refine wpAnyT_done (by kernel_rfl) ?_ _
              go_wp2_with fail
              go_meet
              refine ⟨⟨_, _, bs⟩, a9, c9, rfl, tkSetK (K' := K ++ [⟨(q : Int), ⟨_, _, bs⟩⟩]) HT9 (by rw [flatV_append, List.length_append]; exact ownsRow_mono O9.out hBW2) (fun x hx => ?_)⟩
              rcases List.mem_append.1 hx with hx | hx
              · exact HT9.out.bd x hx
              · simp at hx; subst hx
                exact bytes_bdr2 (HG.out _) (by (repeat (first | (with_reducible refine T9.out _ _ _ _ ?_ (by decide)) | (with_reducible refine T8.out _ _ _ _ ?_ (by decide)) | ((with_reducible refine hp_new ?_); focus (simp; done)) | (with_reducible refine hp_drew ?_) | (with_reducible refine hp_old ?_))))
            exact AllReadyT.nil
          exact AllReadyT.nil
        exact AllReadyT.nil
      exact AllReadyT.nil
    refine AllReadyT.cons rfl (by decide) (fun K' hK => ?_) ?_
    · skip
      go_simp
      refine hK.out _ _ ?_ (fun hHeld => ?_)
      · (try dsimp only)
        (repeat (with_reducible first | assumption | refine keepQD ?_ | refine keepQA _ ?_))
      clear hK K'
      refine wpAnyT_take (i := 10) (v := ?_) rfl (by kernel_rfl) (by kernel_rfl) (by kernel_rfl) (by kernel_rfl) (by kernel_rfl) (fun _ _ _ h => h) (Or.inl ⟨by rfl, ?_⟩) (by assumption) ?_
      rotate_left 1
      focus (intro w hSw; (try dsimp only at hSw); go_simp; try with_reducible rfl)
      try simp only [Act.put]
      refine wpAnyT_ready (rs := [0, 11]) (by kernel_rfl) (by simp) ?_
      refine AllReadyT.cons rfl (by decide) (fun K' hK => ?_) ?_
      · skip
        go_simp
        refine hK.out _ _ ?_ (fun hHeld => ?_)
        · (try dsimp only)
          (repeat (with_reducible first | assumption | refine keepQD ?_ | refine keepQA _ ?_))
        clear hK K'
        refine wpAnyT_ready (rs := [3, 11]) (by kernel_rfl) (by simp) ?_
        refine AllReadyT.cons rfl (by decide) (fun K' hK => ?_) ?_
        · skip
          refine step_append_flatT _ rfl (.tmp 69) (.tmp 71) 47 rfl W2.heap.size 56 (.agg #[.int .i64 0, .slice none 0 0]) 2 32 Try.underlying47 infoF rfl (by decide) (v := .slice (some ⟨_, 0, none⟩) 0 0) (n := 0) (xs := []) rfl (own_emptyS (by (repeat (first | ((with_reducible refine hp_new ?_); focus (simp; done)) | (with_reducible refine hp_drew ?_) | (with_reducible refine hp_old ?_)))) (by first | (simp; done) | (simp; omega) | omega)) (ao := ka) (m := K.length) (c := kc) (zs := flatV frA K) rfl (Sl.ext HSK.out (by (repeat (first | (with_reducible exact Below.refl _ _) | (with_reducible refine below_drew ?_) | (with_reducible refine belowA _ ?_))))) (flat_one K) (by unfold maxLen; omega) (by omega) (by first | (simp; done) | (simp; omega)) ?_
          intro v8 w8 ho8 hb8 ht8 hf8; have F8 := Lib.hid hf8; clear hf8; rw [Nat.zero_add, List.nil_append] at ho8; obtain ⟨a8, c8, e8, _⟩ := sl_of_own ho8; subst e8; have O8 := Lib.hid ho8; have T8 := Lib.hid ht8; have HB8 : Hid (Below W2.heap.size W2 w8) := Lib.hid (Below.trans (by (repeat (first | (with_reducible exact Below.refl _ _) | (with_reducible refine below_drew ?_) | (with_reducible refine belowA _ ?_)))) hb8); have hcv8 := HCV.out w8 (HT2.out.lo.trans (HB8.out.mono HT2.out.lo.size)); have hz8 := HB8.out.size; have hg8 : W.heap.size + 1 < w8.heap.size := Nat.lt_of_lt_of_le hgl1 hz8; have hg81 : W.heap.size + 1 < w8.heap.size + 1 := Nat.lt_succ_of_lt hg8; have hg82 : W.heap.size + 1 < w8.heap.size + 1 + 1 := Nat.lt_succ_of_lt hg81; have HT8 := tkBelow HT2 HB8.out; obtain ⟨⟨e2, _⟩, ⟨e0, e1⟩, _⟩ := tkCells HT8; obtain ⟨⟨_, e3, _⟩, _⟩ := tkCells HT8; have hs8 : w8.cell? ⟨W.heap.size, 1, none⟩ = some (.slice ka K.length kc) ∧ w8.cell? ⟨W.heap.size + 1, 0, none⟩ = some (.int .i64 (q : Int)) ∧ w8.cell? ⟨W.heap.size + 1, 1, none⟩ = some (.slice fa bs.length fc) ∧ Below W.heap.size W w8 := ⟨e3, e0, e1, HT8.out.lo⟩; clear ho8 hb8 ht8
          try go_simp
          refine hK.out _ _ ?_ (fun hHeld => ?_)
          · (try dsimp only)
            (repeat (with_reducible first | assumption | refine keepQD ?_ | refine keepQA _ ?_))
          clear hK K'
          refine wpAnyT_ready (rs := [11]) (by kernel_rfl) (by simp) ?_
          refine AllReadyT.cons rfl (by decide) (fun K' hK => ?_) ?_
          · skip
            go_simp
            refine hK.out _ _ ?_ (fun hHeld => ?_)
            · (try dsimp only)
              (repeat (with_reducible first | assumption | refine keepQD ?_ | refine keepQA _ ?_))
            clear hK K'
            refine wpAnyT_ready (rs := [12]) (by kernel_rfl) (by simp) ?_
            refine AllReadyT.cons rfl (by decide) (fun K' hK => ?_) ?_
            · skip
              refine step_append_rowT (C := ?_) _ rfl (.tmp 72) (.tmp 80) 47 rfl W2.heap.size 56 (.agg #[.int .i64 0, .slice none 0 0]) 2 32 Try.underlying47 infoF rfl (by decide) (v := .slice a8 K.length c8) (n := K.length) (xs := flatV frA K) rfl (Hid.out (by (repeat (first | (with_reducible assumption) | (with_reducible refine stDrewF ?_) | (with_reducible refine stAllocF ?_))))) rfl ?_ ?_ ?_ (by unfold maxLen; omega) (by omega) (by first | assumption | (simp; done) | (simp; omega)) ?_
              rotate_left 1; (focus (repeat (first | ((with_reducible refine blkNew ?_); focus (simp; done)) | (with_reducible refine blkDrew ?_) | (with_reducible refine blkOld ?_) | ((with_reducible refine F8.out _ _ ?_ ?_); rotate_left 1; focus (first | (simp [Value.ownBlock]; done) | (simp [Value.ownBlock]; omega)))))); (focus rfl); (focus (intro u hu; simp at hu; rcases hu with rfl | rfl <;> rfl)); intro v9 w9 ho9 hb9 ht9 hf9; clear hf9; obtain ⟨a9, c9, e9, _⟩ := sl_of_own ho9; subst e9; have O9 := Lib.hid ho9; have T9 := Lib.hid ht9; have HB9 : Hid (Below W2.heap.size W2 w9) := Lib.hid (Below.trans (by (repeat (first | (with_reducible exact HB8.out) | (with_reducible refine below_drew ?_) | (with_reducible refine belowA _ ?_)))) hb9); have HT9 := tkBelow HT2 HB9.out; obtain ⟨⟨_, g1, _, g2⟩, ⟨g3, g4⟩, _⟩ := tkCells HT9; have hs9 : w9.cell? ⟨W.heap.size, 1, none⟩ = some (.slice ka K.length kc) ∧ w9.cell? ⟨W.heap.size + 1, 0, none⟩ = some (.int .i64 (q : Int)) ∧ w9.cell? ⟨W.heap.size + 1, 1, none⟩ = some (.slice fa bs.length fc) ∧ Below W.heap.size W w9 := ⟨g1, g3, g4, HT9.out.lo⟩; clear ho9 hb9 ht9
              try go_simp
              refine hK.out _ _ ?_ (fun hHeld => ?_)
              · (try dsimp only)
                (repeat (with_reducible first | assumption | refine keepQD ?_ | refine keepQA _ ?_))
              clear hK K'
              refine wpAnyT_take (i := 13) (v := ?_) rfl (by kernel_rfl) (by kernel_rfl) (by kernel_rfl) (by kernel_rfl) (by kernel_rfl) (fun _ _ _ h => h) (Or.inl ⟨by rfl, ?_⟩) (by assumption) ?_
              rotate_left 1
              focus (intro w hSw; (try dsimp only at hSw); go_simp; try with_reducible rfl)
              try simp only [Act.put]
              refine wpAnyT_ready (rs := [14]) (by kernel_rfl) (by simp) ?_
              refine AllReadyT.last rfl (fun K hK => ?_)
              go_simp
              refine hK.out _ _ ?_
              clear hK K
              refine wpAnyT_done (by kernel_rfl) ?_ _
              go_wp2_with fail
              go_meet
              refine ⟨⟨_, _, bs⟩, a9, c9, rfl, tkSetK (K' := K ++ [⟨(q : Int), ⟨_, _, bs⟩⟩]) HT9 (by rw [flatV_append, List.length_append]; exact ownsRow_mono O9.out hBW2) (fun x hx => ?_)⟩
              rcases List.mem_append.1 hx with hx | hx
              · exact HT9.out.bd x hx
              · simp at hx; subst hx
                exact bytes_bdr2 (HG.out _) (by (repeat (first | (with_reducible refine T9.out _ _ _ _ ?_ (by decide)) | (with_reducible refine T8.out _ _ _ _ ?_ (by decide)) | ((with_reducible refine hp_new ?_); focus (simp; done)) | (with_reducible refine hp_drew ?_) | (with_reducible refine hp_old ?_))))
            exact AllReadyT.nil
          exact AllReadyT.nil
        refine AllReadyT.cons rfl (by decide) (fun K' hK => ?_) ?_
        · skip
          go_simp
          refine hK.out _ _ ?_ (fun hHeld => ?_)
          · (try dsimp only)
            (repeat (with_reducible first | assumption | refine keepQD ?_ | refine keepQA _ ?_))
          clear hK K'
          refine wpAnyT_ready (rs := [3]) (by kernel_rfl) (by simp) ?_
          refine AllReadyT.cons rfl (by decide) (fun K' hK => ?_) ?_
          · skip
            refine step_append_flatT _ rfl (.tmp 69) (.tmp 71) 47 rfl W2.heap.size 56 (.agg #[.int .i64 0, .slice none 0 0]) 2 32 Try.underlying47 infoF rfl (by decide) (v := .slice (some ⟨_, 0, none⟩) 0 0) (n := 0) (xs := []) rfl (own_emptyS (by (repeat (first | ((with_reducible refine hp_new ?_); focus (simp; done)) | (with_reducible refine hp_drew ?_) | (with_reducible refine hp_old ?_)))) (by first | (simp; done) | (simp; omega) | omega)) (ao := ka) (m := K.length) (c := kc) (zs := flatV frA K) rfl (Sl.ext HSK.out (by (repeat (first | (with_reducible exact Below.refl _ _) | (with_reducible refine below_drew ?_) | (with_reducible refine belowA _ ?_))))) (flat_one K) (by unfold maxLen; omega) (by omega) (by first | (simp; done) | (simp; omega)) ?_
            intro v8 w8 ho8 hb8 ht8 hf8; have F8 := Lib.hid hf8; clear hf8; rw [Nat.zero_add, List.nil_append] at ho8; obtain ⟨a8, c8, e8, _⟩ := sl_of_own ho8; subst e8; have O8 := Lib.hid ho8; have T8 := Lib.hid ht8; have HB8 : Hid (Below W2.heap.size W2 w8) := Lib.hid (Below.trans (by (repeat (first | (with_reducible exact Below.refl _ _) | (with_reducible refine below_drew ?_) | (with_reducible refine belowA _ ?_)))) hb8); have hcv8 := HCV.out w8 (HT2.out.lo.trans (HB8.out.mono HT2.out.lo.size)); have hz8 := HB8.out.size; have hg8 : W.heap.size + 1 < w8.heap.size := Nat.lt_of_lt_of_le hgl1 hz8; have hg81 : W.heap.size + 1 < w8.heap.size + 1 := Nat.lt_succ_of_lt hg8; have hg82 : W.heap.size + 1 < w8.heap.size + 1 + 1 := Nat.lt_succ_of_lt hg81; have HT8 := tkBelow HT2 HB8.out; obtain ⟨⟨e2, _⟩, ⟨e0, e1⟩, _⟩ := tkCells HT8; obtain ⟨⟨_, e3, _⟩, _⟩ := tkCells HT8; have hs8 : w8.cell? ⟨W.heap.size, 1, none⟩ = some (.slice ka K.length kc) ∧ w8.cell? ⟨W.heap.size + 1, 0, none⟩ = some (.int .i64 (q : Int)) ∧ w8.cell? ⟨W.heap.size + 1, 1, none⟩ = some (.slice fa bs.length fc) ∧ Below W.heap.size W w8 := ⟨e3, e0, e1, HT8.out.lo⟩; clear ho8 hb8 ht8
            try go_simp
            refine hK.out _ _ ?_ (fun hHeld => ?_)
            · (try dsimp only)
              (repeat (with_reducible first | assumption | refine keepQD ?_ | refine keepQA _ ?_))
            clear hK K'
            refine wpAnyT_ready (rs := [12]) (by kernel_rfl) (by simp) ?_
            refine AllReadyT.cons rfl (by decide) (fun K' hK => ?_) ?_
            · skip
              refine step_append_rowT (C := ?_) _ rfl (.tmp 72) (.tmp 80) 47 rfl W2.heap.size 56 (.agg #[.int .i64 0, .slice none 0 0]) 2 32 Try.underlying47 infoF rfl (by decide) (v := .slice a8 K.length c8) (n := K.length) (xs := flatV frA K) rfl (Hid.out (by (repeat (first | (with_reducible assumption) | (with_reducible refine stDrewF ?_) | (with_reducible refine stAllocF ?_))))) rfl ?_ ?_ ?_ (by unfold maxLen; omega) (by omega) (by first | assumption | (simp; done) | (simp; omega)) ?_
              rotate_left 1; (focus (repeat (first | ((with_reducible refine blkNew ?_); focus (simp; done)) | (with_reducible refine blkDrew ?_) | (with_reducible refine blkOld ?_) | ((with_reducible refine F8.out _ _ ?_ ?_); rotate_left 1; focus (first | (simp [Value.ownBlock]; done) | (simp [Value.ownBlock]; omega)))))); (focus rfl); (focus (intro u hu; simp at hu; rcases hu with rfl | rfl <;> rfl)); intro v9 w9 ho9 hb9 ht9 hf9; clear hf9; obtain ⟨a9, c9, e9, _⟩ := sl_of_own ho9; subst e9; have O9 := Lib.hid ho9; have T9 := Lib.hid ht9; have HB9 : Hid (Below W2.heap.size W2 w9) := Lib.hid (Below.trans (by (repeat (first | (with_reducible exact HB8.out) | (with_reducible refine below_drew ?_) | (with_reducible refine belowA _ ?_)))) hb9); have HT9 := tkBelow HT2 HB9.out; obtain ⟨⟨_, g1, _, g2⟩, ⟨g3, g4⟩, _⟩ := tkCells HT9; have hs9 : w9.cell? ⟨W.heap.size, 1, none⟩ = some (.slice ka K.length kc) ∧ w9.cell? ⟨W.heap.size + 1, 0, none⟩ = some (.int .i64 (q : Int)) ∧ w9.cell? ⟨W.heap.size + 1, 1, none⟩ = some (.slice fa bs.length fc) ∧ Below W.heap.size W w9 := ⟨g1, g3, g4, HT9.out.lo⟩; clear ho9 hb9 ht9
              try go_simp
              refine hK.out _ _ ?_ (fun hHeld => ?_)
              · (try dsimp only)
                (repeat (with_reducible first | assumption | refine keepQD ?_ | refine keepQA _ ?_))
              clear hK K'
              refine wpAnyT_take (i := 13) (v := ?_) rfl (by kernel_rfl) (by kernel_rfl) (by kernel_rfl) (by kernel_rfl) (by kernel_rfl) (fun _ _ _ h => h) (Or.inl ⟨by rfl, ?_⟩) (by assumption) ?_
              rotate_left 1
              focus (intro w hSw; (try dsimp only at hSw); go_simp; try with_reducible rfl)
              try simp only [Act.put]
              refine wpAnyT_ready (rs := [14]) (by kernel_rfl) (by simp) ?_
              refine AllReadyT.last rfl (fun K hK => ?_)
              go_simp
              refine hK.out _ _ ?_
              clear hK K
              refine wpAnyT_done (by kernel_rfl) ?_ _
              go_wp2_with fail
              go_meet
              refine ⟨⟨_, _, bs⟩, a9, c9, rfl, tkSetK (K' := K ++ [⟨(q : Int), ⟨_, _, bs⟩⟩]) HT9 (by rw [flatV_append, List.length_append]; exact ownsRow_mono O9.out hBW2) (fun x hx => ?_)⟩
              rcases List.mem_append.1 hx with hx | hx
              · exact HT9.out.bd x hx
              · simp at hx; subst hx
                exact bytes_bdr2 (HG.out _) (by (repeat (first | (with_reducible refine T9.out _ _ _ _ ?_ (by decide)) | (with_reducible refine T8.out _ _ _ _ ?_ (by decide)) | ((with_reducible refine hp_new ?_); focus (simp; done)) | (with_reducible refine hp_drew ?_) | (with_reducible refine hp_old ?_))))
            exact AllReadyT.nil
          exact AllReadyT.nil
        exact AllReadyT.nil
      refine AllReadyT.cons rfl (by decide) (fun K' hK => ?_) ?_
      · skip
        go_simp
        refine hK.out _ _ ?_ (fun hHeld => ?_)
        · (try dsimp only)
          (repeat (with_reducible first | assumption | refine keepQD ?_ | refine keepQA _ ?_))
        clear hK K'
        refine wpAnyT_ready (rs := [0]) (by kernel_rfl) (by simp) ?_
        refine AllReadyT.cons rfl (by decide) (fun K' hK => ?_) ?_
        · skip
          go_simp
          refine hK.out _ _ ?_ (fun hHeld => ?_)
          · (try dsimp only)
            (repeat (with_reducible first | assumption | refine keepQD ?_ | refine keepQA _ ?_))
          clear hK K'
          refine wpAnyT_ready (rs := [3]) (by kernel_rfl) (by simp) ?_
          refine AllReadyT.cons rfl (by decide) (fun K' hK => ?_) ?_
          · skip
            refine step_append_flatT _ rfl (.tmp 69) (.tmp 71) 47 rfl W2.heap.size 56 (.agg #[.int .i64 0, .slice none 0 0]) 2 32 Try.underlying47 infoF rfl (by decide) (v := .slice (some ⟨_, 0, none⟩) 0 0) (n := 0) (xs := []) rfl (own_emptyS (by (repeat (first | ((with_reducible refine hp_new ?_); focus (simp; done)) | (with_reducible refine hp_drew ?_) | (with_reducible refine hp_old ?_)))) (by first | (simp; done) | (simp; omega) | omega)) (ao := ka) (m := K.length) (c := kc) (zs := flatV frA K) rfl (Sl.ext HSK.out (by (repeat (first | (with_reducible exact Below.refl _ _) | (with_reducible refine below_drew ?_) | (with_reducible refine belowA _ ?_))))) (flat_one K) (by unfold maxLen; omega) (by omega) (by first | (simp; done) | (simp; omega)) ?_
            intro v8 w8 ho8 hb8 ht8 hf8; have F8 := Lib.hid hf8; clear hf8; rw [Nat.zero_add, List.nil_append] at ho8; obtain ⟨a8, c8, e8, _⟩ := sl_of_own ho8; subst e8; have O8 := Lib.hid ho8; have T8 := Lib.hid ht8; have HB8 : Hid (Below W2.heap.size W2 w8) := Lib.hid (Below.trans (by (repeat (first | (with_reducible exact Below.refl _ _) | (with_reducible refine below_drew ?_) | (with_reducible refine belowA _ ?_)))) hb8); have hcv8 := HCV.out w8 (HT2.out.lo.trans (HB8.out.mono HT2.out.lo.size)); have hz8 := HB8.out.size; have hg8 : W.heap.size + 1 < w8.heap.size := Nat.lt_of_lt_of_le hgl1 hz8; have hg81 : W.heap.size + 1 < w8.heap.size + 1 := Nat.lt_succ_of_lt hg8; have hg82 : W.heap.size + 1 < w8.heap.size + 1 + 1 := Nat.lt_succ_of_lt hg81; have HT8 := tkBelow HT2 HB8.out; obtain ⟨⟨e2, _⟩, ⟨e0, e1⟩, _⟩ := tkCells HT8; obtain ⟨⟨_, e3, _⟩, _⟩ := tkCells HT8; have hs8 : w8.cell? ⟨W.heap.size, 1, none⟩ = some (.slice ka K.length kc) ∧ w8.cell? ⟨W.heap.size + 1, 0, none⟩ = some (.int .i64 (q : Int)) ∧ w8.cell? ⟨W.heap.size + 1, 1, none⟩ = some (.slice fa bs.length fc) ∧ Below W.heap.size W w8 := ⟨e3, e0, e1, HT8.out.lo⟩; clear ho8 hb8 ht8
            try go_simp
            refine hK.out _ _ ?_ (fun hHeld => ?_)
            · (try dsimp only)
              (repeat (with_reducible first | assumption | refine keepQD ?_ | refine keepQA _ ?_))
            clear hK K'
            refine wpAnyT_ready (rs := [12]) (by kernel_rfl) (by simp) ?_
            refine AllReadyT.cons rfl (by decide) (fun K' hK => ?_) ?_
            · skip
              refine step_append_rowT (C := ?_) _ rfl (.tmp 72) (.tmp 80) 47 rfl W2.heap.size 56 (.agg #[.int .i64 0, .slice none 0 0]) 2 32 Try.underlying47 infoF rfl (by decide) (v := .slice a8 K.length c8) (n := K.length) (xs := flatV frA K) rfl (Hid.out (by (repeat (first | (with_reducible assumption) | (with_reducible refine stDrewF ?_) | (with_reducible refine stAllocF ?_))))) rfl ?_ ?_ ?_ (by unfold maxLen; omega) (by omega) (by first | assumption | (simp; done) | (simp; omega)) ?_
              rotate_left 1; (focus (repeat (first | ((with_reducible refine blkNew ?_); focus (simp; done)) | (with_reducible refine blkDrew ?_) | (with_reducible refine blkOld ?_) | ((with_reducible refine F8.out _ _ ?_ ?_); rotate_left 1; focus (first | (simp [Value.ownBlock]; done) | (simp [Value.ownBlock]; omega)))))); (focus rfl); (focus (intro u hu; simp at hu; rcases hu with rfl | rfl <;> rfl)); intro v9 w9 ho9 hb9 ht9 hf9; clear hf9; obtain ⟨a9, c9, e9, _⟩ := sl_of_own ho9; subst e9; have O9 := Lib.hid ho9; have T9 := Lib.hid ht9; have HB9 : Hid (Below W2.heap.size W2 w9) := Lib.hid (Below.trans (by (repeat (first | (with_reducible exact HB8.out) | (with_reducible refine below_drew ?_) | (with_reducible refine belowA _ ?_)))) hb9); have HT9 := tkBelow HT2 HB9.out; obtain ⟨⟨_, g1, _, g2⟩, ⟨g3, g4⟩, _⟩ := tkCells HT9; have hs9 : w9.cell? ⟨W.heap.size, 1, none⟩ = some (.slice ka K.length kc) ∧ w9.cell? ⟨W.heap.size + 1, 0, none⟩ = some (.int .i64 (q : Int)) ∧ w9.cell? ⟨W.heap.size + 1, 1, none⟩ = some (.slice fa bs.length fc) ∧ Below W.heap.size W w9 := ⟨g1, g3, g4, HT9.out.lo⟩; clear ho9 hb9 ht9
              try go_simp
              refine hK.out _ _ ?_ (fun hHeld => ?_)
              · (try dsimp only)
                (repeat (with_reducible first | assumption | refine keepQD ?_ | refine keepQA _ ?_))
              clear hK K'
              refine wpAnyT_take (i := 13) (v := ?_) rfl (by kernel_rfl) (by kernel_rfl) (by kernel_rfl) (by kernel_rfl) (by kernel_rfl) (fun _ _ _ h => h) (Or.inl ⟨by rfl, ?_⟩) (by assumption) ?_
              rotate_left 1
              focus (intro w hSw; (try dsimp only at hSw); go_simp; try with_reducible rfl)
              try simp only [Act.put]
              refine wpAnyT_ready (rs := [14]) (by kernel_rfl) (by simp) ?_
              refine AllReadyT.last rfl (fun K hK => ?_)
              go_simp
              refine hK.out _ _ ?_
              clear hK K
              refine wpAnyT_done (by kernel_rfl) ?_ _
              go_wp2_with fail
              go_meet
              refine ⟨⟨_, _, bs⟩, a9, c9, rfl, tkSetK (K' := K ++ [⟨(q : Int), ⟨_, _, bs⟩⟩]) HT9 (by rw [flatV_append, List.length_append]; exact ownsRow_mono O9.out hBW2) (fun x hx => ?_)⟩
              rcases List.mem_append.1 hx with hx | hx
              · exact HT9.out.bd x hx
              · simp at hx; subst hx
                exact bytes_bdr2 (HG.out _) (by (repeat (first | (with_reducible refine T9.out _ _ _ _ ?_ (by decide)) | (with_reducible refine T8.out _ _ _ _ ?_ (by decide)) | ((with_reducible refine hp_new ?_); focus (simp; done)) | (with_reducible refine hp_drew ?_) | (with_reducible refine hp_old ?_))))
            exact AllReadyT.nil
          exact AllReadyT.nil
        exact AllReadyT.nil
      exact AllReadyT.nil
    exact AllReadyT.nil
  case rest =>
    obtain ⟨z, ka3, kc3, hz, HT3⟩ := hcut
    obtain ⟨W3, hW3⟩ : ∃ W', W' = wc := ⟨_, rfl⟩
    subst hW3
    have HZ := Lib.hid hz
    obtain ⟨K1, hK1⟩ : ∃ K1, K ++ [FrL.mk (q : Int) z] = K1 := ⟨_, rfl⟩
    have hl1 : K.length + 1 = K1.length := by rw [← hK1]; simp
    have HK1 := Lib.hid hK1
    have hm1 : K1.length ≤ 901 := by omega
    have HT3' := HT3
    rw [show [FrL.mk (q : Int) z] = [⟨(q : Int), z⟩] from rfl] at hK1
    rw [hK1, hl1] at HT3'
    clear c0 c1 f0 f1 d0 d1 z0 z1 y0 y1 hcv1 hcv2 hs2b HG HSK hgl0 hgl1 hgl2 hga1 hga2 hga3 hgb1 hgb2 hgb3 HT2 HCV HT3 hz hK1 hl1
    go_upto_region 16 with (fail)
    go_loopw [8] (fun i wr => ∃ (n : Nat) (oa' : Option Addr) (oc' : Nat), n ≤ 16 ∧ i = .int .i64 (n : Int) ∧ Hid (TkW W B (.slice oa' (itD K1 n o).length oc') (itD K1 n o) (.slice ka3 K1.length kc3) K1 (q : Int) (.slice fa bs.length fc) wr)) (fun i _ => 16 - (intOf i).toNat)
    case atStart => exact ⟨0, oa, oc, by omega, rfl, HT3'⟩
    case round =>
      obtain ⟨n, oa', oc', hn16, rfl, HT⟩ := hrel
      clear HT3'
      have hn0 : (0 : Int) ≤ (n : Int) := by omega
      have hle := itD_le K1 o n
      have hstep : itD K1 (n + 1) o = stepD K1 (itD K1 n o) := rfl
      by_cases hlt : n < 16
      · have hlt' : (n : Int) < 16 := by omega
        generalize itD K1 n o = o' at *
        have ho9 : o'.length ≤ 1000 := by omega
        have HST := Lib.hid hstep
        clear hstep hle
        obtain ⟨⟨c0, c1, f0, f1⟩, _, _⟩ := tkCells HT
        obtain ⟨_, _, e, hsk⟩ := tkK HT
        cases e
        obtain ⟨R, hR⟩ : ∃ R, lookK K1 (o'.length : Int) = R := ⟨_, rfl⟩
        have HKP := Lib.hid (kept_any wr oa' o'.length oc' ka3 K1.length kc3 K1 (o'.length : Int) rfl hsk (fun y hy => (HT.out.bd y hy).1) (by omega) R (Lib.hid hR))
        have HR := Lib.hid hR
        clear hsk hR
        go_wp2_with fail
        refine HKP.out.mono ?_
        rintro e w5 ⟨rfl, hb5⟩
        have HT5 := tkBelow HT hb5
        clear HKP HT c0 c1 f0 f1 hb5
        obtain ⟨⟨c0, c1, f0, f1⟩, _, _⟩ := tkCells HT5
        cases R with
        | none =>
          have hs : stepD K1 o' = o' := by unfold stepD; rw [HR.out]
          rw [hs] at HST
          have HNX : Hid (TkW W B (.slice oa' (itD K1 (n + 1) o).length oc') (itD K1 (n + 1) o) (.slice ka3 K1.length kc3) K1 (q : Int) (.slice fa bs.length fc) w5) := by rw [HST.out]; exact HT5
          clear HST hs
          go_wp2
          go_roundw
          case rel => exact ⟨n + 1, oa', oc', by omega, by go_num, HNX⟩
          case measure => simp [intOf]; omega
        | some b =>
          have hs : stepD K1 o' = o' ++ [b] := by unfold stepD; rw [HR.out]
          rw [hs] at HST
          obtain ⟨_, _, e, hso⟩ := tkO HT5
          cases e
          have HSO := Lib.hid hso
          clear hso hs
          have hgW : W.heap.size < w5.heap.size := World.block_lt_of_cell? _ _ c0
          go_wp2_with (at_builtin; refine wpList_append_many stb stb_one _ rfl _ _ 33 rfl w5.heap.size 9 (.string ⟨#[]⟩) 16 Try.underlying33 infoS rfl (xs := []) (own_empty (hp_new rfl) (Nat.le_refl _)) rfl (HSO.out.ext (below_alloc _ _)) rfl (by unfold maxLen; omega) (by omega) (by simp) ?_)
          intro v8 w8 ho8 hb8
          (try rw [Nat.zero_add, List.nil_append] at ho8)
          obtain ⟨a8, c8, e8, _⟩ := sl_of_own ho8
          subst e8
          have HO8 := Lib.hid ho8
          have HB8 : Hid (Below w5.heap.size w5 w8) := Lib.hid ((below_alloc _ _).trans hb8)
          have HT8 := tkBelow HT5 HB8.out
          have hz8 := HB8.out.size
          clear ho8 hb8 c0 c1 f0 f1
          obtain ⟨⟨c0, c1, f0, f1⟩, _, _⟩ := tkCells HT8
          go_wp2_with (at_builtin; go_loud (refine wpList_append_many stb stb_one _ rfl _ _ 33 rfl w5.heap.size 9 (.string ⟨#[]⟩) 16 Try.underlying33 infoS rfl (xs := o') (ownsRow_ext HO8.out (below_alloc _ _)) rfl (ys := [b]) (sl_blkF (C := #[.string ⟨b.toArray⟩]) (blkNew rfl) rfl 1 rfl (by decide)) rfl (by unfold maxLen; omega) (by omega) (by first | (simp; done) | (simp; omega) | omega) ?_))
          intro v9 w9 ho9 hb9
          obtain ⟨a9, c9, e9, _⟩ := sl_of_own ho9
          subst e9
          have HB9 : Hid (Below w5.heap.size w5 w9) := Lib.hid ((belowA _ HB8.out).trans hb9)
          have HT9 := tkBelow HT5 HB9.out
          have HO9 := Lib.hid ho9
          clear ho9 hb9 c0 c1 f0 f1
          obtain ⟨⟨c0, c1, f0, f1⟩, _, _⟩ := tkCells HT9
          have hBw : B ≤ w5.heap.size := Nat.le_trans hB (Nat.le_of_lt hgW)
          have HS9 := tkSetO (o' := o' ++ [b]) HT9 (by rw [List.length_append]; exact ownsRow_mono HO9.out hBw)
          rw [← HST.out] at HS9
          have hlen9 : o'.length + 1 = (itD K1 (n + 1) o).length := by rw [HST.out]; simp
          rw [hlen9] at HS9
          have HNX := Lib.hid HS9.out
          rw [← hlen9] at HNX
          have HLEN9 := Lib.hid hlen9
          clear HS9 HST HT9 HO9 HT8 HO8 HT5 hlen9
          go_wp2
          go_roundw
          case rel => exact ⟨n + 1, a9, c9, by omega, by go_num, by rw [← HLEN9.out]; exact HNX⟩
          case measure => simp [intOf]; omega
      · have hlt' : ¬ (n : Int) < 16 := by omega
        obtain rfl : n = 16 := by omega
        generalize hdd : itD K1 16 o = o' at *
        have HDD := Lib.hid hdd
        have ho9 : o'.length ≤ 1000 := by omega
        obtain ⟨W4, hW4⟩ : ∃ W', W' = wr := ⟨_, rfl⟩
        subst hW4
        clear hstep hdd hle
        obtain ⟨⟨c0, c1, f0, f1⟩, _, _⟩ := tkCells HT
        go_upto_region 23 with (fail)
        clear c0 c1 f0 f1
        go_loopw [11, 12] (fun u i w9 => ∃ (m k : Nat) (a : Option Addr) (c : Nat) (L : List FrL), m ≤ K1.length ∧ k ≤ m ∧ i = .int .i64 (m : Int) ∧ u = .slice a k c ∧ Hid (L.length = k ∧ L = leftK K1 o'.length m) ∧ Hid (w9.ownsRow W4.heap.size 56 2 (.slice a k c) k (flatV frA L)) ∧ Hid (Below W4.heap.size W4 w9)) (fun _ i _ => K1.length - (intOf i).toNat)
        case atStart => exact ⟨0, 0, none, 0, [], by omega, by omega, rfl, rfl, Lib.hid ⟨rfl, rfl⟩, Lib.hid (World.ownsRow_nil _ _ _ _), Lib.hid (Below.refl _ _)⟩
        case round =>
          obtain ⟨m, k, la, lc, L, hm9, hkm, rfl, rfl, HL, HR, HBw⟩ := hrel
          have hm0 : (0 : Int) ≤ (m : Int) := by omega
          have HTm := tkBelow HT HBw.out
          obtain ⟨⟨c0, c1, f0, f1⟩, _, z0, z1, y0, y1⟩ := tkCells HTm
          have hLl : k ≤ 1000 := by omega
          by_cases hmk : m < K1.length
          · have hmk' : (m : Int) < (K1.length : Int) := by omega
            obtain ⟨_, _, e, hsk⟩ := tkK HTm
            cases e
            obtain ⟨o1, m1, e, hc1⟩ := flat_at FrL.zero frA 2 (by decide) (fun _ => rfl) hsk rfl m hmk
            subst e
            have htk : leftK K1 o'.length (m + 1) = L ++ [K1.getD m FrL.zero].filter (fun y => decide ((o'.length : Int) ≤ y.s)) := by
              have hLL := HL.out.2
              unfold leftK at hLL ⊢
              rw [List.take_add_one, List.getElem?_eq_getElem hmk, List.filter_append, ← hLL, List.getD_eq_getElem?_getD, List.getElem?_eq_getElem hmk]
              rfl
            generalize K1.getD m FrL.zero = x at *
            obtain ⟨xs, xa, xc, xb⟩ := x
            have p0 : wr.cell? ⟨o1, m1 + m * 2, none⟩ = some (.int .i64 xs) := hc1 0 _ rfl
            have p1 : wr.cell? ⟨o1, m1 + m * 2 + 1, none⟩ = some (.slice xa xb.length xc) := hc1 1 _ rfl
            have HTK := Lib.hid htk
            clear hc1 htk hsk
            by_cases hge : (o'.length : Int) ≤ xs
            · have hge2 : ¬ xs < (o'.length : Int) := by omega
              go_wp2
              go_quiet (fail)
              have hbq := below_drewN (Below.refl wr.heap.size wr) nq
              have HTq := tkBelow HTm hbq
              have HBq := Lib.hid (below_step HBw.out hbq)
              have HRq := Lib.hid (ownsRow_ext HR.out hbq)
              have q0 := cell_keep hbq p0
              have q1 := cell_keep hbq p1
              generalize wr.drewN nq = wq at *
              clear p0 p1 c0 c1 f0 f1 z0 z1 y0 y1 HTm HR HBw hbq
              obtain ⟨⟨c0, c1, f0, f1⟩, _, z0, z1, y0, y1⟩ := tkCells HTq
              have hszw := HBq.out.size
              clear hn16 hn0 hlt hlt' hge2
              have HGE := Lib.hid hge
              clear hge
              go_upto_region 26 with (fail)
              go_wp2_with (at_builtin; refine stop_hereG ?_)
              have HR5 := Lib.hid (ownsRow_ext HRq.out (below_alloc wq (.cells #[.int .i64 xs, .slice xa xb.length xc] 56)))
              refine Lib.hid ?_
              at_builtin
              refine wpList_append_row _ rfl _ _ 47 rfl W4.heap.size 56 (.agg #[.int .i64 0, .slice none 0 0]) 2 32 Try.underlying47 infoF rfl (by decide) (n := k) (xs := flatV frA L) rfl HR5.out (k := wq.heap.size) (C := #[.int .i64 xs, .slice xa xb.length xc]) rfl (blkNew rfl) rfl (frA_one ⟨xs, ⟨xa, xc, xb⟩⟩) (by unfold maxLen; omega) (by omega) (by first | omega | (simp; omega)) ?_
              intro v9 w9 ho9 hg9 hfz
              clear hfz
              obtain ⟨a9, c9, e9, _⟩ := sl_of_own ho9
              subst e9
              have hb9 : Below W4.heap.size W4 w9 := HBq.out.trans (((Fx.ofBelow (L := own (.slice la k lc)) (below_alloc wq _)).trans (Fx.ofGrown (L := own (.slice la k lc)) hg9 (fun k e => mem_own.2 e)) (fun k hk => .inl hk)).below (fun j hj => (own_ltF HRq.out (mem_own.1 hj)).2.1) hszw)
              have ho9' : w9.ownsRow W4.heap.size 56 2 (.slice a9 (k + 1) c9) (k + 1) (flatV frA (L ++ [(⟨xs, ⟨xa, xc, xb⟩⟩ : FrL)])) := by
                rw [flatV_append]
                exact ho9
              have HNX := Lib.hid (And.intro ho9' hb9)
              have hf : (L ++ [(⟨xs, ⟨xa, xc, xb⟩⟩ : FrL)]).length = k + 1 ∧ L ++ [(⟨xs, ⟨xa, xc, xb⟩⟩ : FrL)] = leftK K1 o'.length (m + 1) := by
                refine ⟨by rw [List.length_append, HL.out.1]; rfl, ?_⟩
                rw [HTK.out, List.filter_cons_of_pos (by simpa using HGE.out)]; simp
              have HF := Lib.hid hf
              clear hf HTK ho9 ho9' hg9 hb9 HR5 HRq HBq hszw
              go_wp2
              go_roundw
              case rel => exact ⟨m + 1, k + 1, a9, c9, L ++ [⟨xs, ⟨xa, xc, xb⟩⟩], by omega, by omega, by go_num, rfl, HF, Lib.hid HNX.out.1, Lib.hid HNX.out.2⟩
              case measure => simp [intOf]; omega
            · have hge2 : xs < (o'.length : Int) := by omega
              have hf : L = leftK K1 o'.length (m + 1) := by rw [HTK.out, List.filter_cons_of_neg (by simpa using hge)]; simp
              have HF := Lib.hid (And.intro HL.out.1 hf)
              clear hf HTK
              go_wp2
              go_quiet (fail)
              have hbq := below_drewN (Below.refl wr.heap.size wr) nq
              have HBq := Lib.hid (below_step HBw.out hbq)
              have HRq := Lib.hid (ownsRow_ext HR.out hbq)
              generalize wr.drewN nq = wq at *
              clear p0 p1 c0 c1 f0 f1 z0 z1 y0 y1 HTm HR HBw hbq hn16 hn0 hlt hlt'
              have HKM : Hid (k ≤ m + 1) := Lib.hid (by omega)
              clear hge2 hkm hLl
              go_upto_if 120 with (fail)
              refine wp_cond_false (congrArg Value.bool (decide_eq_false (Int.not_le.2 hge))) ?_
              clear hge
              go_upto_region 24 with (fail)
              go_wp2
              go_roundw
              case rel => exact ⟨m + 1, k, la, lc, L, by omega, HKM.out, by go_num, rfl, HF, HRq, HBq⟩
              case measure => simp [intOf]; omega
          · have hmk' : ¬ (m : Int) < (K1.length : Int) := by omega
            obtain rfl : m = K1.length := by omega
            have hLL : L = K1.filter (fun y => decide ((o'.length : Int) ≤ y.s)) := by
              have := HL.out.2
              unfold leftK at this
              rw [List.take_length] at this
              exact this
            have hlk := HL.out.1
            have hBW4 : B ≤ W4.heap.size := Nat.le_trans hB HT.out.lo.size
            have HTs := tkSetK (K' := L) (kv' := .slice la k lc) HTm (by rw [hlk]; exact ownsRow_mono HR.out hBW4) (fun x hx => HTm.out.bd x (by rw [hLL] at hx; exact (List.mem_filter.1 hx).1))
            have HEND := Lib.hid (And.intro hLL hlk)
            clear hLL hlk hmk hmk' hm0 hkm hLl hm9 hlt hlt' hn16 hn0
            go_upto_region 28 with (fail)
            generalize wr.setCell ⟨W.heap.size, 1, none⟩ (.slice la k lc) = W5 at *
            clear c0 c1 f0 f1 z0 z1 y0 y1
            obtain ⟨⟨c0, c1, f0, f1⟩, _, z0, z1, y0, y1⟩ := tkCells HTs
            go_wp2
            have fx : Fx [W.heap.size + 1 + 1] W5 ((W5.setCell ⟨W.heap.size + 1 + 1, 0, none⟩ (.slice oa' o'.length oc')).setCell ⟨W.heap.size + 1 + 1, 1, none⟩ (.slice la k lc)) := ((Fx.refl [W.heap.size + 1 + 1] W5).setCell (by simp)).setCell (by simp)
            have nt : ∀ e', 54 ≠ e' → NoTy e' W5 [W.heap.size + 1 + 1] := fun e' he => noTy_blk HTs.out.z he
            refine bodyPost_ret (v := .tuple #[.agg #[.slice oa' o'.length oc', .slice la k lc], .int .i64 0]) ?_ rfl ⟨oa', oc', la, lc, z, o', L, HZ.out, Lib.hid ⟨by rw [HK1.out]; exact HDD.out.symm, by rw [HK1.out]; exact HEND.out.1⟩, by rw [HEND.out.2], Lib.hid (own_keepT HTs.out.o fx (nt _ (by decide))), ?_, Lib.hid (fun x hx => (HTs.out.bd x hx).keep fx (nt _ (by decide))), ?_⟩
            · rw [results_cell_tmpF rfl]
              go_simp
            · rw [HEND.out.2]
              have := HTs.out.k
              rw [HEND.out.2] at this
              exact Lib.hid (own_keepT this fx (nt _ (by decide)))
            · exact below_set_new (below_set_new HTs.out.lo (by omega)) (by omega)
end Go.Proofs.Ytfhcaikfbfoopaa
