/-
  LOCKS OVER A LINK: sender and receiver of delivered, call by call.
-/
import Derived.Test.YtpmjgiabedjlgaaLk9
import Derived.Test.YtpmjgiabedjlgaaLkT
import Derived.Test.YtpmjgiabedjlgaaLockP
import Derived.Test.YtpmjgiabedjlgaaWireP5
import Derived.Test.YtpmjgiabedjlgaaMac4
import Derived.BigQuiet
import Derived.Laws.StructEq
import Derived.StillTailTactics
import Derived.RegionTactic
import Derived.Deep.DeepCutAuto
import Derived.Deep.QuietTactic
import Derived.WalkSpells
import Derived.WalkLawsBesides
namespace Go.Proofs.Ytpmjgiabedjlgaa
open Go.RowKit Go.Maps
set_option linter.unusedVariables false

/-- A report as six numbers, encoded. -/
def enL (x : Rep) : List Int := [x.1, x.2.1, x.2.2.1, x.2.2.2.1, x.2.2.2.2.1, x.2.2.2.2.2]
def enR (x : Rep) : List UInt8 := putInts (enL x)
theorem enR_len (x : Rep) : (enR x).length ≤ 256 := by
  have := putInts_length (enL x)
  unfold enR
  simp [enL] at this ⊢
  omega
theorem enR_back (x : Rep) (h : I64s (enL x)) : intsRes (enR x) 0 = (enL x, ((enR x).length : Int), 0) := by
  have := intsRes_put [] [] (enL x) (by simp [enL]) h
  unfold enR
  simpa using this
structure DvA (all : List (List UInt8)) (sent k : Nat) (xs ys : List Bv) (f : Kf) (n cnt : Nat) : Prop where
  sum : k + xs.length = sent
  snt : sent ≤ all.length
  xe : xs.map Bv.bs = (all.take sent).drop k
  kle : k ≤ ys.length
  inv : RInv all (ys.map Bv.bs) (absF f)
  n : n ≤ cnt
/-- Sender and receiver while the messages are sent. -/
def DvS (w : World) (g r b sent cnt : Nat) (fin : Prop) (all : List (List UInt8)) (W : World) : Prop :=
  ∃ (v : Value) (k : Nat) (xs : List Bv) (u : Value) (n : Nat) (D : DataW Value) (ys : List Bv) (f : Kf), LkW w g v k xs r b u n D ys f W ∧ DvA all sent k xs ys f n cnt ∧ (fin → ys.map Bv.bs = all)
section
variable {w W W' : World} {g r b sent cnt : Nat} {fin : Prop} {all : List (List UInt8)}
theorem dvBelow (hb : Below W.heap.size W W') (h : Hid (DvS w g r b sent cnt fin all W)) : Hid (DvS w g r b sent cnt fin all W') := by
  obtain ⟨v, k, xs, u, n, D, ys, f, h1, h2, h3⟩ := h.out
  exact Lib.hid ⟨v, k, xs, u, n, D, ys, f, (lkwBelow hb (Lib.hid h1)).out, h2, h3⟩
theorem dvLo (h : Hid (DvS w g r b sent cnt fin all W)) : Below w.heap.size w W := by
  obtain ⟨v, k, xs, u, n, D, ys, f, h1, _⟩ := h.out
  exact h1.lo
theorem dvCnt {cnt' : Nat} (hc : cnt ≤ cnt') (h : Hid (DvS w g r b sent cnt fin all W)) : Hid (DvS w g r b sent cnt' fin all W) := by
  obtain ⟨v, k, xs, u, n, D, ys, f, h1, h2, h3⟩ := h.out
  exact Lib.hid ⟨v, k, xs, u, n, D, ys, f, h1, ⟨h2.sum, h2.snt, h2.xe, h2.kle, h2.inv, Nat.le_trans h2.n hc⟩, h3⟩
theorem dvStart {w1 w2 : World} {fin : Prop} (hfin : ¬ fin) (h1 : Hid (SendAt w.heap.size w1 w.heap.size (.slice none 0 0) 0 [])) (hb1 : Below w.heap.size w w1) (h2 : Hid (RecAt w1.heap.size w2 (w1.heap.size + 1) (.slice none 0 0) w1.heap.size 0 (.map []) [] (fun _ => none))) (hb2 : Below w1.heap.size w1 w2) :
    Hid (DvS w w.heap.size (w1.heap.size + 1) w1.heap.size 0 0 fin all w2) := by
  refine Lib.hid ⟨_, _, _, _, _, _, _, _, (lkwStart h1 hb1 h2 hb2).out, ⟨rfl, Nat.zero_le _, by simp, Nat.le_refl _, ?_, Nat.le_refl _⟩, fun h => absurd h hfin⟩
  exact rinv_zero all
theorem dv_put (h : Hid (DvS w g r b sent cnt fin all W)) (h12 : all.length ≤ 12) (hs : sent < all.length) (a : Option Addr) (len cap : Nat) (bs : List UInt8) (hb : bs = all.getD sent []) (hbs : Sl W 1 a len cap (cs b8 bs)) (hlen : len ≤ 256) :
    Calls Try.prog 34 #[.pointer (some ⟨g, 0, none⟩), .slice a len cap] W (fun e W' => (∃ m : Int, e = .returned (.tuple #[.int .i64 m, .int .i64 0])) ∧ Hid (DvS w g r b (sent + 1) cnt fin all W')) := by
  obtain ⟨v, k, xs, u, n, D, ys, f, h1, h2, h3⟩ := h.out
  have hsum := h2.sum
  refine (lkwPut (Lib.hid h1) a len cap bs hbs (by omega) hlen (by omega) ((k : Int) + (xs.length : Int)) rfl).mono ?_
  rintro e W' ⟨rfl, v', x, hx, h4, _⟩
  refine ⟨⟨_, rfl⟩, Lib.hid ⟨v', k, xs ++ [x], u, n, D, ys, f, h4.out, ⟨by rw [List.length_append]; simp; omega, by omega, ?_, h2.kle, h2.inv, h2.n⟩, h3⟩⟩
  rw [List.map_append, h2.xe, List.take_add_one, List.getElem?_eq_getElem hs, List.drop_append, List.length_take, Nat.min_eq_left (by omega), show k - sent = 0 from by omega]
  have : [x].map Bv.bs = [all[sent]] := by
    rw [List.map_singleton, hx, hb, List.getD_eq_getElem?_getD, List.getElem?_eq_getElem hs]
    rfl
  rw [this]
  rfl
theorem dv_acked (h : Hid (DvS w g r b sent cnt fin all W)) : ∃ m : Nat, m ≤ all.length ∧ Calls Try.prog 38 #[.pointer (some ⟨r, 0, none⟩)] W (fun e W' => e = .returned (.int .i64 (m : Int)) ∧ W' = W) ∧
    (sent = all.length → all.length ≤ 12 → Calls Try.prog 37 #[.pointer (some ⟨g, 0, none⟩), .int .i64 (m : Int)] W (fun e W' => e = .returned (.int .i64 0) ∧ Hid (DvS w g r b sent cnt fin all W'))) := by
  obtain ⟨v, k, xs, u, n, D, ys, f, h1, h2, h3⟩ := h.out
  have hyl : ys.length ≤ all.length := by have := h2.inv.p.le; rw [List.length_map] at this; exact this
  refine ⟨ys.length, hyl, acked_any (lkwR (Lib.hid h1)), fun hsa h12 => ?_⟩
  have hsum := h2.sum
  have hkl := h2.kle
  by_cases h0 : ys.length = k
  · refine (ack_same (lkwS (Lib.hid h1)) (ys.length : Int) (by omega) (by omega) (by omega)).mono ?_
    rintro e W' ⟨rfl, hb⟩
    exact ⟨rfl, dvBelow hb h⟩
  · refine (lkwAck (Lib.hid h1) (ys.length - k) (by omega) (by omega) (by omega) (ys.length : Int) (by omega)).mono ?_
    rintro e W' ⟨rfl, v', h4, _⟩
    refine ⟨rfl, Lib.hid ⟨v', k + (ys.length - k), xs.drop (ys.length - k), u, n, D, ys, f, h4.out, ⟨by rw [List.length_drop]; omega, h2.snt, ?_, by omega, h2.inv, h2.n⟩, h3⟩⟩
    rw [List.map_drop, h2.xe, List.drop_drop]
end
/-- While the frames of a round are taken; those behind t are taken if the round loses nothing. -/
def DvT (w : World) (g : Nat) (v : Value) (k : Nat) (xs : List Bv) (r b : Nat) (fu : Value) (zs : List Bv) (cnt : Nat) (none_lost : Prop) (all : List (List UInt8)) (t : Int) (W : World) : Prop :=
  ∃ (u : Value) (n : Nat) (D : DataW Value) (ys : List Bv) (f : Kf), LkW w g v k xs r b u n D ys f W ∧ DvA all all.length k xs ys f n cnt ∧ FrW w.heap.size fu k zs (rF r b u) W ∧ (none_lost → ∀ j : Nat, t < (j : Int) → j < xs.length → Got (ys.map Bv.bs) (absF f) (k + j))
section
variable {w W W' : World} {g r b k cnt : Nat} {nl : Prop} {all : List (List UInt8)} {v fu : Value} {xs zs : List Bv} {t : Int}
theorem dvtCnt {cnt' : Nat} (hc : cnt ≤ cnt') (h : Hid (DvT w g v k xs r b fu zs cnt nl all t W)) : Hid (DvT w g v k xs r b fu zs cnt' nl all t W) := by
  obtain ⟨u, n, D, ys, f, h1, h2, h3, h4⟩ := h.out
  exact Lib.hid ⟨u, n, D, ys, f, h1, ⟨h2.sum, h2.snt, h2.xe, h2.kle, h2.inv, Nat.le_trans h2.n hc⟩, h3, h4⟩
/-- Frames. -/
theorem dv_frames {fin : Prop} (h : Hid (DvS w g r b all.length cnt fin all W)) (h12 : all.length ≤ 12) (hsz : ∀ j, (all.getD j []).length ≤ 256) (nl : Prop) : ∃ (k : Nat) (v : Value) (xs : List Bv), k + xs.length = all.length ∧ xs.map Bv.bs = all.drop k ∧
    Calls Try.prog 35 #[.pointer (some ⟨g, 0, none⟩)] W (fun e W' => ∃ fa fc zs, e = .returned (.slice fa xs.length fc) ∧ zs.map Bv.bs = xs.map Bv.bs ∧ Hid (DvT w g v k xs r b (.slice fa xs.length fc) zs cnt nl all ((xs.length : Int) - 1) W')) := by
  obtain ⟨v, k, xs, u, n, D, ys, f, h1, h2, h3⟩ := h.out
  have hsum := h2.sum
  have hxe : xs.map Bv.bs = all.drop k := by have := h2.xe; rw [List.take_length] at this; exact this
  refine ⟨k, v, xs, hsum, hxe, (frames_any (lkwS (Lib.hid h1)) (by omega) (by omega) (fun x hx => ?_)).mono ?_⟩
  · have hm : x.bs ∈ all.drop k := by rw [← hxe]; exact List.mem_map_of_mem hx
    obtain ⟨i, hi, e⟩ := List.getElem_of_mem (List.mem_of_mem_drop hm)
    have := hsz i
    rw [List.getD_eq_getElem?_getD, List.getElem?_eq_getElem hi] at this
    rw [← e]
    exact this
  · rintro e W' ⟨fa, fc, zs, rfl, hz, hf, hb⟩
    refine ⟨fa, fc, zs, rfl, hz, Lib.hid ⟨u, n, D, ys, f, (lkwBelow hb (Lib.hid h1)).out, h2, ⟨⟨ownsRow_mono hf.out.row h1.lo.size, fun y hy => (hf.out.bds y hy).lower h1.lo.size⟩, fun j hj hj' => ?_⟩, fun _ j hj hj2 => by omega⟩⟩
    exact absurd (h1.rc.lt j hj').1 (Nat.not_lt.2 (own_ltF hf.out.row (mem_own.1 hj)).2.1)
/-- What a frame holds. -/
theorem dvt_cells (h : Hid (DvT w g v k xs r b fu zs cnt nl all t W)) {fa : Option Addr} {m fc : Nat} (hfu : fu = .slice fa m fc) (hz : zs.length = m) (i : Nat) (hi : i < m) : ∃ b o, fa = some ⟨b, o, none⟩ ∧ W.cell? ⟨b, o + i * 2, none⟩ = some (.int .i64 ((k + i : Nat) : Int)) ∧ W.cell? ⟨b, o + i * 2 + 1, none⟩ = some (.slice (zs.getD i nilB).a (zs.getD i nilB).bs.length (zs.getD i nilB).c) := by
  subst hfu
  obtain ⟨u, n, D, ys, f, h1, h2, h3, h4⟩ := h.out
  obtain ⟨b, o, e, c1, c2, _⟩ := h3.at_.cells hz i hi
  exact ⟨b, o, e, c1, c2⟩
/-- Take of a frame of the list. -/
theorem dv_take (h : Hid (DvT w g v k xs r b fu zs cnt nl all t W)) {fa : Option Addr} {fc : Nat} (hfu : fu = .slice fa xs.length fc) (hz : zs.map Bv.bs = xs.map Bv.bs) (h12 : all.length ≤ 12) (hsz : ∀ j, (all.getD j []).length ≤ 256) (hc : cnt ≤ 10000) (i : Nat) (hi : i < xs.length) (hit : (i : Int) ≤ t) (ht : t ≤ (i : Int)) (z : Bv) (hze : zs.getD i nilB = z) (j : Int) (hj : j = ((k + i : Nat) : Int)) :
    Calls Try.prog 36 #[.pointer (some ⟨r, 0, none⟩), .agg #[.int .i64 j, .slice z.a z.bs.length z.c]] W (fun e W' => e = .returned (.int .i64 0) ∧ Hid (DvT w g v k xs r b fu zs (cnt + 1) nl all t W') ∧ Hid (DvT w g v k xs r b fu zs (cnt + 1) nl all (t - 1) W')) := by
  subst hj hfu
  obtain ⟨u, n, D, ys, f, h1, h2, h3, h4⟩ := h.out
  have hzl : zs.length = xs.length := by have := congrArg List.length hz; simpa using this
  obtain ⟨_, _, _, _, _, hbd⟩ := h3.at_.cells hzl i hi
  rw [hze] at hbd
  have hsum := h2.sum
  have hkl := h2.kle
  have hyl : ys.length ≤ all.length := by have := h2.inv.p.le; rw [List.length_map] at this; exact this
  have hxe : xs.map Bv.bs = all.drop k := by have := h2.xe; rw [List.take_length] at this; exact this
  have hzb : z.bs = all.getD (k + i) [] := by
    have h5 : (zs.map Bv.bs).getD i [] = z.bs := by rw [getD_map_bs zs i (by omega), hze]
    rw [← h5, hz, hxe, List.getD_eq_getElem?_getD, List.getD_eq_getElem?_getD, List.getElem?_drop]
  obtain ⟨o', q', e1, e2, e3, e4, e5⟩ := take_inv h2.inv (k + i) (by omega) (by omega) (hsz _) (by rw [List.length_map]; omega)
  rw [← hzb] at e1
  refine (lkwTakeAny (Lib.hid h1) ((k + i : Nat) : Int) z.a z.bs.length z.c z.bs hbd.sl (by omega) (by have := h2.n; omega) (by have := h2.inv.w; rw [List.length_map] at this; exact key_abs rfl this) o' q' 0 (Lib.hid e1)).mono ?_
  rintro e W' ⟨rfl, u', n', D', ys', f', hn, ha, hl, htr⟩
  obtain ⟨rfl, rfl⟩ := ha.out
  rw [List.length_map, List.length_map] at e3
  have hA : DvA all all.length k xs ys' f' n' (cnt + 1) := ⟨h2.sum, h2.snt, h2.xe, Nat.le_trans hkl e3, e2, by have := h2.n; omega⟩
  refine ⟨rfl, Lib.hid ⟨u', n', D', ys', f', hl.out, hA, h3.tr htr.out, fun hnl j hj hj2 => e4 _ (h4 hnl j hj hj2)⟩, Lib.hid ⟨u', n', D', ys', f', hl.out, hA, h3.tr htr.out, fun hnl j hj hj2 => ?_⟩⟩
  by_cases hji : j = i
  · subst hji; exact e5
  · exact e4 _ (h4 hnl j (by omega) hj2)
/-- A frame that is lost. -/
theorem dvt_lost (h : Hid (DvT w g v k xs r b fu zs cnt nl all t W)) (hn : ¬ nl) (t' : Int) : Hid (DvT w g v k xs r b fu zs cnt nl all t' W) := by
  obtain ⟨u, n, D, ys, f, h1, h2, h3, h4⟩ := h.out
  exact Lib.hid ⟨u, n, D, ys, f, h1, h2, h3, fun h => absurd h hn⟩
/-- The end of a round. -/
theorem dvt_end {fin : Prop} (h : Hid (DvT w g v k xs r b fu zs cnt nl all t W)) (ht : t < 0) (hfin : fin → nl) : Hid (DvS w g r b all.length cnt fin all W) := by
  obtain ⟨u, n, D, ys, f, h1, h2, h3, h4⟩ := h.out
  have hsum := h2.sum
  have hkl := h2.kle
  refine Lib.hid ⟨v, k, xs, u, n, D, ys, f, h1, h2, fun hf => got_all h2.inv (fun j hj => ?_)⟩
  by_cases hjk : j < k
  · exact .inl (by rw [List.length_map]; omega)
  · have := h4 (hfin hf) (j - k) (by omega) (by omega)
    rw [show k + (j - k) = j from by omega] at this
    exact this
end
theorem dv_out {w W : World} {g r b sent cnt : Nat} {fin : Prop} {all : List (List UInt8)} (h : Hid (DvS w g r b sent cnt fin all W)) (hf : fin) (h12 : all.length ≤ 12) (hsz : ∀ j, (all.getD j []).length ≤ 256) : Calls Try.prog 39 #[.pointer (some ⟨r, 0, none⟩)] W (fun e W' => ∃ a c zs, e = .returned (.slice a all.length c) ∧ Hid (zs.map Bv.bs = all) ∧ Hid (OutAt W.heap.size W' (.slice a all.length c) zs) ∧ Hid (Below W.heap.size W W')) := by
  obtain ⟨v, k, xs, u, n, D, ys, f, h1, h2, h3⟩ := h.out
  have hall := h3 hf
  have hyl : ys.length = all.length := by rw [← hall, List.length_map]
  refine (out_any (lkwR (Lib.hid h1)) (by omega) (fun x hx => ?_)).mono ?_
  · have hm : x.bs ∈ all := by rw [← hall]; exact List.mem_map_of_mem hx
    obtain ⟨i, hi, e⟩ := List.getElem_of_mem hm
    have := hsz i
    rw [List.getD_eq_getElem?_getD, List.getElem?_eq_getElem hi] at this
    rw [← e]
    exact this
  · rintro e W' ⟨a, c, zs, rfl, hz, ho, hb⟩
    rw [hyl] at ho ⊢
    exact ⟨a, c, zs, rfl, Lib.hid (hz.trans hall), ho, Lib.hid hb⟩
end Go.Proofs.Ytpmjgiabedjlgaa
