/-
  WHAT A LAW's STEP WANTS BESIDES: a slice of rides, an array of two bytes. No condition.
-/
import Derived.Test.YtjfakdbgcinpcaaRowsL
import Derived.Test.YtjfakdbgcinpcaaBase4
import Derived.Test.YtjfakdbgcinpcaaShell3
import Derived.Test.YtjfakdbgcinpcaaTdI
namespace Go.Proofs.Ytjfakdbgcinpcaa
open Go.RowKit Go.ChangeShapes Go.WideShapes Go.Deep
set_option linter.unusedVariables false

section
variable {H : Type} {enc : TypeId × Value → H} {P : Program} {w : World} {base : Nat} {held : Bool}
/-- A slice of structs: each element by a law of its own. -/
theorem rowsB_open {α : Type} (z : α) (A : α → Array Value) (N : Nat) (hN : 0 < N) (hA : ∀ o, (A o).size = N) (Pw : α → Prop) {t e : TypeId} {fuel : Nat} {cs : List Value} {x : DataW H × List MemPlace} (ht : P.underlying t = some (.slice e)) (hC : P.cellsOf e = N)
    (hopen : ∀ (fuel : Nat) (cs : List Value) (x : DataW H × List MemPlace), DataW.trod enc P w base (fun _ => true) held fuel e cs = some x → ∃ o, cs = (A o).toList ∧ Pw o)
    (h : DataW.trod enc P w base (fun _ => true) held fuel t cs = some x) :
    ∃ a len cap, cs = [.slice a len cap] ∧ ∃ l : List α, l.length = len ∧ Sl w N a len cap (flatV A l) ∧ ∀ o ∈ l, Pw o := by
  rcases open_slice ht h with ⟨h0, _⟩ | ⟨a, len, cap, m, n', D, Pl, hcs, hb, hl, hm, hmm, hx, hi⟩
  · exact ⟨none, 0, 0, h0, [], rfl, Sl.nil w N, fun o ho => by simp at ho⟩
  · obtain ⟨l, hlen, hq⟩ := all_list z (Q := fun i o => (∀ j, j < N → w.cell? (a.add (i * N + j)) = (A o)[j]?) ∧ Pw o) len (fun i him => by
      obtain ⟨cs', hc, ht'⟩ := hi i (by rw [hmm]; split <;> omega)
      rw [hC] at hc
      obtain ⟨_, hcl, hat⟩ := World.cells?_some hc
      obtain ⟨o, rfl, hw⟩ := hopen _ _ _ ht'
      refine ⟨o, fun j hj => ?_, hw⟩
      have := hat j hj
      rw [Go.Deep.add_add] at this
      rw [← Array.getElem?_toList]
      exact this)
    have hol := flatV_len A N hA l
    rw [hlen] at hol
    refine ⟨some a, len, cap, hcs, l, hlen, ⟨hol, hl, hm, (fun h => by cases h), fun j u hj => ?_⟩, fun o ho => ?_⟩
    · have hj' := (List.getElem?_eq_some_iff.1 hj).1
      rw [hol] at hj'
      have hiq : j / N < len := Nat.div_lt_of_lt_mul (by rw [Nat.mul_comm]; exact hj')
      have hr : j % N < N := Nat.mod_lt _ hN
      have hjj : j = j / N * N + j % N := by rw [Nat.mul_comm]; exact (Nat.div_add_mod j N).symm
      have hc := (hq (j / N) hiq).1 (j % N) hr
      rw [← hjj] at hc
      rw [hjj, flatV_get z A N hA l _ _ (by omega) hr] at hj
      rw [hj] at hc
      obtain ⟨b, off, spot⟩ := a
      have hspot : spot = none := by
        have h0 := (hq 0 (Nat.lt_of_le_of_lt (Nat.zero_le _) hiq)).1 0 hN
        rw [Array.getElem?_eq_getElem (by rw [hA]; exact hN)] at h0
        have := World.cell?_spot h0
        simpa [Addr.add] using this
      subst hspot
      refine ⟨b, off, rfl, ?_⟩
      rw [Addr.add_lit] at hc
      exact hc
    · obtain ⟨i, hi, e⟩ := List.getElem_of_mem ho
      have := (hq i (by omega)).2
      rw [List.getD_eq_getElem?_getD, List.getElem?_eq_getElem hi, Option.getD_some, e] at this
      exact this
theorem fld_one {cs : List Value} {k : Nat} {v : Value} (h : (cs.drop k).take 1 = [v]) : cs[k]? = some v := by
  have := congrArg (fun l => l[0]?) h
  simpa using this
/-- A field that consists of leaves. -/
theorem fld_leaves {t fuel k n : Nat} {ks : List Leaf} {cs : List Value} {x : DataW H × List MemPlace} (hk : leaves P n t = some ks) (h : DataW.trod enc P w base (fun _ => true) held fuel t ((cs.drop k).take (P.cellsOf t)) = some x) (i : Nat) (l : Leaf) (hi : ks[i]? = some l) : ∃ v, cs[k + i]? = some v ∧ l.has v := by
  have hl := leaves_trod n t ks hk h
  obtain ⟨v, hv, hh⟩ := hl.2 i l hi
  refine ⟨v, ?_, hh⟩
  have hlt : i < P.cellsOf t := by
    have := (List.getElem?_eq_some_iff.1 hv).1
    rw [List.length_take] at this
    omega
  rw [List.getElem?_take_of_lt hlt, List.getElem?_drop] at hv
  exact hv
abbrev lI : Leaf := .int .i64
abbrev legLv : List Leaf := [lI, lI, lI, lI, lI]
abbrev pauLv : List Leaf := [lI, lI, lI, lI]
theorem leaf_in {ks : List Leaf} {cs : List Value} (h : Leaves ks cs) (i : Nat) (hk : ks[i]? = some lI) : ∃ n, cs[i]? = some (.int .i64 n) := by
  obtain ⟨v, hv, n, rfl, _⟩ := h.2 i _ hk
  exact ⟨n, hv⟩
theorem legA_open (cs : List Value) (h : Leaves legLv cs) : ∃ o : LegL, cs = (legA o).toList ∧ True := by
  have hl := h.1
  match cs, hl with
  | [c0, c1, c2, c3, c4], _ =>
    obtain ⟨n0, e0⟩ := leaf_in h 0 rfl
    obtain ⟨n1, e1⟩ := leaf_in h 1 rfl
    obtain ⟨n2, e2⟩ := leaf_in h 2 rfl
    obtain ⟨n3, e3⟩ := leaf_in h 3 rfl
    obtain ⟨n4, e4⟩ := leaf_in h 4 rfl
    simp at e0 e1 e2 e3 e4
    subst e0 e1 e2 e3 e4
    exact ⟨⟨n0, n1, n2, n3, n4⟩, rfl, trivial⟩
theorem pauA_open (cs : List Value) (h : Leaves pauLv cs) : ∃ o : PauL, cs = (pauA o).toList ∧ True := by
  have hl := h.1
  match cs, hl with
  | [c0, c1, c2, c3], _ =>
    obtain ⟨n0, e0⟩ := leaf_in h 0 rfl
    obtain ⟨n1, e1⟩ := leaf_in h 1 rfl
    obtain ⟨n2, e2⟩ := leaf_in h 2 rfl
    obtain ⟨n3, e3⟩ := leaf_in h 3 rfl
    simp at e0 e1 e2 e3
    subst e0 e1 e2 e3
    exact ⟨⟨n0, n1, n2, n3⟩, rfl, trivial⟩
theorem fld_legs {t e fuel k n : Nat} {cs : List Value} {x : DataW H × List MemPlace} (ht : P.underlying t = some (.slice e)) (hk : leaves P n e = some legLv) (hC : P.cellsOf e = 5) (ct : P.cellsOf t = 1) (h : DataW.trod enc P w base (fun _ => true) held fuel t ((cs.drop k).take (P.cellsOf t)) = some x) : ∃ (a : Option Addr) (c : Nat) (l : List LegL), cs[k]? = some (.slice a l.length c) ∧ Sl w 5 a l.length c (flatV legA l) := by
  rw [ct] at h
  rcases leaves_slice (ks := legLv) ht hk hC h with hcs | ⟨x, l, c, hcs, hl, hm, hall⟩
  · exact ⟨none, 0, [], fld_one hcs, Sl.nil w 5⟩
  · obtain ⟨ls, h1, h2, _⟩ := rows_sl LegL.zero legA 5 (by decide) (fun _ => rfl) _ rfl legA_open hl hm hall
    subst h1
    exact ⟨some x, c, ls, fld_one hcs, h2⟩
theorem fld_paus {t e fuel k n : Nat} {cs : List Value} {x : DataW H × List MemPlace} (ht : P.underlying t = some (.slice e)) (hk : leaves P n e = some pauLv) (hC : P.cellsOf e = 4) (ct : P.cellsOf t = 1) (h : DataW.trod enc P w base (fun _ => true) held fuel t ((cs.drop k).take (P.cellsOf t)) = some x) : ∃ (a : Option Addr) (c : Nat) (l : List PauL), cs[k]? = some (.slice a l.length c) ∧ Sl w 4 a l.length c (flatV pauA l) := by
  rw [ct] at h
  rcases leaves_slice (ks := pauLv) ht hk hC h with hcs | ⟨x, l, c, hcs, hl, hm, hall⟩
  · exact ⟨none, 0, [], fld_one hcs, Sl.nil w 4⟩
  · obtain ⟨ls, h1, h2, _⟩ := rows_sl PauL.zero pauA 4 (by decide) (fun _ => rfl) _ rfl pauA_open hl hm hall
    subst h1
    exact ⟨some x, c, ls, fld_one hcs, h2⟩
theorem list13 {cs : List Value} {x0 x1 x2 x3 x4 x5 x6 x7 x8 x9 x10 x11 x12 : Value} (hl : cs.length = 13) (h0 : cs[0]? = some x0) (h1 : cs[1]? = some x1) (h2 : cs[2]? = some x2) (h3 : cs[3]? = some x3) (h4 : cs[4]? = some x4) (h5 : cs[5]? = some x5) (h6 : cs[6]? = some x6) (h7 : cs[7]? = some x7) (h8 : cs[8]? = some x8) (h9 : cs[9]? = some x9) (h10 : cs[10]? = some x10) (h11 : cs[11]? = some x11) (h12 : cs[12]? = some x12) : cs = [x0, x1, x2, x3, x4, x5, x6, x7, x8, x9, x10, x11, x12] := by
  match cs, hl with
  | [a0, a1, a2, a3, a4, a5, a6, a7, a8, a9, a10, a11, a12], _ =>
    simp at h0 h1 h2 h3 h4 h5 h6 h7 h8 h9 h10 h11 h12
    subst h0 h1 h2 h3 h4 h5 h6 h7 h8 h9 h10 h11 h12
    rfl
/-- A ride. -/
theorem ride_open {e i s b lt lp le pe : TypeId} {n : Nat} {fs : Array Field} (he : P.underlying e = some (.struct fs)) (hf : fs.map (fun f => (f.type, f.offset)) = #[(i, 0), (i, 1), (s, 2), (s, 4), (b, 6), (lt, 7), (lp, 8), (i, 9), (i, 10), (i, 11), (i, 12)])
    (ki : leaves P n i = some [lI]) (ks : leaves P n s = some [lI, lI]) (kb : leaves P n b = some [.bool]) (hlt : P.underlying lt = some (.slice le)) (hlp : P.underlying lp = some (.slice pe)) (kl : leaves P n le = some legLv) (kp : leaves P n pe = some pauLv) (cl : P.cellsOf le = 5) (cp : P.cellsOf pe = 4) (ctl : P.cellsOf lt = 1) (ctp : P.cellsOf lp = 1) (ce : P.cellsOf e = 13)
    (fuel : Nat) (cs : List Value) (x : DataW H × List MemPlace) (h : DataW.trod enc P w base (fun _ => true) held fuel e cs = some x) : ∃ o : RideL, cs = (rideA o).toList ∧ RideM w o := by
  obtain ⟨xs, m, _, _, hlen, hxl, hg⟩ := DataW.trod_struct he h
  have key : ∀ j t k, (#[(i, 0), (i, 1), (s, 2), (s, 4), (b, 6), (lt, 7), (lp, 8), (i, 9), (i, 10), (i, 11), (i, 12)] : Array (TypeId × Nat))[j]? = some (t, k) → ∃ y, DataW.trod enc P w base (fun _ => true) held m t ((cs.drop k).take (P.cellsOf t)) = some y := fun j t k hj => by
    rw [← hf, Array.getElem?_map] at hj
    obtain ⟨f, hfj, e⟩ := Option.map_eq_some_iff.1 hj
    cases e
    have h1 := hg j f hfj
    rw [List.getElem?_eq_getElem (by rw [hxl]; exact (Array.getElem?_eq_some_iff.1 hfj).1)] at h1
    exact ⟨_, h1⟩
  obtain ⟨y0, g0⟩ := key 0 i 0 rfl
  obtain ⟨y1, g1⟩ := key 1 i 1 rfl
  obtain ⟨y2, g2⟩ := key 2 s 2 rfl
  obtain ⟨y3, g3⟩ := key 3 s 4 rfl
  obtain ⟨y4, g4⟩ := key 4 b 6 rfl
  obtain ⟨y5, g5⟩ := key 5 lt 7 rfl
  obtain ⟨y6, g6⟩ := key 6 lp 8 rfl
  obtain ⟨y7, g7⟩ := key 7 i 9 rfl
  obtain ⟨y8, g8⟩ := key 8 i 10 rfl
  obtain ⟨y9, g9⟩ := key 9 i 11 rfl
  obtain ⟨y10, g10⟩ := key 10 i 12 rfl
  obtain ⟨_, e0, n0, rfl, _⟩ := fld_leaves ki g0 0 lI rfl
  obtain ⟨_, e1, n1, rfl, _⟩ := fld_leaves ki g1 0 lI rfl
  obtain ⟨_, e2, n2, rfl, _⟩ := fld_leaves ks g2 0 lI rfl
  obtain ⟨_, e3, n3, rfl, _⟩ := fld_leaves ks g2 1 lI rfl
  obtain ⟨_, e4, n4, rfl, _⟩ := fld_leaves ks g3 0 lI rfl
  obtain ⟨_, e5, n5, rfl, _⟩ := fld_leaves ks g3 1 lI rfl
  obtain ⟨_, e6, bb, rfl⟩ := fld_leaves kb g4 0 .bool rfl
  obtain ⟨la, lc, legs, e7, hlg⟩ := fld_legs hlt kl cl ctl g5
  obtain ⟨pa, pc, paus, e8, hpg⟩ := fld_paus hlp kp cp ctp g6
  obtain ⟨_, e9, n9, rfl, _⟩ := fld_leaves ki g7 0 lI rfl
  obtain ⟨_, e10, n10, rfl, w10⟩ := fld_leaves ki g8 0 lI rfl
  obtain ⟨_, e11, n11, rfl, _⟩ := fld_leaves ki g9 0 lI rfl
  obtain ⟨_, e12, n12, rfl, w12⟩ := fld_leaves ki g10 0 lI rfl
  have mx : ∀ q : Int, (Lit.int .i64 q).wf = true → q ≤ 9223372036854775807 := fun q hq => by
    have h2 : IntKind.i64.min ≤ q ∧ q ≤ IntKind.i64.max := by simpa [Lit.wf] using hq
    have e2 : IntKind.i64.max = 9223372036854775807 := by decide
    omega
  exact ⟨⟨n0, n1, n2, n3, n4, n5, bb, la, lc, legs, pa, pc, paus, n9, n10, n11, n12⟩, list13 (hlen.trans ce) e0 e1 e2 e3 e4 e5 e6 e7 e8 e9 e10 e11 e12, ⟨hlg, hpg, mx _ w10, mx _ w12⟩⟩
end
/-- An array of two bytes. -/
theorem b8_ofs {n : Int} (h : (Lit.int .u8 n).wf = true) : Value.int .u8 n = b8 (UInt8.ofNat n.toNat) := by
  have hn : 0 ≤ n ∧ n < 256 := by
    have h2 : IntKind.u8.min ≤ n ∧ n ≤ IntKind.u8.max := by simpa [Lit.wf] using h
    have e1 : IntKind.u8.min = 0 := by decide
    have e2 : IntKind.u8.max = 255 := by decide
    omega
  simp only [b8, UInt8.toNat_ofNat']
  congr 1
  omega
theorem u8s2 {P : Program} {w : World} {r : Reach} {b0 : Nat} {t u : TypeId} {v : Value} (hagg : (match P.underlying t with | some (.struct _) => true | some (.array _ _) => true | _ => false) = true)
    (hts : P.cellTypes P.depth t = some [u, u]) (hC : P.cellsOf t = 2) (hall : P.underlying u = some (.int .u8)) (hv : Value.okWide P w r b0 t v) : ∃ a b : UInt8, v = .agg #[b8 a, b8 b] := by
  have key : ∃ cs, v = .agg cs ∧ cs.size = P.cellsOf t ∧ Row.okWide P w r b0 t cs := by
    unfold Value.okWide at hv
    split at hv
    · exact hv
    · exact hv
    · rename_i h1 h2
      split at hagg
      · rename_i h; exact absurd h (h1 _)
      · rename_i h; exact absurd h (h2 _ _)
      · cases hagg
  obtain ⟨cs, rfl, hsz, ts', hts', _, hcell⟩ := key
  rw [hts] at hts'
  cases hts'
  have one : ∀ i, i < 2 → ∃ c : UInt8, cs[i]? = some (b8 c) := fun i hi => by
    have hic : i < cs.size := by rw [hsz, hC]; exact hi
    obtain ⟨u', hu, hok⟩ := hcell i cs[i] (Array.getElem?_eq_getElem hic)
    have hu' : u' = u := by
      rw [show i % [u, u].length = i from Nat.mod_eq_of_lt hi] at hu
      match i, hi with
      | 0, _ => exact (Option.some.inj hu).symm
      | 1, _ => exact (Option.some.inj hu).symm
    subst hu'
    unfold Cell.okWide at hok
    rw [hall] at hok
    simp only [Cell.ok, hall] at hok
    rw [Array.getElem?_eq_getElem hic]
    generalize cs[i] = x at *
    cases x with
    | int k n =>
      obtain ⟨rfl, hw⟩ := hok
      exact ⟨_, congrArg some (b8_ofs (by unfold Lit.wf; simp only [Bool.and_eq_true, decide_eq_true_eq]; exact hw))⟩
    | _ => exact False.elim hok
  obtain ⟨a, ha⟩ := one 0 (by decide)
  obtain ⟨b, hb⟩ := one 1 (by decide)
  refine ⟨a, b, congrArg Value.agg ?_⟩
  apply Array.ext'
  have hl : cs.toList.length = 2 := by rw [Array.length_toList, hsz, hC]
  rw [← Array.getElem?_toList] at ha hb
  match hcs : cs.toList, hl with
  | [x, y], _ =>
    rw [hcs] at ha hb
    simp at ha hb
    rw [ha, hb]
end Go.Proofs.Ytjfakdbgcinpcaa
