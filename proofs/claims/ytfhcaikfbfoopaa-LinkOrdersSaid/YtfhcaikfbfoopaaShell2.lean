/-
  WHAT A LAW's STEP WANTS BESIDES: a slice of slices of bytes as an argument. No condition.
-/
import Derived.Test.YtfhcaikfbfoopaaBase4
import Derived.Test.YtfhcaikfbfoopaaBase10
import Derived.Deep.Matrix
import Derived.SizedLaws
namespace Go.Proofs.Ytfhcaikfbfoopaa
open Go.RowKit
set_option linter.unusedVariables false

/-- What the shell hands: a slice of slices of bytes. -/
def IsRows (w : World) (ao : Option Addr) (len cap : Nat) : Prop := ∃ (M : List SlV) (xss : List (List UInt8)), Sl w 1 ao len cap (cs slv M) ∧ Els w M xss ∧ ∀ k, (xss.getD k []).length ≤ 140737488351232
theorem wAll_mem {H : Type} {P : Program} {e : TypeId} : ∀ {l : List (DataW H)} {d : DataW H}, d ∈ l → ∀ n ∈ d.weights P e, n ∈ DataW.weightsAll P e l
  | d' :: r, d, hd, n, hn => by
    simp only [DataW.weightsAll, List.mem_append]
    rcases List.mem_cons.1 hd with rfl | h
    · exact Or.inl hn
    · exact Or.inr (wAll_mem h n hn)
theorem rows_open {H : Type} {enc : TypeId × Value → H} {P : Program} {w : World} {base : Nat} {held : Bool} {t e q : TypeId} {fuel : Nat} {ao : Option Addr} {len cap : Nat} {x : DataW H × List MemPlace} (ht : P.underlying t = some (.slice e)) (he : P.underlying e = some (.slice q)) (hq : P.underlying q = some (.int .u8))
    (ce : P.cellsOf e = 1) (cq : P.cellsOf q = 1) (bq : P.bytesOf q = 1) (hwt : ∀ n ∈ x.1.weights P t, n ≤ reachBytes) (h : DataW.trod enc P w base (fun _ => true) held fuel t [.slice ao len cap] = some x) : IsRows w ao len cap := by
  rcases Deep.open_int_rows ht he hq ce cq h with ⟨hcs, _⟩ | ⟨a, len', cap', A, L, C, Z, hcs, _, hl, hm, hx, hr⟩
  · simp at hcs
    obtain ⟨rfl, rfl, rfl⟩ := hcs
    exact ⟨[], [], Sl.nil _ _, Els.nil _, fun k => by simp⟩
  · simp at hcs
    obtain ⟨rfl, rfl, rfl⟩ := hcs
    have each : ∀ r, r < cap → ∃ bs : List UInt8, Sl w 1 (A r) (L r) (C r) (cs b8 bs) := by
      intro r hlt
      obtain ⟨_, r1, r2, r3, r4, r5, r6⟩ := hr r hlt
      refine sl_bytes (zs := Z r) ?_
      cases hA : A r with
      | none =>
        have h0 := r5 hA
        refine .inl ⟨rfl, by omega, h0, List.eq_nil_of_length_eq_zero (by omega)⟩
      | some a' => exact .inr ⟨a', rfl, r1, r2, r3, fun i hi => (r6 a' hA).2 i (by omega), r4⟩
    obtain ⟨B, hB⟩ := Deep.choose_lt each
    refine ⟨(List.range len).map (fun r => (A r, L r, C r)), (List.range len).map B, ⟨by rw [cs_length]; simp, hl, hm, (fun h => by cases h), fun j u hj => ?_⟩, ⟨by simp, fun k hk => ?_⟩, fun k => ?_⟩
    · rw [cs_get] at hj
      have hjl : j < len := by
        rcases Nat.lt_or_ge j len with h' | h'
        · exact h'
        · rw [List.getElem?_eq_none (by simpa using h')] at hj; cases hj
      have hcj := (hr j (by omega)).1
      obtain ⟨b, off, spot⟩ := a
      have hspot : spot = none := by
        have := World.cell?_spot hcj
        unfold Addr.add at this
        split at this
        · exact this
        · have hc0 := (hr 0 (by omega)).1
          have := World.cell?_spot hc0
          simpa [Addr.add] using this
      subst hspot
      refine ⟨b, off, rfl, ?_⟩
      rw [Addr.add_lit] at hcj
      rw [hcj, ← hj]
      simp [hjl, slv]
    · have hk' : k < len := by simpa using hk
      have e1 : ((List.range len).map (fun r => (A r, L r, C r))).getD k (none, 0, 0) = (A k, L k, C k) := by simp [List.getD, hk']
      have e2 : ((List.range len).map B).getD k [] = B k := by simp [List.getD, hk']
      rw [e1, e2]
      exact hB k (by omega)
    · rcases Nat.lt_or_ge k len with hk' | hk'
      · have e2 : ((List.range len).map B).getD k [] = B k := by simp [List.getD, hk']
        rw [e2, (hB k (by omega)).count]
        obtain ⟨_, r1, r2, r3, r4, r5, r6⟩ := hr k (by omega)
        cases hA : A k with
        | none => have := r5 hA; omega
        | some a' =>
          rw [hx] at hwt
          simp only [DataW.weights, ht, List.mem_cons, List.mem_append] at hwt
          have hmem : Deep.intRow (H := H) .u8 (A k) (L k) (Z k) ∈ (List.range len).map fun r => Deep.intRow (H := H) .u8 (A r) (L r) (Z r) := List.mem_map.2 ⟨k, List.mem_range.2 hk', rfl⟩
          have := hwt _ (Or.inr (Or.inl (wAll_mem hmem _ (by rw [hA]; simp only [Deep.intRow, DataW.weights, he]; exact List.mem_cons_self))))
          rw [bq] at this
          simp only [ChangeShapes.lits, List.length_map, List.length_take, List.length_drop, reachBytes] at this
          omega
      · rw [show ((List.range len).map B).getD k [] = [] from by simp [List.getD, List.getElem?_eq_none (show ((List.range len).map B).length ≤ k by simpa using hk')]]
        simp
end Go.Proofs.Ytfhcaikfbfoopaa
