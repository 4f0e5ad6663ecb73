/-
  FROM A ROW'S READING TO THE WALK'S SLICES. No condition.
-/
import Derived.Test.YtdgjdbpbnipjcaaBase7
namespace Go.Proofs.Ytdgjdbpbnipjcaa
open Go.RowKit
set_option linter.unusedVariables false

/-- A slice of numbers that came in, as the walks want it. -/
theorem sl_of_row {k : IntKind} {w : World} {a : Option Addr} {len cap : Nat} {zs : List Int}
    (h : (a = none ∧ len = 0 ∧ cap = 0 ∧ zs = []) ∨ ∃ x, a = some x ∧ len ≤ cap ∧ cap ≤ maxLen ∧ zs.length = cap ∧ (∀ i, i < zs.length → w.cell? (x.add i) = some (.int k (zs.getD i 0))) ∧ ∀ n ∈ zs, (Lit.int k n).wf = true) :
    Sl w 1 a len cap ((zs.take len).map (Value.int k)) ∧ ∀ n ∈ zs.take len, (Lit.int k n).wf = true := by
  rcases h with ⟨rfl, rfl, rfl, rfl⟩ | ⟨x, rfl, hl, hm, hz, hc, hw⟩
  · exact ⟨by simpa using Sl.nil w 1, by simp⟩
  · refine ⟨⟨by simp; omega, hl, hm, (fun h => by cases h), fun j u hj => ?_⟩, fun n hn => hw n (List.mem_of_mem_take hn)⟩
    have hj' := (List.getElem?_eq_some_iff.1 hj).1
    simp only [List.length_map, List.length_take] at hj'
    have hcj := hc j (by omega)
    obtain ⟨b, off, spot⟩ := x
    have hspot : spot = none := by
      have := World.cell?_spot hcj
      unfold Addr.add at this
      split at this
      · exact this
      · rename_i h0
        have hc0 := hc 0 (by omega)
        have := World.cell?_spot hc0
        simpa [Addr.add] using this
    subst hspot
    refine ⟨b, off, rfl, ?_⟩
    rw [Addr.add_lit] at hcj
    rw [hcj, ← hj]
    simp [List.getD, show j < len by omega, show j < zs.length by omega]

theorem sl_bytes {w : World} {a : Option Addr} {len cap : Nat} {zs : List Int}
    (h : (a = none ∧ len = 0 ∧ cap = 0 ∧ zs = []) ∨ ∃ x, a = some x ∧ len ≤ cap ∧ cap ≤ maxLen ∧ zs.length = cap ∧ (∀ i, i < zs.length → w.cell? (x.add i) = some (.int .u8 (zs.getD i 0))) ∧ ∀ n ∈ zs, (Lit.int .u8 n).wf = true) :
    ∃ bs : List UInt8, Sl w 1 a len cap (cs b8 bs) := by
  obtain ⟨h1, h2⟩ := sl_of_row h
  refine ⟨(zs.take len).map (fun n => UInt8.ofNat n.toNat), ?_⟩
  have e : cs b8 ((zs.take len).map (fun n => UInt8.ofNat n.toNat)) = (zs.take len).map (Value.int .u8) := by
    unfold cs
    rw [List.map_map]
    apply List.map_congr_left
    intro n hn
    have hw := h2 n hn
    simp [Lit.wf, IntKind.min, IntKind.max, IntKind.signed, IntKind.bits] at hw
    simp only [Function.comp, b8, UInt8.toNat_ofNat']
    congr 1
    omega
  rw [e]
  exact h1

theorem sl_words {w : World} {a : Option Addr} {len cap : Nat} {zs : List Int}
    (h : (a = none ∧ len = 0 ∧ cap = 0 ∧ zs = []) ∨ ∃ x, a = some x ∧ len ≤ cap ∧ cap ≤ maxLen ∧ zs.length = cap ∧ (∀ i, i < zs.length → w.cell? (x.add i) = some (.int .u64 (zs.getD i 0))) ∧ ∀ n ∈ zs, (Lit.int .u64 n).wf = true) :
    ∃ bs : List (BitVec 64), Sl w 1 a len cap (cs u64 bs) := by
  obtain ⟨h1, h2⟩ := sl_of_row h
  refine ⟨(zs.take len).map (fun n => BitVec.ofInt 64 n), ?_⟩
  have e : cs u64 ((zs.take len).map (fun n => BitVec.ofInt 64 n)) = (zs.take len).map (Value.int .u64) := by
    unfold cs
    rw [List.map_map]
    apply List.map_congr_left
    intro n hn
    have hw := h2 n hn
    simp [Lit.wf, IntKind.min, IntKind.max, IntKind.signed, IntKind.bits] at hw
    simp only [Function.comp, u64, BitVec.toNat_ofInt]
    congr 1
    omega
  rw [e]
  exact h1

theorem wf_i64 {n : Int} (h : (Lit.int .i64 n).wf = true) : -9223372036854775808 ≤ n ∧ n ≤ 9223372036854775807 := by
  simp [Lit.wf, IntKind.min, IntKind.max, IntKind.signed, IntKind.bits] at h
  omega
theorem wf_u64 {n : Int} (h : (Lit.int .u64 n).wf = true) : ∃ a : BitVec 64, Value.int .u64 n = u64 a := by
  simp [Lit.wf, IntKind.min, IntKind.max, IntKind.signed, IntKind.bits] at h
  refine ⟨BitVec.ofInt 64 n, ?_⟩
  simp only [u64, BitVec.toNat_ofInt]
  congr 1
  omega
theorem wf_u8 {n : Int} (h : (Lit.int .u8 n).wf = true) : ∃ a : UInt8, Value.int .u8 n = b8 a := by
  simp [Lit.wf, IntKind.min, IntKind.max, IntKind.signed, IntKind.bits] at h
  refine ⟨UInt8.ofNat n.toNat, ?_⟩
  simp only [b8, UInt8.toNat_ofNat']
  congr 1
  omega
theorem sl_ints {w : World} {a : Option Addr} {len cap : Nat} {zs : List Int}
    (h : (a = none ∧ len = 0 ∧ cap = 0 ∧ zs = []) ∨ ∃ x, a = some x ∧ len ≤ cap ∧ cap ≤ maxLen ∧ zs.length = cap ∧ (∀ i, i < zs.length → w.cell? (x.add i) = some (.int .i64 (zs.getD i 0))) ∧ ∀ n ∈ zs, (Lit.int .i64 n).wf = true) :
    ∃ l : List Int, Sl w 1 a len cap (cs i64v l) ∧ ∀ n ∈ l, -9223372036854775808 ≤ n ∧ n ≤ 9223372036854775807 := by
  obtain ⟨h1, h2⟩ := sl_of_row h
  exact ⟨zs.take len, h1, fun n hn => wf_i64 (h2 n hn)⟩
end Go.Proofs.Ytdgjdbpbnipjcaa
