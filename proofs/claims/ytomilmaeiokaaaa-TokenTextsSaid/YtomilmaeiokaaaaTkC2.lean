/-
  TOKENS: Parse gives the token whose text the string is, and otherwise the error. No condition but the length.
-/
import Derived.Test.YtomilmaeiokaaaaTkB
import Derived.Test.YtomilmaeiokaaaaTkS
namespace Go.Proofs.Ytomilmaeiokaaaa
open Go.RowKit
set_option linter.unusedVariables false

/-- The string is the text of this token. -/
def TextOf (cl : List UInt8) (b r d f t n : Int) (g : BitVec 64) : Prop := ¬ Tok.bad ⟨b, r, d, f, t, n⟩ ∧ txtB (encB b r d f t n g) = cl
theorem text_alpha {cl : List UInt8} {b r d f t n : Int} {g : BitVec 64} (h : TextOf cl b r d f t n g) : ∀ c ∈ cl, idxA c < 32 := by
  obtain ⟨p, _, _, _, ha⟩ := txtB_spec (encB b r d f t n g)
  rw [h.2] at ha
  exact ha
theorem text_dec {cl : List UInt8} {b r d f t n : Int} {g : BitVec 64} (h : TextOf cl b r d f t n g) : decB cl = encB b r d f t n g := by rw [← h.2, decB_txtB]
theorem text_len {cl : List UInt8} {b r d f t n : Int} {g : BitVec 64} (h : TextOf cl b r d f t n g) : cl.length ≤ 200 := by rw [← h.2]; exact txtB_len _ (encB_len b r d f t n g)
theorem text_read {cl : List UInt8} {b r d f t n : Int} {g : BitVec 64} (h : TextOf cl b r d f t n g) : ∃ at_ : Nat, rdS (decB cl) 6 = some ([b, r, d, f, t, n], (at_ : Int)) ∧ (decB cl).length = at_ + 8 ∧ tagR ((decB cl).drop at_) = g := by
  rw [text_dec h]
  exact encB_read b r d f t n g h.1
theorem text_only {cl : List UInt8} {b r d f t n b' r' d' f' t' n' : Int} {g g' : BitVec 64} (h : TextOf cl b r d f t n g) (h' : TextOf cl b' r' d' f' t' n' g') : b = b' ∧ r = r' ∧ d = d' ∧ f = f' ∧ t = t' ∧ n = n' ∧ g = g' := by
  obtain ⟨a, h1, _, h3⟩ := text_read h
  obtain ⟨a', h1', _, h3'⟩ := text_read h'
  rw [h1] at h1'
  simp at h1'
  obtain ⟨⟨e1, e2, e3, e4, e5, e6⟩, e7⟩ := h1'
  obtain rfl : a = a' := by omega
  exact ⟨e1, e2, e3, e4, e5, e6, h3.symm.trans h3'⟩
abbrev zeroTok : Value := .agg #[.int .i64 0, .int .i64 0, .int .i64 0, .int .i64 0, .int .i64 0, .int .i64 0, .int .u64 0]
theorem first_bad (p : Nat → Prop) [DecidablePred p] : ∀ k : Nat, (∀ j, j < k → p j) ∨ ∃ m, m < k ∧ (∀ j, j < m → p j) ∧ ¬ p m
  | 0 => .inl (fun j h => absurd h (Nat.not_lt_zero j))
  | k + 1 => by
    rcases first_bad p k with h | ⟨m, h1, h2, h3⟩
    · by_cases hk : p k
      · refine .inl (fun j hj => ?_)
        by_cases e : j = k
        · subst e; exact hk
        · exact h j (by omega)
      · exact .inr ⟨k, by omega, h, hk⟩
    · exact .inr ⟨m, by omega, h2, h3⟩
theorem parse_yes (s : ByteArray) (w : World) {b r d f t n : Int} {g : BitVec 64} (h : TextOf s.data.toList b r d f t n g) : Calls Try.prog 31 #[.string s] w (RetB (.tuple #[.agg #[.int .i64 b, .int .i64 r, .int .i64 d, .int .i64 f, .int .i64 t, .int .i64 n, u64 g], .int .i64 0]) w) := by
  obtain ⟨at_, h1, h2, h3⟩ := text_read h
  have := parse_ok s w (text_len h) (fun j hj => text_alpha h _ (by rw [List.getD_eq_getElem?_getD, List.getElem?_eq_getElem hj]; exact List.getElem_mem _)) b r d f t n at_ h1 h2 h.1 (by rw [h3]; exact h.2)
  rw [h3] at this
  exact this
theorem parse_no (s : ByteArray) (w : World) (h : ∀ b r d f t n g, ¬ TextOf s.data.toList b r d f t n g) : Calls Try.prog 31 #[.string s] w (RetB (.tuple #[zeroTok, .int .i64 3]) w) := by
  by_cases hl : s.data.toList.length ≤ 200
  · rcases first_bad (fun j => idxA (s.data.toList.getD j 0) < 32) s.data.toList.length with hall | ⟨m, hm, h1, h2⟩
    · by_cases hr : ∃ l at_, rdS (decB s.data.toList) 6 = some (l, at_) ∧ ((decB s.data.toList).length : Int) - at_ = 8
      · obtain ⟨l, a, hr1, hr2⟩ := hr
        obtain ⟨hl6, ha0, _, _⟩ := rdS_len 6 hr1
        obtain ⟨at_, rfl⟩ : ∃ q : Nat, a = (q : Int) := ⟨a.toNat, by omega⟩
        match l, hl6 with
        | [l1, l2, l3, l4, l5, l6], _ =>
          by_cases hb : Tok.bad ⟨l1, l2, l3, l4, l5, l6⟩
          · exact parse_num s w hl hall l1 l2 l3 l4 l5 l6 at_ hr1 (by omega) hb
          · by_cases he : txtB (encB l1 l2 l3 l4 l5 l6 (tagR ((decB s.data.toList).drop at_))) = s.data.toList
            · exact absurd ⟨hb, he⟩ (h l1 l2 l3 l4 l5 l6 _)
            · exact parse_ne s w hl hall l1 l2 l3 l4 l5 l6 at_ hr1 (by omega) hb he
      · exact parse_read s w hl hall (fun l at_ e e' => hr ⟨l, at_, e, e'⟩)
    · exact parse_dec s w hl m hm h1 h2
  · exact parse_long s w (by have : s.size = s.data.toList.length := Array.length_toList.symm
                             omega)
end Go.Proofs.Ytomilmaeiokaaaa
