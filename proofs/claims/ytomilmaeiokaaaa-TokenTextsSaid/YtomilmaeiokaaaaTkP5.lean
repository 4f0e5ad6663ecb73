/-
  TOKENS, THE REFERENCE: Parse by TextOf.
-/
import Derived.Test.YtomilmaeiokaaaaTkP4
import Derived.Test.YtomilmaeiokaaaaTkB
namespace Go.Proofs.Ytomilmaeiokaaaa
open Go.RowKit
set_option linter.unusedVariables false

theorem refParse_yes (s : ByteArray) (w : World) {b r d f t n : Int} {g : BitVec 64} (h : TextOf s.data.toList b r d f t n g) : Calls Try.prog 32 #[.string s] w (RetB (.tuple #[.agg #[.int .i64 b, .int .i64 r, .int .i64 d, .int .i64 f, .int .i64 t, .int .i64 n, Ytomilmaeiokaaaa.u64 g], .int .i64 0]) w) := by
  obtain ⟨at_, h1, h2, h3⟩ := text_read h
  have hsb : (⟨s.data.toList.toArray⟩ : ByteArray) = s := by cases s; simp
  have htk : ((decB s.data.toList).drop at_).take 8 = (decB s.data.toList).drop at_ := List.take_of_length_le (by rw [List.length_drop]; omega)
  have := refParse_num s w (text_len h) (fun j hj => text_alpha h _ (by rw [List.getD_eq_getElem?_getD, List.getElem?_eq_getElem hj]; exact List.getElem_mem _)) b r d f t n at_ h1 s 0 (fun w => by
    rw [htk, h3]
    have := refText_ok b r d f t n g w h.1
    rw [h.2, hsb] at this
    exact this)
  rw [if_pos ⟨rfl, rfl⟩, htk, h3] at this
  exact this
theorem refParse_no (s : ByteArray) (w : World) (hl : s.data.toList.length ≤ 200) (h : ∀ b r d f t n g, ¬ TextOf s.data.toList b r d f t n g) : Calls Try.prog 32 #[.string s] w (RetB (.tuple #[zeroTok, .int .i64 3]) w) := by
  rcases first_bad (fun j => idxA (s.data.toList.getD j 0) < 32) s.data.toList.length with hall | ⟨m, hm, h1, h2⟩
  · cases hr : rdS (decB s.data.toList) 6 with
    | none => exact refParse_rd s w hl hall hr
    | some p =>
      obtain ⟨l, a⟩ := p
      obtain ⟨hl6, ha0, _, _⟩ := rdS_len 6 hr
      obtain ⟨at_, rfl⟩ : ∃ q : Nat, a = (q : Int) := ⟨a.toNat, by omega⟩
      match l, hl6 with
      | [l1, l2, l3, l4, l5, l6], _ =>
        by_cases hb : Tok.bad ⟨l1, l2, l3, l4, l5, l6⟩
        · have := refParse_num s w hl hall l1 l2 l3 l4 l5 l6 at_ hr ⟨#[]⟩ 1 (fun w => refText_bad l1 l2 l3 l4 l5 l6 _ w (chk_bad hb))
          rw [if_neg (fun e => absurd e.1 (by decide))] at this
          exact this
        · have := refParse_num s w hl hall l1 l2 l3 l4 l5 l6 at_ hr _ 0 (fun w => refText_ok l1 l2 l3 l4 l5 l6 _ w hb)
          rw [if_neg (fun e => h l1 l2 l3 l4 l5 l6 _ ⟨hb, by rw [← e.2]⟩)] at this
          exact this
  · exact refParse_dec s w hl m hm h1 h2
end Go.Proofs.Ytomilmaeiokaaaa
