/-
  JOURNALS: event.Encode.
-/
import Derived.Test.YtdgjdbpbnipjcaaProg
import Derived.Test.YtdgjdbpbnipjcaaTrH
import Derived.Test.YtdgjdbpbnipjcaaWire1
import Derived.Test.YtdgjdbpbnipjcaaBase7
import Derived.BigQuiet
import Derived.Laws.StructEq
import Derived.StillTailTactics
import Derived.RegionTactic
import Derived.Deep.DeepCutAuto
import Derived.Deep.QuietTactic
import Derived.WalkSpells
import Derived.WalkLawsBesides
namespace Go.Proofs.Ytdgjdbpbnipjcaa
open Go.RowKit
set_option linter.unusedVariables false

def encE (x : EvL) : List UInt8 := (evL x).flatMap putInt
theorem encE_len (x : EvL) : (encE x).length ≤ 90 := by
  unfold encE evL
  simp only [List.flatMap_cons, List.flatMap_nil, List.length_append, List.length_nil]
  have h0 := (putInt_length x.d).1
  have h1 := (putInt_length x.s).1
  have h2 := (putInt_length x.a).1
  have h3 := (putInt_length x.l).1
  have h4 := (putInt_length x.k).1
  have h5 := (putInt_length x.b).1
  have h6 := (putInt_length x.p).1
  have h7 := (putInt_length x.r).1
  have h8 := (putInt_length x.e).1
  omega
def outE (x : EvL) (q : Nat) : List UInt8 := ((evL x).take q).flatMap putInt
theorem outE_succ (x : EvL) (q : Nat) (n : Int) (h : (evL x)[q]? = some n) : outE x (q + 1) = outE x q ++ putInt n := by
  unfold outE
  have hq : q < (evL x).length := by
    rcases Nat.lt_or_ge q (evL x).length with h' | h'
    · exact h'
    · rw [List.getElem?_eq_none h'] at h; cases h
  rw [List.take_succ_eq_append_getElem hq, List.flatMap_append]
  rw [List.getElem?_eq_getElem hq] at h
  cases h
  simp
theorem outE_len (x : EvL) (q : Nat) (hq : q ≤ 9) : (outE x q).length ≤ 90 := by
  have h := encE_len x
  have e : encE x = outE x q ++ ((evL x).drop q).flatMap putInt := by unfold encE outE; rw [← List.flatMap_append, List.take_append_drop]
  rw [e, List.length_append] at h
  omega
def InI (n : Int) : Prop := -9223372036854775808 ≤ n ∧ n ≤ 9223372036854775807
def EvR (x : EvL) : Prop := ∀ n ∈ evL x, InI n
set_option maxRecDepth 100000 in
set_option maxHeartbeats 4000000 in
theorem encode_any (x : EvL) (hx : EvR x) (w : World) : Calls Try.prog 16 #[.agg (evA x)] w (RetOwn w 5 (encE x).length (cs b8 (encE x))) := by
  have HX : Hid (∃ E : Nat → List UInt8, E = outE x ∧ E 0 = [] ∧ E 9 = encE x ∧ (∀ q, q ≤ 9 → (E q).length ≤ 90)) := Lib.hid ⟨_, rfl, rfl, rfl, fun q hq => outE_len x q hq⟩
  obtain ⟨E, hE, hE0, hE9, hEl⟩ := HX.out
  have HL := Lib.hid hEl
  have H0 := Lib.hid hE0
  have H9 := Lib.hid hE9
  have HS : Hid (∀ q n, (evL x)[q]? = some n → E (q + 1) = E q ++ putInt n) := Lib.hid (by rw [hE]; exact outE_succ x)
  have HR := Lib.hid hx
  clear hEl hE0 hE9 hE HX hx
  obtain ⟨d, s, a, l, k, b, p, r, e⟩ := x
  dsimp only [evA]
  go_enter Try.func16, Try.ntmps16
  go_wp2_with fail
  have HW : Hid (Below w.heap.size w (w.alloc (.cells #[.int .i64 d, .int .i64 s, .int .i64 a, .int .i64 l, .int .i64 k, .int .i64 b, .int .i64 p, .int .i64 r, .int .i64 e] 27))) := Lib.hid (below_alloc _ _)
  generalize w.alloc (.cells #[.int .i64 d, .int .i64 s, .int .i64 a, .int .i64 l, .int .i64 k, .int .i64 b, .int .i64 p, .int .i64 r, .int .i64 e] 27) = W1 at *
  go_loopw [3, 25] (fun v i wr => ∃ (q n : Nat) (aa : Option Addr) (ca : Nat), q ≤ 9 ∧ i = .int .i64 (q : Int) ∧ v = .slice aa n ca ∧ Hid (n = (E q).length) ∧ n ≤ 90 ∧ wr.ownsRow w.heap.size 5 1 (.slice aa n ca) n (cs b8 (E q)) ∧ Below w.heap.size w wr)
    (fun _ i _ => 9 - (intOf i).toNat)
  case atStart => exact ⟨0, 0, none, 0, by omega, rfl, rfl, Lib.hid (by rw [H0.out]; rfl), by omega, by rw [H0.out]; exact World.ownsRow_nil _ _ _ _, HW.out⟩
  case round =>
    obtain ⟨q, n, aa, ca, hq, rfl, rfl, hn, hn2, ho, hb⟩ := hrel
    have hz := hb.size
    rcases (by omega : q = 0 ∨ q = 1 ∨ q = 2 ∨ q = 3 ∨ q = 4 ∨ q = 5 ∨ q = 6 ∨ q = 7 ∨ q = 8 ∨ q = 9) with rfl | rfl | rfl | rfl | rfl | rfl | rfl | rfl | rfl | rfl
    case inr.inr.inr.inr.inr.inr.inr.inr.inr =>
      go_wp2
      go_ret
      rw [H9.out] at ho hn
      rw [← hn.out]
      exact ⟨_, rfl, ho, hb⟩
    case inl =>
      have hr : InI d := HR.out d (by simp [evL])
      obtain ⟨hr1, hr2⟩ := hr
      have HE := Lib.hid (HS.out 0 d rfl)
      have HLq := Lib.hid (HL.out (0 + 1) (by omega))
      have i0 : ∀ w : World, (Instr.index 63 (.agg #[.int .i64 d, .int .i64 s, .int .i64 a, .int .i64 l, .int .i64 k, .int .i64 b, .int .i64 p, .int .i64 r, .int .i64 e]) (.int .i64 0)).run Try.prog w = .ok (.int .i64 d) w := fun _ => by kernel_rfl
      obtain ⟨a', c', e1, hso⟩ := sl_of_own ho
      cases e1
      have hpx := putInt_length d
      go_wp2_with fail
      refine (putInt_any _ d aa n ca _ hso (by omega) hr1 hr2).mono ?_
      rintro e' w2 ⟨v2, rfl, ho2, hb2⟩
      go_wp2_with fail
      go_roundw
      case rel =>
        obtain ⟨a2, c2, rfl, hs2⟩ := sl_of_own ho2
        refine ⟨0 + 1, _, a2, c2, by omega, rfl, rfl, ?_, ?_, ?_, hb.trans (hb2.mono hz)⟩
        · exact Lib.hid (by rw [HE.out, hn.out]; simp)
        · have h3 := HLq.out; rw [HE.out, List.length_append, ← hn.out] at h3; exact h3
        · rw [HE.out]; exact ownsRow_mono ho2 hz
      case measure => simp [intOf]
    case inr.inl =>
      have hr : InI s := HR.out s (by simp [evL])
      obtain ⟨hr1, hr2⟩ := hr
      have HE := Lib.hid (HS.out 1 s rfl)
      have HLq := Lib.hid (HL.out (1 + 1) (by omega))
      have i0 : ∀ w : World, (Instr.index 63 (.agg #[.int .i64 d, .int .i64 s, .int .i64 a, .int .i64 l, .int .i64 k, .int .i64 b, .int .i64 p, .int .i64 r, .int .i64 e]) (.int .i64 1)).run Try.prog w = .ok (.int .i64 s) w := fun _ => by kernel_rfl
      obtain ⟨a', c', e1, hso⟩ := sl_of_own ho
      cases e1
      have hpx := putInt_length s
      go_wp2_with fail
      refine (putInt_any _ s aa n ca _ hso (by omega) hr1 hr2).mono ?_
      rintro e' w2 ⟨v2, rfl, ho2, hb2⟩
      go_wp2_with fail
      go_roundw
      case rel =>
        obtain ⟨a2, c2, rfl, hs2⟩ := sl_of_own ho2
        refine ⟨1 + 1, _, a2, c2, by omega, rfl, rfl, ?_, ?_, ?_, hb.trans (hb2.mono hz)⟩
        · exact Lib.hid (by rw [HE.out, hn.out]; simp)
        · have h3 := HLq.out; rw [HE.out, List.length_append, ← hn.out] at h3; exact h3
        · rw [HE.out]; exact ownsRow_mono ho2 hz
      case measure => simp [intOf]
    case inr.inr.inl =>
      have hr : InI a := HR.out a (by simp [evL])
      obtain ⟨hr1, hr2⟩ := hr
      have HE := Lib.hid (HS.out 2 a rfl)
      have HLq := Lib.hid (HL.out (2 + 1) (by omega))
      have i0 : ∀ w : World, (Instr.index 63 (.agg #[.int .i64 d, .int .i64 s, .int .i64 a, .int .i64 l, .int .i64 k, .int .i64 b, .int .i64 p, .int .i64 r, .int .i64 e]) (.int .i64 2)).run Try.prog w = .ok (.int .i64 a) w := fun _ => by kernel_rfl
      obtain ⟨a', c', e1, hso⟩ := sl_of_own ho
      cases e1
      have hpx := putInt_length a
      go_wp2_with fail
      refine (putInt_any _ a aa n ca _ hso (by omega) hr1 hr2).mono ?_
      rintro e' w2 ⟨v2, rfl, ho2, hb2⟩
      go_wp2_with fail
      go_roundw
      case rel =>
        obtain ⟨a2, c2, rfl, hs2⟩ := sl_of_own ho2
        refine ⟨2 + 1, _, a2, c2, by omega, rfl, rfl, ?_, ?_, ?_, hb.trans (hb2.mono hz)⟩
        · exact Lib.hid (by rw [HE.out, hn.out]; simp)
        · have h3 := HLq.out; rw [HE.out, List.length_append, ← hn.out] at h3; exact h3
        · rw [HE.out]; exact ownsRow_mono ho2 hz
      case measure => simp [intOf]
    case inr.inr.inr.inl =>
      have hr : InI l := HR.out l (by simp [evL])
      obtain ⟨hr1, hr2⟩ := hr
      have HE := Lib.hid (HS.out 3 l rfl)
      have HLq := Lib.hid (HL.out (3 + 1) (by omega))
      have i0 : ∀ w : World, (Instr.index 63 (.agg #[.int .i64 d, .int .i64 s, .int .i64 a, .int .i64 l, .int .i64 k, .int .i64 b, .int .i64 p, .int .i64 r, .int .i64 e]) (.int .i64 3)).run Try.prog w = .ok (.int .i64 l) w := fun _ => by kernel_rfl
      obtain ⟨a', c', e1, hso⟩ := sl_of_own ho
      cases e1
      have hpx := putInt_length l
      go_wp2_with fail
      refine (putInt_any _ l aa n ca _ hso (by omega) hr1 hr2).mono ?_
      rintro e' w2 ⟨v2, rfl, ho2, hb2⟩
      go_wp2_with fail
      go_roundw
      case rel =>
        obtain ⟨a2, c2, rfl, hs2⟩ := sl_of_own ho2
        refine ⟨3 + 1, _, a2, c2, by omega, rfl, rfl, ?_, ?_, ?_, hb.trans (hb2.mono hz)⟩
        · exact Lib.hid (by rw [HE.out, hn.out]; simp)
        · have h3 := HLq.out; rw [HE.out, List.length_append, ← hn.out] at h3; exact h3
        · rw [HE.out]; exact ownsRow_mono ho2 hz
      case measure => simp [intOf]
    case inr.inr.inr.inr.inl =>
      have hr : InI k := HR.out k (by simp [evL])
      obtain ⟨hr1, hr2⟩ := hr
      have HE := Lib.hid (HS.out 4 k rfl)
      have HLq := Lib.hid (HL.out (4 + 1) (by omega))
      have i0 : ∀ w : World, (Instr.index 63 (.agg #[.int .i64 d, .int .i64 s, .int .i64 a, .int .i64 l, .int .i64 k, .int .i64 b, .int .i64 p, .int .i64 r, .int .i64 e]) (.int .i64 4)).run Try.prog w = .ok (.int .i64 k) w := fun _ => by kernel_rfl
      obtain ⟨a', c', e1, hso⟩ := sl_of_own ho
      cases e1
      have hpx := putInt_length k
      go_wp2_with fail
      refine (putInt_any _ k aa n ca _ hso (by omega) hr1 hr2).mono ?_
      rintro e' w2 ⟨v2, rfl, ho2, hb2⟩
      go_wp2_with fail
      go_roundw
      case rel =>
        obtain ⟨a2, c2, rfl, hs2⟩ := sl_of_own ho2
        refine ⟨4 + 1, _, a2, c2, by omega, rfl, rfl, ?_, ?_, ?_, hb.trans (hb2.mono hz)⟩
        · exact Lib.hid (by rw [HE.out, hn.out]; simp)
        · have h3 := HLq.out; rw [HE.out, List.length_append, ← hn.out] at h3; exact h3
        · rw [HE.out]; exact ownsRow_mono ho2 hz
      case measure => simp [intOf]
    case inr.inr.inr.inr.inr.inl =>
      have hr : InI b := HR.out b (by simp [evL])
      obtain ⟨hr1, hr2⟩ := hr
      have HE := Lib.hid (HS.out 5 b rfl)
      have HLq := Lib.hid (HL.out (5 + 1) (by omega))
      have i0 : ∀ w : World, (Instr.index 63 (.agg #[.int .i64 d, .int .i64 s, .int .i64 a, .int .i64 l, .int .i64 k, .int .i64 b, .int .i64 p, .int .i64 r, .int .i64 e]) (.int .i64 5)).run Try.prog w = .ok (.int .i64 b) w := fun _ => by kernel_rfl
      obtain ⟨a', c', e1, hso⟩ := sl_of_own ho
      cases e1
      have hpx := putInt_length b
      go_wp2_with fail
      refine (putInt_any _ b aa n ca _ hso (by omega) hr1 hr2).mono ?_
      rintro e' w2 ⟨v2, rfl, ho2, hb2⟩
      go_wp2_with fail
      go_roundw
      case rel =>
        obtain ⟨a2, c2, rfl, hs2⟩ := sl_of_own ho2
        refine ⟨5 + 1, _, a2, c2, by omega, rfl, rfl, ?_, ?_, ?_, hb.trans (hb2.mono hz)⟩
        · exact Lib.hid (by rw [HE.out, hn.out]; simp)
        · have h3 := HLq.out; rw [HE.out, List.length_append, ← hn.out] at h3; exact h3
        · rw [HE.out]; exact ownsRow_mono ho2 hz
      case measure => simp [intOf]
    case inr.inr.inr.inr.inr.inr.inl =>
      have hr : InI p := HR.out p (by simp [evL])
      obtain ⟨hr1, hr2⟩ := hr
      have HE := Lib.hid (HS.out 6 p rfl)
      have HLq := Lib.hid (HL.out (6 + 1) (by omega))
      have i0 : ∀ w : World, (Instr.index 63 (.agg #[.int .i64 d, .int .i64 s, .int .i64 a, .int .i64 l, .int .i64 k, .int .i64 b, .int .i64 p, .int .i64 r, .int .i64 e]) (.int .i64 6)).run Try.prog w = .ok (.int .i64 p) w := fun _ => by kernel_rfl
      obtain ⟨a', c', e1, hso⟩ := sl_of_own ho
      cases e1
      have hpx := putInt_length p
      go_wp2_with fail
      refine (putInt_any _ p aa n ca _ hso (by omega) hr1 hr2).mono ?_
      rintro e' w2 ⟨v2, rfl, ho2, hb2⟩
      go_wp2_with fail
      go_roundw
      case rel =>
        obtain ⟨a2, c2, rfl, hs2⟩ := sl_of_own ho2
        refine ⟨6 + 1, _, a2, c2, by omega, rfl, rfl, ?_, ?_, ?_, hb.trans (hb2.mono hz)⟩
        · exact Lib.hid (by rw [HE.out, hn.out]; simp)
        · have h3 := HLq.out; rw [HE.out, List.length_append, ← hn.out] at h3; exact h3
        · rw [HE.out]; exact ownsRow_mono ho2 hz
      case measure => simp [intOf]
    case inr.inr.inr.inr.inr.inr.inr.inl =>
      have hr : InI r := HR.out r (by simp [evL])
      obtain ⟨hr1, hr2⟩ := hr
      have HE := Lib.hid (HS.out 7 r rfl)
      have HLq := Lib.hid (HL.out (7 + 1) (by omega))
      have i0 : ∀ w : World, (Instr.index 63 (.agg #[.int .i64 d, .int .i64 s, .int .i64 a, .int .i64 l, .int .i64 k, .int .i64 b, .int .i64 p, .int .i64 r, .int .i64 e]) (.int .i64 7)).run Try.prog w = .ok (.int .i64 r) w := fun _ => by kernel_rfl
      obtain ⟨a', c', e1, hso⟩ := sl_of_own ho
      cases e1
      have hpx := putInt_length r
      go_wp2_with fail
      refine (putInt_any _ r aa n ca _ hso (by omega) hr1 hr2).mono ?_
      rintro e' w2 ⟨v2, rfl, ho2, hb2⟩
      go_wp2_with fail
      go_roundw
      case rel =>
        obtain ⟨a2, c2, rfl, hs2⟩ := sl_of_own ho2
        refine ⟨7 + 1, _, a2, c2, by omega, rfl, rfl, ?_, ?_, ?_, hb.trans (hb2.mono hz)⟩
        · exact Lib.hid (by rw [HE.out, hn.out]; simp)
        · have h3 := HLq.out; rw [HE.out, List.length_append, ← hn.out] at h3; exact h3
        · rw [HE.out]; exact ownsRow_mono ho2 hz
      case measure => simp [intOf]
    case inr.inr.inr.inr.inr.inr.inr.inr.inl =>
      have hr : InI e := HR.out e (by simp [evL])
      obtain ⟨hr1, hr2⟩ := hr
      have HE := Lib.hid (HS.out 8 e rfl)
      have HLq := Lib.hid (HL.out (8 + 1) (by omega))
      have i0 : ∀ w : World, (Instr.index 63 (.agg #[.int .i64 d, .int .i64 s, .int .i64 a, .int .i64 l, .int .i64 k, .int .i64 b, .int .i64 p, .int .i64 r, .int .i64 e]) (.int .i64 8)).run Try.prog w = .ok (.int .i64 e) w := fun _ => by kernel_rfl
      obtain ⟨a', c', e1, hso⟩ := sl_of_own ho
      cases e1
      have hpx := putInt_length e
      go_wp2_with fail
      refine (putInt_any _ e aa n ca _ hso (by omega) hr1 hr2).mono ?_
      rintro e' w2 ⟨v2, rfl, ho2, hb2⟩
      go_wp2_with fail
      go_roundw
      case rel =>
        obtain ⟨a2, c2, rfl, hs2⟩ := sl_of_own ho2
        refine ⟨8 + 1, _, a2, c2, by omega, rfl, rfl, ?_, ?_, ?_, hb.trans (hb2.mono hz)⟩
        · exact Lib.hid (by rw [HE.out, hn.out]; simp)
        · have h3 := HLq.out; rw [HE.out, List.length_append, ← hn.out] at h3; exact h3
        · rw [HE.out]; exact ownsRow_mono ho2 hz
      case measure => simp [intOf]
end Go.Proofs.Ytdgjdbpbnipjcaa
