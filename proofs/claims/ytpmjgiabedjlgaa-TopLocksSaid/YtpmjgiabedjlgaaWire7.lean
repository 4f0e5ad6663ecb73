/-
  WIRE, THE WALKS: Ints, and the reference's.
-/
import Derived.Test.YtpmjgiabedjlgaaProg
import Derived.Test.YtpmjgiabedjlgaaBase7
import Derived.Test.YtpmjgiabedjlgaaWire6
import Derived.Test.YtpmjgiabedjlgaaWire2
import Derived.Test.YtpmjgiabedjlgaaWireP2
import Derived.BigQuiet
import Derived.Deep.QuietTactic
import Derived.WalkSpells
import Derived.WalkLawsBesides
import Derived.Test.YtpmjgiabedjlgaaWireP3
namespace Go.Proofs.Ytpmjgiabedjlgaa
open Go.RowKit
set_option linter.unusedVariables false





theorem Try.infoInt : (Try.prog.info? 3).map (fun i => (i.zero, i.size, i.bytes)) = some (some (.int .i64 0), 1, 8) := by kernel_rfl
def RetInts (w : World) (t : TypeId) (r : List Int × Int × Int) (e : Ending) (w' : World) : Prop :=
  ∃ v, e = .returned (.tuple #[v, .int .i64 r.2.1, .int .i64 r.2.2]) ∧ w'.ownsRow w.heap.size t 1 v r.1.length (cs i64v r.1) ∧ Below w.heap.size w w'

theorem RetInts.err {w w' : World} {t : TypeId} {r : List Int × Int × Int} {er : Int} (h : r = ([], 0, er)) (hb : Below w.heap.size w w') : RetInts w t r (.returned (.tuple #[.slice none 0 0, .int .i64 0, .int .i64 er])) w' := by
  subst h
  exact ⟨_, rfl, World.ownsRow_nil _ _ _ _, hb⟩
set_option maxRecDepth 100000 in
set_option maxHeartbeats 1000000 in
theorem ints_any (bs : List UInt8) (at_ : Int) (ao : Option Addr) (len cap : Nat) (w : World) (hs : Sl w 1 ao len cap (cs b8 bs)) (hlen : len ≤ 1000000000) :
    Calls Try.prog 21 #[.slice ao len cap, .int .i64 at_] w (RetInts w 3 (intsRes bs at_)) := by
  obtain ⟨⟨n, nx, er⟩, hr⟩ : ∃ r, intRes bs at_ = r := ⟨_, rfl⟩
  obtain ⟨p1, p2, p3, p4⟩ := intRes_props hr
  have hc := hs.count
  have hnl : er = 0 → 0 ≤ nx ∧ nx ≤ (len : Int) := fun h => by have := p3 h; omega
  clear p3
  have HR := Lib.hid hr
  have HC := Lib.hid hc
  clear hr hc
  by_cases he : er = 0
  · subst he
    by_cases hn : n < 0
    · have HT : Hid (intsRes bs at_ = ([], 0, 3)) := by show _ = _; unfold intsRes; rw [HR.out, if_neg (by simp), if_pos hn]
      have HL : Hid (lenRes bs at_ = (0, 0, 3)) := by show _ = _; unfold lenRes; rw [HR.out, if_neg (by simp), if_pos hn]
      go_enter Try.func21, Try.ntmps21
      go_wp2_with (go_at_call 42; refine (len_val hs (by omega) HL).mono ?_; rintro e w' ⟨rfl, rfl⟩)
      go_ret3
      exact RetInts.err HT.out (Below.refl _ _)
    · obtain ⟨q, rfl⟩ := Int.eq_ofNat_of_zero_le (show 0 ≤ n by omega)
      have HT : Hid (intsRes bs at_ = intsGo bs q nx []) := by show _ = _; unfold intsRes; rw [HR.out, if_neg (by simp), if_neg hn]; rfl
      have HL : Hid (lenRes bs at_ = ((q : Int), nx, 0)) := by show _ = _; unfold lenRes; rw [HR.out, if_neg (by simp), if_neg hn]
      have hnx := hnl rfl
      clear hnl
      go_enter Try.func21, Try.ntmps21
      go_wp2_with (go_at_call 42; refine (len_val hs (by omega) HL).mono ?_; rintro e w' ⟨rfl, rfl⟩)
      go_loopw [8, 10, 23] (fun x v i wr => ∃ (nx' : Int) (acc : List Int) (aa : Option Addr) (ca : Nat), acc.length ≤ q ∧ i = .int .i64 acc.length ∧ x = .int .i64 nx' ∧ v = .slice aa acc.length ca ∧ 0 ≤ nx' ∧ nx' ≤ (len : Int) ∧ (acc.length : Int) ≤ nx' ∧
          Hid (intsGo bs (q - acc.length) nx' acc = intsRes bs at_) ∧ wr.ownsRow w.heap.size 3 1 (.slice aa acc.length ca) acc.length (cs i64v acc) ∧ Below w.heap.size w wr)
        (fun _ _ i _ => q - (intOf i).toNat)
      case atStart => exact ⟨nx, [], none, 0, by simp, rfl, rfl, rfl, hnx.1, hnx.2, by simpa using hnx.1, by show _ = _; rw [HT.out]; rfl, World.ownsRow_nil _ _ _ _, Below.refl _ _⟩
      case round =>
        obtain ⟨nx', acc, aa, ca, hk, rfl, rfl, rfl, hn0, hn1, hal, hgo, ho, hb⟩ := hrel
        have hz := hb.size
        by_cases hkl : acc.length < q
        · obtain ⟨⟨n2, nx2, er2⟩, hr2⟩ : ∃ r, intRes bs nx' = r := ⟨_, rfl⟩
          obtain ⟨g1, g2, g3, g4⟩ := intRes_props hr2
          have hqk : q - acc.length = (q - (acc.length + 1)) + 1 := by omega
          have hgo' := hgo.out
          rw [hqk] at hgo'
          clear hqk
          by_cases he2 : er2 = 0
          · subst he2
            rw [intsGo_more hr2] at hgo'
            have HG := Lib.hid hgo'
            have HR2 := Lib.hid hr2
            have hnn : nx' < nx2 ∧ nx2 ≤ (len : Int) := by have := g3 rfl; have := HC.out; omega
            clear hr2 hgo' g3 hgo
            have hkl' : (acc.length : Int) < (q : Int) := by omega
            go_wp2_with (first | (go_at_call 19; refine (int_val (hs.ext hb) (by omega) HR2).mono ?_; rintro e w' ⟨rfl, rfl⟩) | (at_builtin; refine wpList_append_one i64v (fun _ => rfl) _ rfl _ _ 23 rfl w.heap.size 3 _ (.int .i64 0) 8 Try.underlying23 Try.infoInt rfl (.own ho) rfl _ rfl (by unfold maxLen; omega) (by omega) (by omega) ?_))
            intro v' w' ho' hg' hb'
            go_wp2
            go_roundw
            case rel =>
              obtain ⟨a', c', rfl, _⟩ := sl_of_own ho'
              exact ⟨nx2, acc ++ [n2], a', c', by simp; omega, by simp, rfl, by simp, by omega, by omega, by simp; omega, by show _ = _; rw [← HG.out]; simp, by simpa using ho', hb.trans hb'⟩
            case measure => simp [intOf]; omega
          · rw [intsGo_err hr2 he2] at hgo'
            have HG := Lib.hid hgo'
            have HR2 := Lib.hid hr2
            clear hr2 hgo' g3 hgo
            have hkl' : (acc.length : Int) < (q : Int) := by omega
            go_wp2_with (go_at_call 19; refine (int_val (hs.ext hb) (by omega) HR2).mono ?_; rintro e w' ⟨rfl, rfl⟩)
            go_ret3
            exact RetInts.err HG.out.symm hb
        · have hqk : q - acc.length = 0 := by omega
          have hgo' := hgo.out
          rw [hqk, intsGo_zero] at hgo'
          have HG := Lib.hid hgo'
          clear hqk hgo'
          have hkl' : ¬ (acc.length : Int) < (q : Int) := by omega
          go_wp2
          go_ret3
          refine ⟨_, by rw [← HG.out]; rfl, by rw [← HG.out]; exact ho, hb⟩
  · have HT : Hid (intsRes bs at_ = ([], 0, er)) := by show _ = _; unfold intsRes; rw [HR.out, if_pos he]
    have HL : Hid (lenRes bs at_ = (0, 0, er)) := by show _ = _; unfold lenRes; rw [HR.out, if_pos he]
    go_enter Try.func21, Try.ntmps21
    go_wp2_with (go_at_call 42; refine (len_val hs (by omega) HL).mono ?_; rintro e w' ⟨rfl, rfl⟩)
    go_ret3
    exact RetInts.err HT.out (Below.refl _ _)

end Go.Proofs.Ytpmjgiabedjlgaa
