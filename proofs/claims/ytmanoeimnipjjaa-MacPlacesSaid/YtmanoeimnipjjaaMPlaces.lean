/-
  MAC, THE LAWS' WALKS: MacPlaces.
-/
import Derived.Test.YtmanoeimnipjjaaProg
import Derived.Test.YtmanoeimnipjjaaBase3
import Derived.Test.YtmanoeimnipjjaaBase5
import Derived.Test.YtmanoeimnipjjaaBase6
import Derived.Test.YtmanoeimnipjjaaBase11
import Derived.Test.YtmanoeimnipjjaaMac1
import Derived.Test.YtmanoeimnipjjaaMac5
import Derived.Test.YtmanoeimnipjjaaHeld
import Derived.Test.YtmanoeimnipjjaaHeld2
import Derived.Test.YtmanoeimnipjjaaWire6
import Derived.BigQuiet
import Derived.Laws.StructEq
import Derived.StillTailTactics
import Derived.RegionTactic
import Derived.Deep.DeepCutAuto
import Derived.Deep.QuietTactic
import Derived.WalkSpells
import Derived.WalkLawsBesides
namespace Go.Proofs.Ytmanoeimnipjjaa
open Go.RowKit
set_option linter.unusedVariables false

theorem keep2k {w w1 : World} {ka kb oa ob : BitVec 64} {E F : TypeId} {o : Obj} (hb : Below (w.heap.size + 2) (((w.alloc (.cells #[u64 ka, u64 kb] E)).alloc (.cells #[u64 oa, u64 ob] F)).alloc o) w1) :
    w1.cell? ⟨w.heap.size, 0, none⟩ = some (u64 ka) ∧ w1.cell? ⟨w.heap.size, 1, none⟩ = some (u64 kb) ∧ w1.cell? ⟨w.heap.size + 1, 0, none⟩ = some (u64 oa) ∧ w1.cell? ⟨w.heap.size + 1, 1, none⟩ = some (u64 ob) ∧ Below w.heap.size w w1 := by
  obtain ⟨a, b, c, d, e, _, _⟩ := keep7_0 w (u64 ka) (u64 kb) (u64 oa) (u64 ob) E F _ rfl
  have h1 := below_alloc ((w.alloc (.cells #[u64 ka, u64 kb] E)).alloc (.cells #[u64 oa, u64 ob] F)) o
  have hz : ((w.alloc (.cells #[u64 ka, u64 kb] E)).alloc (.cells #[u64 oa, u64 ob] F)).heap.size = w.heap.size + 2 := by simp
  rw [hz] at h1
  have h2 := h1.trans hb
  exact ⟨(h2.cell (p := ⟨w.heap.size, 0, none⟩) (by simp)).trans a, (h2.cell (p := ⟨w.heap.size, 1, none⟩) (by simp)).trans b, (h2.cell (p := ⟨w.heap.size + 1, 0, none⟩) (by simp)).trans d, (h2.cell (p := ⟨w.heap.size + 1, 1, none⟩) (by simp)).trans e,
    c.trans (h2.mono (by omega))⟩
theorem sum_p {bs : List UInt8} {ao : Option Addr} {len cap g : Nat} {w w1 : World} {ka kb : BitVec 64} (HS : Hid (Sl w 1 ao len cap (cs b8 bs) ∧ len ≤ 1000000000)) (hS : w1.cell? ⟨g, 0, none⟩ = some (u64 ka) ∧ w1.cell? ⟨g, 1, none⟩ = some (u64 kb) ∧ Below w.heap.size w w1) :
    Calls Try.prog 31 #[.agg #[u64 ka, u64 kb], .slice ao len cap] w1 (RetB (u64 (sipSum ka kb bs)) w1) := sum_any ka kb bs ao len cap w1 (HS.out.1.ext hS.2.2) HS.out.2
theorem sum_q {bs : List UInt8} {ao : Option Addr} {len cap : Nat} {w1 : World} {ka kb : BitVec 64} (HS : Hid (Sl w1 1 ao len cap (cs b8 bs) ∧ len ≤ 1000000000)) :
    Calls Try.prog 31 #[.agg #[u64 ka, u64 kb], .slice ao len cap] w1 (RetB (u64 (sipSum ka kb bs)) w1) := sum_any ka kb bs ao len cap w1 HS.out.1 HS.out.2

theorem sl_S {W w1 : World} {p q : Addr} {x y : Value} {a : Option Addr} {n c : Nat} {bs : List UInt8} (H : Hid (Sl W 1 a n c (cs b8 bs))) (hS : w1.cell? p = some x ∧ w1.cell? q = some y ∧ Below W.heap.size W w1) : Sl w1 1 a n c (cs b8 bs) := H.out.ext hS.2.2
theorem size_S {W w1 : World} {p q : Addr} {x y : Value} (hS : w1.cell? p = some x ∧ w1.cell? q = some y ∧ Below W.heap.size W w1) : W.heap.size ≤ w1.heap.size := hS.2.2.size
theorem bsBelow {W W' : World} {a : Option Addr} {n c : Nat} {bs : List UInt8} (hb : Below W.heap.size W W') (h : Hid (Sl W 1 a n c (cs b8 bs) ∧ n ≤ 1000000000)) : Hid (Sl W' 1 a n c (cs b8 bs) ∧ n ≤ 1000000000) := ⟨h.out.1.ext hb, h.out.2⟩
theorem bsDrew {W : World} {a : Option Addr} {n c : Nat} {bs : List UInt8} (h : Hid (Sl W 1 a n c (cs b8 bs) ∧ n ≤ 1000000000)) : Hid (Sl W.drew 1 a n c (cs b8 bs) ∧ n ≤ 1000000000) := ⟨h.out.1.ext (Below.refl _ W).drew, h.out.2⟩

set_option maxRecDepth 100000 in
set_option maxHeartbeats 1000000 in
theorem macPlaces_walk (ka kb oa ob : BitVec 64) (b1 b2 b3 : List UInt8) (a2 a3 a4 : Option Addr) (len2 cap2 len3 cap3 len4 cap4 : Nat) (w : World) (h2 : Sl w 1 a2 len2 cap2 (cs b8 b1)) (h3 : Sl w 1 a3 len3 cap3 (cs b8 b2)) (h4 : Sl w 1 a4 len4 cap4 (cs b8 b3)) :
    Calls Try.prog 5 #[.agg #[u64 ka, u64 kb], .agg #[u64 oa, u64 ob], .slice a2 len2 cap2, .slice a3 len3 cap3, .slice a4 len4 cap4] w (RetB (.bool true) w) := by
  have H2 := Lib.hid h2
  have H3 := Lib.hid h3
  have H4 := Lib.hid h4
  have q2 := h2.count
  have q3 := h3.count
  clear h2 h3 h4
  have hb0 := Lib.hid (show Below w.heap.size w ((w.alloc (.cells #[u64 ka, u64 kb] 32)).alloc (.cells #[u64 oa, u64 ob] 32)) from below_step (below_alloc _ _) (below_alloc _ _))
  by_cases g1 : (500 : Int) < (len2 : Int)
  · clear q2 q3
    go_enter Try.func5, Try.ntmps5
    go_wp2_with fail
    refine (awake06_any _).mono ?_
    rintro e w1 ⟨rfl, hb⟩
    go_wp2
    go_ret
    exact ⟨rfl, below_step hb0.out hb⟩
  · by_cases g2 : (500 : Int) < (len3 : Int)
    · clear q2 q3
      go_enter Try.func5, Try.ntmps5
      go_wp2_with fail
      refine (awake06_any _).mono ?_
      rintro e w1 ⟨rfl, hb⟩
      go_wp2
      go_ret
      exact ⟨rfl, below_step hb0.out hb⟩
    · by_cases g3 : (500 : Int) < (len4 : Int)
      · clear q2 q3
        go_enter Try.func5, Try.ntmps5
        go_wp2_with fail
        refine (awake06_any _).mono ?_
        rintro e w1 ⟨rfl, hb⟩
        go_wp2
        go_ret
        exact ⟨rfl, below_step hb0.out hb⟩
      · have Q23 := Lib.hid (And.intro q2 q3)
        clear q2 q3
        go_enter Try.func5, Try.ntmps5
        go_wp2_with (at_builtin; refine wpList_append_many b8 (fun _ => rfl) _ rfl _ _ 22 rfl (w.heap.size + 2) 5 (.int .u8 0) 1 Try.underlying22 Try.infoU8 rfl (xs := []) (own_empty (hp_new (by simp)) (Nat.le_refl _)) rfl (H2.out.ext (below_step hb0.out (below_alloc _ _))) rfl (by unfold maxLen; omega) (by omega) (by simp) ?_)
        intro v1 w1 ho1 hb1
        (try simp only [List.nil_append, Nat.zero_add] at ho1)
        have hk1 := Lib.hid (keep2k hb1)
        have z1 : w.heap.size + 2 ≤ w1.heap.size := by have := hb1.size; simp at this; omega
        clear hb1
        go_wp2_with (at_builtin; refine wpList_append_many b8 (fun _ => rfl) _ rfl _ _ 22 rfl (w.heap.size + 2) 5 (.int .u8 0) 1 Try.underlying22 Try.infoU8 rfl ho1 rfl (H3.out.ext hk1.out.2.2.2.2) rfl (by unfold maxLen; omega) (by omega) z1 ?_)
        intro v2 w2 ho2 hb2
        have hk2 : Hid (w2.cell? ⟨w.heap.size, 0, none⟩ = some (u64 ka) ∧ w2.cell? ⟨w.heap.size, 1, none⟩ = some (u64 kb) ∧ w2.cell? ⟨w.heap.size + 1, 0, none⟩ = some (u64 oa) ∧ w2.cell? ⟨w.heap.size + 1, 1, none⟩ = some (u64 ob) ∧ Below w.heap.size w w2) :=
          ⟨(hb2.cell (p := ⟨w.heap.size, 0, none⟩) (by simp)).trans hk1.out.1, (hb2.cell (p := ⟨w.heap.size, 1, none⟩) (by simp)).trans hk1.out.2.1, (hb2.cell (p := ⟨w.heap.size + 1, 0, none⟩) (by simp)).trans hk1.out.2.2.1, (hb2.cell (p := ⟨w.heap.size + 1, 1, none⟩) (by simp)).trans hk1.out.2.2.2.1, hk1.out.2.2.2.2.trans (hb2.mono (by omega))⟩
        have z2 : w.heap.size + 2 ≤ w2.heap.size := Nat.le_trans z1 hb2.size
        clear hb2 hk1 ho1
        go_wp2_with (at_builtin; refine wpList_append_many b8 (fun _ => rfl) _ rfl _ _ 22 rfl (w.heap.size + 2) 5 (.int .u8 0) 1 Try.underlying22 Try.infoU8 rfl ho2 rfl (H4.out.ext hk2.out.2.2.2.2) rfl (by unfold maxLen; omega) (by omega) z2 ?_)
        intro v3 w3 ho3 hb3
        have hk3 : Hid (w3.cell? ⟨w.heap.size, 0, none⟩ = some (u64 ka) ∧ w3.cell? ⟨w.heap.size, 1, none⟩ = some (u64 kb) ∧ w3.cell? ⟨w.heap.size + 1, 0, none⟩ = some (u64 oa) ∧ w3.cell? ⟨w.heap.size + 1, 1, none⟩ = some (u64 ob) ∧ Below w.heap.size w w3) :=
          ⟨(hb3.cell (p := ⟨w.heap.size, 0, none⟩) (by simp)).trans hk2.out.1, (hb3.cell (p := ⟨w.heap.size, 1, none⟩) (by simp)).trans hk2.out.2.1, (hb3.cell (p := ⟨w.heap.size + 1, 0, none⟩) (by simp)).trans hk2.out.2.2.1, (hb3.cell (p := ⟨w.heap.size + 1, 1, none⟩) (by simp)).trans hk2.out.2.2.2.1, hk2.out.2.2.2.2.trans (hb3.mono (by omega))⟩
        have z3 : w.heap.size + 2 ≤ w3.heap.size := Nat.le_trans z2 hb3.size
        clear hb3 hk2 ho2
        obtain ⟨aa, ca, rfl, s3⟩ := sl_of_own ho3
        have hcap := s3.hle
        obtain ⟨ap, hrp, hsp⟩ := slice_mid (P := Try.prog) 22 5 Try.underlying22 Try.sizeU8 s3 len2 (len2 + len3) ((len2 : Int) + (len3 : Int)) (by omega) (by omega) (by omega)
        obtain ⟨at_, hrt, hst⟩ := slice_from (P := Try.prog) 22 5 Try.underlying22 Try.sizeU8 s3 (len2 + len3) (by omega)
        have e1 : ((len2 + len3 : Nat) : Int) = (len2 : Int) + (len3 : Int) := by omega
        rw [e1] at hrt
        have ep : ((b1 ++ b2 ++ b3).drop len2).take (len2 + len3 - len2) = b2 := by
          rw [show len2 = b1.length from Q23.out.1.symm, List.append_assoc, List.drop_left, show b1.length + len3 - b1.length = b2.length from by have := Q23.out.2; omega, List.take_left]
        have et : (b1 ++ b2 ++ b3).drop (len2 + len3) = b3 := by
          rw [show len2 + len3 = (b1 ++ b2).length from by rw [List.length_append, Q23.out.1, Q23.out.2], List.drop_left]
        simp only [List.append_assoc] at ep et hsp hst
        rw [ep] at hsp
        rw [et] at hst
        rw [show len2 + len3 - len2 = len3 from by omega] at hrp hsp
        rw [show len2 + len3 + len4 - (len2 + len3) = len4 from by omega] at hrt hst
        have SP := Lib.hid (And.intro hsp (show len3 ≤ 1000000000 by omega))
        have ST := Lib.hid hst
        have hw1 : IntKind.i64.wrap ((len2 : Int) + (len3 : Int)) = (len2 : Int) + (len3 : Int) := by rw [IntKind.wrap_i64]; omega
        clear hsp hst s3 ho3 ep et e1
        obtain ⟨k0, k1, k2, k3, hbw3⟩ := hk3.out
        have HBW3 := Lib.hid hbw3
        clear hk3 hbw3
        go_wp2_with fail
        refine (sum_q SP).mono ?_
        rintro e w4 ⟨rfl, hb4⟩
        have j0 := cell_keep hb4 k0
        have j1 := cell_keep hb4 k1
        have j2 := cell_keep hb4 k2
        have j3 := cell_keep hb4 k3
        have HBW4 := Lib.hid (below_step HBW3.out hb4)
        have SP4 : Hid (Sl w4 1 ap len3 (ca - len2) (cs b8 b2) ∧ len3 ≤ 1000000000) := ⟨SP.out.1.ext hb4, SP.out.2⟩
        have ST4 := Lib.hid (ST.out.ext hb4)
        have H44 : Hid (Sl w4 1 a4 len4 cap4 (cs b8 b3) ∧ len4 ≤ 1000000000) := ⟨H4.out.ext HBW4.out, by omega⟩
        clear k0 k1 k2 k3 hb4 HBW3 SP ST
        go_wp2_with fail
        refine (sum_q H44).mono ?_
        rintro e w5 ⟨rfl, hb5⟩
        have k0 := cell_keep hb5 j0
        have k1 := cell_keep hb5 j1
        have HBW5 := Lib.hid (below_step HBW4.out hb5)
        have SP5 : Hid (Sl w5 1 ap len3 (ca - len2) (cs b8 b2) ∧ len3 ≤ 1000000000) := ⟨SP4.out.1.ext hb5, SP4.out.2⟩
        have ST5 := Lib.hid (ST4.out.ext hb5)
        have H35 := Lib.hid (H3.out.ext HBW5.out)
        have H45 := Lib.hid (H4.out.ext HBW5.out)
        clear j0 j1 j2 j3 hb5 HBW4 SP4 ST4 H44
        have c1 : ∀ n, (convert 22 9 (.slice ap len3 (ca - len2))).run Try.prog (w5.drewN n) = .ok (.string ⟨b2.toArray⟩) (w5.drewN n) := fun n => run_b2s _ _ _ 5 Try.underlying22 Try.underlying9 Try.underlying5 (SP5.out.1.ext (below_drewN (Below.refl _ _) n))
        have c2 : ∀ n, (convert 22 9 (.slice a3 len3 cap3)).run Try.prog (w5.drewN n) = .ok (.string ⟨b2.toArray⟩) (w5.drewN n) := fun n => run_b2s _ _ _ 5 Try.underlying22 Try.underlying9 Try.underlying5 (H35.out.ext (below_drewN (Below.refl _ _) n))
        have c3 : ∀ n, (convert 22 9 (.slice at_ len4 (ca - (len2 + len3)))).run Try.prog (w5.drewN n) = .ok (.string ⟨b3.toArray⟩) (w5.drewN n) := fun n => run_b2s _ _ _ 5 Try.underlying22 Try.underlying9 Try.underlying5 (ST5.out.ext (below_drewN (Below.refl _ _) n))
        have c4 : ∀ n, (convert 22 9 (.slice a4 len4 cap4)).run Try.prog (w5.drewN n) = .ok (.string ⟨b3.toArray⟩) (w5.drewN n) := fun n => run_b2s _ _ _ 5 Try.underlying22 Try.underlying9 Try.underlying5 (H45.out.ext (below_drewN (Below.refl _ _) n))
        go_wp2_with fail
        go_quiet (fail)
        have KW : (w5.drewN nq).cell? ⟨w.heap.size, 0, none⟩ = some (u64 ka) ∧ (w5.drewN nq).cell? ⟨w.heap.size, 1, none⟩ = some (u64 kb) ∧ Below (w5.drewN nq).heap.size (w5.drewN nq) (w5.drewN nq) := ⟨k0, k1, Below.refl _ _⟩
        have HBW : Hid (Below w.heap.size w (w5.drewN nq)) := below_drewN HBW5.out nq
        have SPW : Hid (Sl (w5.drewN nq) 1 ap len3 (ca - len2) (cs b8 b2) ∧ len3 ≤ 1000000000) := ⟨SP5.out.1.ext (below_drewN (Below.refl _ _) nq), SP5.out.2⟩
        have H3W : Hid (Sl (w5.drewN nq) 1 a3 len3 cap3 (cs b8 b2)) := H35.out.ext (below_drewN (Below.refl _ _) nq)
        clear c1 c2 c3 c4 k0 k1 HBW5 SP5 H35 H45 ST5
        generalize w5.drewN nq = W at *
        have hgW : w.heap.size < W.heap.size := World.block_lt_of_cell? _ _ KW.1
        have hl3 : len3 ≤ 500 := by omega
        go_wp2_with fail
        go_region_held3 (fun w' => w'.cell? ⟨w.heap.size, 0, none⟩ = some (u64 ka) ∧ w'.cell? ⟨w.heap.size, 1, none⟩ = some (u64 kb) ∧ Below W.heap.size W w')
          (repeat (with_reducible first | assumption | refine keep3D ?_ | refine keep3A _ ?_ | (apply keep3; focus assumption) | (apply keep3B; (focus assumption); (focus assumption))))
          (first
            | (go_at_call 31; (with_reducible refine (sum_q (bs := b2) ?_).mono ?_); (repeat (first | (with_reducible assumption) | (with_reducible refine bsDrew ?_) | ((with_reducible apply bsBelow); focus (with_reducible assumption)))); rintro e w9 ⟨rfl, hb9⟩)
            | (go_at_call 31; (with_reducible refine (sum_p (g := w.heap.size) SPW ?_).mono ?_); (focus assumption); rintro e w9 ⟨rfl, hb9⟩)
            | (go_at_call 28; (with_reducible refine (awake06_any _).mono ?_); rintro e w9 ⟨rfl, hb9⟩)
            | ((refine step_append_many0 b8 (fun _ => rfl) _ rfl (.tmp 70) (.tmp 71) 22 rfl W.heap.size 5 (.int .u8 0) 1 Try.underlying22 Try.infoU8 rfl (v := .slice (some ⟨W.heap.size, 0, none⟩) 0 0) (n := 0) (xs := []) (by go_simp) (own_empty (by (repeat (with_reducible refine hp_drew ?_)); (with_reducible refine hp_new ?_); simp) (Nat.le_refl _)) (ys := b2) (ao := a3) (m := len3) (c := cap3) (by go_simp) (sl_S H3W (by assumption)) (by unfold maxLen; omega) (by omega) (size_S (by assumption)) ?_); intro v8 w8 ho8 hb8; obtain ⟨a8, c8, rfl, s8⟩ := sl_of_own ho8; have S8 : Hid (Sl w8 1 a8 len3 c8 (cs b8 b2) ∧ len3 ≤ 1000000000) := ⟨by rw [Nat.zero_add] at s8; exact s8, by omega⟩; clear ho8 s8))
        all_goals
          go_split_ands
          go_wp2
          go_ret
          exact ⟨rfl, below_step HBW.out (by assumption)⟩
end Go.Proofs.Ytmanoeimnipjjaa
