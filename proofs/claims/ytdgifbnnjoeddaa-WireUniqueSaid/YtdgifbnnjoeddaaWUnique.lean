/-
  WIRE, THE WALKS: the law WireUnique.
-/
import Derived.Test.YtdgifbnnjoeddaaProg
import Derived.Test.YtdgifbnnjoeddaaBase2
import Derived.Test.YtdgifbnnjoeddaaWire9
import Derived.Test.YtdgifbnnjoeddaaWireP5
import Derived.Test.YtdgifbnnjoeddaaWireP3
import Derived.Test.YtdgifbnnjoeddaaBase3
import Derived.BigQuiet
import Derived.Deep.DeepCutAuto
import Derived.Deep.QuietTactic
import Derived.WalkSpells
import Derived.WalkLawsBesides
namespace Go.Proofs.Ytdgifbnnjoeddaa
open Go.RowKit
set_option linter.unusedVariables false







theorem text_val {bs : List UInt8} {at_ : Int} {t : List UInt8} {nx er : Int} {ao : Option Addr} {len cap : Nat} {w : World} (hs : Sl w 1 ao len cap (cs b8 bs)) (hlen : len ≤ 1000000000) (hr : Hid (textRes bs at_ = (t, nx, er))) :
    Calls Try.prog 35 #[.slice ao len cap, .int .i64 at_] w (fun e w' => e = .returned (.tuple #[.string ⟨t.toArray⟩, .int .i64 nx, .int .i64 er]) ∧ w = w') :=
  (text_any bs at_ ao len cap w hs hlen).mono fun _ _ h => by rw [hr.out] at h; exact h
theorem ints_val {bs : List UInt8} {at_ : Int} {l : List Int} {nx er : Int} {ao : Option Addr} {len cap : Nat} {w : World} (hs : Sl w 1 ao len cap (cs b8 bs)) (hlen : len ≤ 1000000000) (hr : Hid (intsRes bs at_ = (l, nx, er))) :
    Calls Try.prog 37 #[.slice ao len cap, .int .i64 at_] w (fun e w' => ∃ v, e = .returned (.tuple #[v, .int .i64 nx, .int .i64 er]) ∧ w'.ownsRow w.heap.size 3 1 v l.length (cs i64v l) ∧ Below w.heap.size w w') :=
  (ints_any bs at_ ao len cap w hs hlen).mono fun _ _ h => by rw [hr.out] at h; exact h

theorem textRes_err {bs : List UInt8} {at_ : Int} {t : List UInt8} {nx er : Int} (h : textRes bs at_ = (t, nx, er)) (he : er ≠ 0) : t = [] ∧ nx = 0 := by
  unfold textRes at h
  split at h
  · simp only [Prod.mk.injEq] at h; exact ⟨h.1.symm, h.2.1.symm⟩
  · split at h
    · simp only [Prod.mk.injEq] at h; exact ⟨h.1.symm, h.2.1.symm⟩
    · split at h
      · simp only [Prod.mk.injEq] at h; exact ⟨h.1.symm, h.2.1.symm⟩
      · simp only [Prod.mk.injEq] at h; exact absurd h.2.2.symm he
theorem intsGo_err0 (bs : List UInt8) : ∀ (k : Nat) (nx : Int) (acc l : List Int) (x er : Int), intsGo bs k nx acc = (l, x, er) → er ≠ 0 → l = [] ∧ x = 0 := by
  intro k
  induction k with
  | zero => intro nx acc l x er h he; rw [intsGo_zero] at h; simp only [Prod.mk.injEq] at h; exact absurd h.2.2.symm he
  | succ k ih =>
    intro nx acc l x er h he
    rw [intsGo] at h
    split at h
    · simp only [Prod.mk.injEq] at h; exact ⟨h.1.symm, h.2.1.symm⟩
    · exact ih _ _ _ _ _ h he
theorem intsRes_err {bs : List UInt8} {at_ : Int} {l : List Int} {nx er : Int} (h : intsRes bs at_ = (l, nx, er)) (he : er ≠ 0) : l = [] ∧ nx = 0 := by
  unfold intsRes at h
  split at h
  · simp only [Prod.mk.injEq] at h; exact ⟨h.1.symm, h.2.1.symm⟩
  · split at h
    · simp only [Prod.mk.injEq] at h; exact ⟨h.1.symm, h.2.1.symm⟩
    · exact intsGo_err0 bs _ _ _ _ _ _ h he

set_option maxRecDepth 100000 in
set_option maxHeartbeats 4000000 in
theorem wireUnique_walk (bs : List UInt8) (a1 : Int) (a0 : Option Addr) (len0 cap0 : Nat) (w : World) (hs : Sl w 1 a0 len0 cap0 (cs b8 bs)) :
    Calls Try.prog 14 #[.slice a0 len0 cap0, .int .i64 a1] w fun e w' => e = .returned (.bool true) ∧ Below w.heap.size w w' := by
  by_cases hbig : 2000 < len0
  · go_enter Try.func14, Try.ntmps14
    go_wp2_with (go_at_call 27; refine (awake_any _).mono ?_; rintro e w' ⟨rfl, hb⟩)
    all_goals (go_ret; exact ⟨rfl, by assumption⟩)
  · have g1 : len0 ≤ 2000 := by omega
    clear hbig
    have hcb := hs.count
    obtain ⟨⟨n, nx, er⟩, hr⟩ : ∃ r, intRes bs a1 = r := ⟨_, rfl⟩
    obtain ⟨⟨t, nx2, er2⟩, hr2⟩ : ∃ r, textRes bs a1 = r := ⟨_, rfl⟩
    obtain ⟨⟨l, nx3, er3⟩, hr3⟩ : ∃ r, intsRes bs a1 = r := ⟨_, rfl⟩
    obtain ⟨p1, p2, p3, p4⟩ := intRes_props hr
    have u1 : er = 0 → partL bs a1 nx = putInt n := fun h => by subst h; obtain ⟨pre, rest, e1, e2, e3⟩ := intRes_dec hr; rw [e1]; exact partL_of e2 e3
    have u2 : er2 = 0 → partL bs a1 nx2 = putText t := fun h => by subst h; obtain ⟨pre, rest, e1, e2, e3⟩ := textRes_dec hr2; rw [e1]; exact partL_of e2 e3
    have u3 : er3 = 0 → partL bs a1 nx3 = putInts l := fun h => by subst h; obtain ⟨pre, rest, e1, e2, e3⟩ := intsRes_dec hr3; rw [e1]; exact partL_of e2 e3
    have ht : t.length ≤ 2000 := by
      by_cases h : er2 = 0
      · subst h
        obtain ⟨pre, rest, e1, e2, e3⟩ := textRes_dec hr2
        have h1 := congrArg List.length e1
        rw [List.length_append, List.length_append, putText, List.length_append] at h1
        omega
      · rw [(textRes_err hr2 h).1]; simp
    have v2 : er2 ≠ 0 → t = [] ∧ nx2 = 0 := textRes_err hr2
    have v3 : er3 ≠ 0 → l = [] ∧ nx3 = 0 := intsRes_err hr3
    have hll := intsRes_props bs a1
    rw [hr3] at hll
    obtain ⟨hll, hI⟩ := hll
    simp only at hll hI
    have hll' : l.length ≤ 2000 := by omega
    clear hll hcb
    have HR := Lib.hid hr
    have HR2 := Lib.hid hr2
    have HR3 := Lib.hid hr3
    have U1 := Lib.hid u1
    have U2 := Lib.hid u2
    have U3 := Lib.hid u3
    have V2 := Lib.hid v2
    have V3 := Lib.hid v3
    clear hr hr2 hr3 u1 u2 u3 v2 v3
    go_enter Try.func14, Try.ntmps14
    go_upto_region 4 with (go_at_call 33; refine (int_val hs (by omega) HR).mono ?_; rintro e w' ⟨rfl, rfl⟩)
    go_cut [44] (fun s wx => s = .bool false ∧ Below w.heap.size w wx)
    case first =>
      by_cases he : er = 0
      · subst he
        have hu := U1.out rfl
        have HU := Lib.hid hu
        clear hu p4
        go_wp2_with fail
        refine (part_any bs a1 nx a0 len0 cap0 _ hs (by omega)).mono ?_
        rintro e w1 ⟨x1, l1, c1, rfl, s1, hb1⟩
        rw [HU.out] at s1
        go_wp2_with fail
        refine (putInt_any [] n none 0 0 _ (Sl.nil _ _) (by omega) p2.1 p2.2).mono ?_
        rintro e w2 ⟨v2, rfl, ho2, hb2⟩
        obtain ⟨N2, x2, c2, rfl, s2⟩ := sl_own ho2
        clear ho2
        go_wp2_with fail
        refine (refSame_any _ _ x1 x2 _ c1 N2 c2 _ (s1.ext hb2) s2).mono ?_
        rintro e w3 ⟨rfl, hb3⟩
        rw [decide_eq_true (show putInt n = [] ++ putInt n from rfl)]
        have k3 := below_step hb1 (below_step hb2 hb3)
        clear hb1 hb2 hb3 s1 s2
        go_wp2_with fail
        go_meet
        exact ⟨rfl, k3⟩
      · obtain ⟨rfl, rfl⟩ := p4 he
        go_wp2_with fail
        go_meet
        exact ⟨rfl, Below.refl _ _⟩
    case rest =>
      obtain ⟨rfl, kA⟩ := hcut
      have hsA := hs.ext kA
      go_upto_region 7 with (go_at_call 35; refine (text_val hsA (by omega) HR2).mono ?_; rintro e w' ⟨rfl, rfl⟩)
      go_cut [75] (fun s wx => s = .bool false ∧ Below w.heap.size w wx)
      case first =>
        by_cases he : er2 = 0
        · subst he
          have hu := U2.out rfl
          have HU := Lib.hid hu
          clear hu
          go_wp2_with fail
          refine (part_any bs a1 nx2 a0 len0 cap0 _ hsA (by omega)).mono ?_
          rintro e w1 ⟨x1, l1, c1, rfl, s1, hb1⟩
          rw [HU.out] at s1
          go_wp2_with fail
          refine (putText_any [] ⟨t.toArray⟩ none 0 0 _ (Sl.nil _ _) (by omega) (by show t.toArray.size ≤ _; simp; omega)).mono ?_
          rintro e w2 ⟨v2, rfl, ho2, hb2⟩
          obtain ⟨N2, x2, c2, rfl, s2⟩ := sl_own ho2
          clear ho2
          go_wp2_with fail
          refine (refSame_any _ _ x1 x2 _ c1 N2 c2 _ (s1.ext hb2) s2).mono ?_
          rintro e w3 ⟨rfl, hb3⟩
          rw [decide_eq_true (by simp)]
          have k3 := below_step kA (below_step hb1 (below_step hb2 hb3))
          clear hb1 hb2 hb3 s1 s2
          go_wp2_with fail
          go_meet
          exact ⟨rfl, k3⟩
        · obtain ⟨rfl, rfl⟩ := V2.out he
          go_wp2_with fail
          go_meet
          exact ⟨rfl, kA⟩
      case rest =>
        obtain ⟨rfl, kB⟩ := hcut
        have hsB := hs.ext kB
        go_upto_region 10 with (go_at_call 37; refine (ints_val hsB (by omega) HR3).mono ?_; rintro e w' ⟨v3, rfl, ho3, hb3⟩; obtain ⟨a3, c3, rfl, s3⟩ := sl_of_own ho3)
        have kC := below_step kB hb3
        go_cut [107] (fun s wx => s = .bool false ∧ Below w.heap.size w wx)
        case first =>
          by_cases he : er3 = 0
          · subst he
            have hu := U3.out rfl
            have HU := Lib.hid hu
            clear hu
            go_wp2_with fail
            refine (part_any bs a1 nx3 a0 len0 cap0 _ (hs.ext kC) (by omega)).mono ?_
            rintro e w1 ⟨x1, l1, c1, rfl, s1, hb1⟩
            rw [HU.out] at s1
            go_wp2_with fail
            refine (putInts_any [] l none a3 0 0 l.length c3 _ (Sl.nil _ _) (s3.ext hb1) hI (by omega) (by omega)).mono ?_
            rintro e w2 ⟨v2, rfl, ho2, hb2⟩
            obtain ⟨N2, x2, c2, rfl, s2⟩ := sl_own ho2
            clear ho2
            go_wp2_with fail
            refine (refSame_any _ _ x1 x2 _ c1 N2 c2 _ (s1.ext hb2) s2).mono ?_
            rintro e w3 ⟨rfl, hb3⟩
            rw [decide_eq_true (show putInts l = [] ++ putInts l from rfl)]
            have k3 := below_step kC (below_step hb1 (below_step hb2 hb3))
            clear hb1 hb2 hb3 s1 s2
            go_wp2_with fail
            go_meet
            exact ⟨rfl, k3⟩
          · obtain ⟨rfl, rfl⟩ := V3.out he
            go_wp2_with fail
            go_meet
            exact ⟨rfl, kC⟩
        case rest =>
          obtain ⟨rfl, kD⟩ := hcut
          go_wp2_with fail
          refine (awake_any _).mono ?_
          rintro e w4 ⟨rfl, hb4⟩
          go_wp2
          go_ret
          exact ⟨rfl, below_step kD hb4⟩
end Go.Proofs.Ytdgifbnnjoeddaa
