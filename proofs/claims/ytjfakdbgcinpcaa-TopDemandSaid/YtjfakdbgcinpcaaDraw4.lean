/-
  DRAW, THE WALKS: Below, the reference's Below.
-/
import Derived.Test.YtjfakdbgcinpcaaProg
import Derived.Test.YtjfakdbgcinpcaaBase7
import Derived.Test.YtjfakdbgcinpcaaHeld
import Derived.BigQuiet
import Derived.Laws.StructEq
import Derived.StillTailTactics
import Derived.RegionTactic
import Derived.Deep.DeepCutAuto
import Derived.Deep.QuietTactic
import Derived.WalkSpells
import Derived.WalkLawsBesides
import Derived.Test.YtjfakdbgcinpcaaDraw3
import Derived.Test.YtjfakdbgcinpcaaLen64
import Derived.WalkMore
import Derived.ScopeJumps
namespace Go.Proofs.Ytjfakdbgcinpcaa
open Go.RowKit
set_option linter.unusedVariables false

def bl (p n : Nat) : List (BitVec 64) → Nat → Int × Int × Int
  | [], _ => (0, 0, 4)
  | a :: ws, i => if a.toNat % p < n then (((a.toNat % p : Nat) : Int), ((i + 1 : Nat) : Int), 0) else bl p n ws (i + 1)
theorem bl_hit {p n : Nat} {a : BitVec 64} {ws : List (BitVec 64)} {i : Nat} (h : a.toNat % p < n) : bl p n (a :: ws) i = (((a.toNat % p : Nat) : Int), ((i + 1 : Nat) : Int), 0) := by rw [bl, if_pos h]
theorem bl_miss {p n : Nat} {a : BitVec 64} {ws : List (BitVec 64)} {i : Nat} (h : ¬ a.toNat % p < n) : bl p n (a :: ws) i = bl p n ws (i + 1) := by rw [bl, if_neg h]
def below (ws : List (BitVec 64)) (n : Int) : Int × Int × Int := if n < 1 ∨ 1125899906842624 < n then (0, 0, 1) else bl (2 ^ kb n) n.toNat ws 0
/-- Three numbers; what was there stands. -/
def RetT3 (r : Int × Int × Int) (w : World) (e : Ending) (w' : World) : Prop := e = .returned (.tuple #[.int .i64 r.1, .int .i64 r.2.1, .int .i64 r.2.2]) ∧ Below w.heap.size w w'
theorem retT3_of {r : Int × Int × Int} {a b c : Int} {w w' : World} (h : r = (a, b, c)) (hb : Below w.heap.size w w') : RetT3 r w (.returned (.tuple #[.int .i64 a, .int .i64 b, .int .i64 c])) w' := by subst h; exact ⟨rfl, hb⟩
theorem drop_consG {α : Type} (l : List α) (d : α) (k : Nat) (hk : k < l.length) : l.drop k = l.getD k d :: l.drop (k + 1) := by
  rw [List.drop_eq_getElem_cons hk]; simp [List.getD, hk]
set_option maxRecDepth 100000 in
set_option maxHeartbeats 2000000 in
theorem below_any (ws : List (BitVec 64)) (n : Int) (ao : Option Addr) (len cap : Nat) (w : World) (hs : Sl w 1 ao len cap (cs u64 ws)) (hlen : len ≤ 1000000000000) :
    Calls Try.prog 17 #[.slice ao len cap, .int .i64 n] w (RetT3 (below ws n) w) := by
  have hc := hs.count
  obtain ⟨T, hT⟩ : ∃ T, below ws n = T := ⟨_, rfl⟩
  rw [hT]
  unfold below at hT
  have HC := Lib.hid hc
  clear hc
  by_cases h1 : n < 1
  · rw [if_pos (.inl h1)] at hT
    have HT := Lib.hid hT
    clear hT
    go_enter Try.func17, Try.ntmps17
    go_wp2
    refine wp_scope_jumps 0 (fun _ _ => False) (fun _ _ => 0) rfl ?_ (fun _ _ h => h.elim)
    go_wp2
    simp only [Exit.jump]
    go_ret3
    exact retT3_of HT.out.symm (Below.refl _ _)
  · by_cases h2 : 1125899906842624 < n
    · rw [if_pos (.inr h2)] at hT
      have HT := Lib.hid hT
      clear hT
      go_enter Try.func17, Try.ntmps17
      go_wp2
      refine wp_scope_jumps 0 (fun _ _ => False) (fun _ _ => 0) rfl ?_ (fun _ _ h => h.elim)
      go_wp2
      simp only [Exit.jump]
      go_ret3
      exact retT3_of HT.out.symm (Below.refl _ _)
    · rw [if_neg (fun h => h.elim h1 h2)] at hT
      obtain ⟨p1, p2, p3⟩ := kb_props n (by omega) (by omega)
      have hL : ∀ w, Calls Try.prog 28 #[u64 (BitVec.ofInt 64 (n - 1))] w (fun e w' => e = .returned (.int .i64 (kb n : Int)) ∧ w' = w) := fun w => by
        have e : (BitVec.ofInt 64 (n - 1)).toNat = (n - 1).toNat := by rw [BitVec.toNat_ofInt]; omega
        have h := len64_raw ((BitVec.ofInt 64 (n - 1)).toNat : Int) w (by omega) (by have := (BitVec.ofInt 64 (n - 1)).isLt; omega)
        rw [Int.toNat_natCast, e] at h
        rw [show u64 (BitVec.ofInt 64 (n - 1)) = .int .u64 ((n - 1).toNat : Int) from by unfold u64; rw [e]]
        exact h
      have hwr : IntKind.i64.wrap (n - 1) = n - 1 := by rw [IntKind.wrap_i64]; omega
      have hsh : binOp .shl 23 (.int .u64 1) (.int .i64 (kb n : Int)) = pure (u64 (1#64 <<< kb n)) := by
        have := u64_shl 23 1#64 (kb n : Int) .i64 (by omega)
        rw [Int.toNat_natCast] at this
        exact this
      have hP0 : 0 < 2 ^ kb n := Nat.pow_pos (by decide)
      have hP1 : 2 ^ kb n ≤ 1125899906842624 := Nat.pow_le_pow_right (n := 2) (by decide) p3
      have hM : ∀ a : BitVec 64, (a &&& (1#64 <<< kb n - 1#64)).toNat = a.toNat % 2 ^ kb n := by
        intro a
        have e : (1#64 <<< kb n - 1#64).toNat = 2 ^ kb n - 1 := by
          rw [BitVec.toNat_sub, BitVec.toNat_shiftLeft, Nat.shiftLeft_eq]
          have h1 : (1#64).toNat = 1 := rfl
          rw [h1, Nat.one_mul, Nat.mod_eq_of_lt (by omega : 2 ^ kb n < 2 ^ 64)]
          omega
        rw [BitVec.toNat_and, e, Nat.and_two_pow_sub_one_eq_mod]
      have hN : ∃ N : BitVec 64, BitVec.ofInt 64 n = N ∧ (N.toNat : Int) = n := ⟨_, rfl, by rw [BitVec.toNat_ofInt]; omega⟩
      obtain ⟨N, hN1, hN2⟩ := hN
      generalize hMM : 1#64 <<< kb n - 1#64 = M at *
      have HMM := Lib.hid hMM
      generalize 2 ^ kb n = P at *
      have HT := Lib.hid hT
      have HM := Lib.hid hM
      have HL := Lib.hid hL
      clear hT hM hL p1 p2
      go_enter Try.func17, Try.ntmps17
      go_wp2
      refine wp_scope_jumps 0 (fun a' w' => ∃ (k : Nat) (u2 u3 u4 u5 u6 u9 u10 u11 u12 u13 u14 u15 u16 u17 u18 u19 u20 u21 u22 u23 u24 u25 u26 u27 u28 u29 u30 u31 u32 u33 u34 u35 u36 u37 u38 u39 u40 : Value), a' = { tmps := #[.slice ao len cap, .int .i64 n, u2, u3, u4, u5, u6, u64 M, .int .i64 (k : Int), u9, u10, u11, u12, u13, u14, u15, u16, u17, u18, u19, u20, u21, u22, u23, u24, u25, u26, u27, u28, u29, u30, u31, u32, u33, u34, u35, u36, u37, u38, u39, u40], defers := [] } ∧ k ≤ len ∧ Hid (bl P n.toNat (ws.drop k) k = T) ∧ w' = w) (fun a' _ => len - (intOf (a'.tmps.getD 8 undef)).toNat) rfl ?_ ?_
      · by_cases hkl : 0 < len
        · obtain ⟨b, off, e0, hcell⟩ := hs.at_ 0 hkl 0
          subst e0
          rw [Nat.add_zero] at hcell
          have hd := drop_consG ws 0 0 (by rw [HC.out]; exact hkl)
          have hTT := HT.out
          rw [List.drop_zero] at hd
          rw [hd] at hTT
          clear hd
          generalize ws.getD 0 0 = a at *
          have hx := HM.out a
          generalize hX : a &&& M = X at *
          have hXP : X.toNat < P := by rw [hx]; exact Nat.mod_lt _ hP0
          have hI : i64of X = (X.toNat : Int) := by
            unfold i64of; rw [BitVec.toInt_eq_toNat_bmod, Int.bmod_def]; split <;> omega
          have hkl' : (0 : Int) < (len : Int) := by omega
          by_cases hin : X.toNat < n.toNat
          · rw [bl_hit (by rw [← hx]; exact hin), ← hx] at hTT
            have HTT := Lib.hid hTT
            have hlt : ¬ N.toNat ≤ X.toNat := by omega
            clear hTT hx
            go_wp2_with (go_at_call 28; refine (HL.out _).mono ?_; rintro e w' ⟨rfl, rfl⟩)
            go_step3
            go_wp2
            simp only [Exit.jump]
            go_ret3
            exact retT3_of HTT.out.symm (Below.refl _ _)
          · rw [bl_miss (by rw [← hx]; exact hin)] at hTT
            have HTT := Lib.hid hTT
            have hlt : N.toNat ≤ X.toNat := by omega
            clear hTT hx
            go_wp2_with (go_at_call 28; refine (HL.out _).mono ?_; rintro e w' ⟨rfl, rfl⟩)
            go_step3
            go_wp2
            go_step3
            exact ⟨rfl, 1, _, _, _, _, _, _, _, _, _, _, _, _, _, _, _, _, _, _, _, _, _, _, _, _, _, _, _, _, _, _, _, _, _, _, _, _, _, rfl, by omega, HTT, rfl⟩
        · have hl0 : len = 0 := by omega
          subst hl0
          have hws : ws = [] := List.eq_nil_of_length_eq_zero HC.out
          have hTT := HT.out
          rw [hws, bl] at hTT
          have HTT := Lib.hid hTT
          clear hTT
          go_wp2_with (go_at_call 28; refine (HL.out _).mono ?_; rintro e w' ⟨rfl, rfl⟩)
          go_step3
          go_wp2
          simp only [Exit.jump]
          go_ret3
          exact retT3_of HTT.out.symm (Below.refl _ _)
      · rintro a' w' ⟨k, u2, u3, u4, u5, u6, u9, u10, u11, u12, u13, u14, u15, u16, u17, u18, u19, u20, u21, u22, u23, u24, u25, u26, u27, u28, u29, u30, u31, u32, u33, u34, u35, u36, u37, u38, u39, u40, rfl, hk, hTk, rfl⟩
        by_cases hkl : k < len
        · obtain ⟨b, off, e0, hcell⟩ := hs.at_ k hkl 0
          subst e0
          have hd := drop_consG ws 0 k (by rw [HC.out]; exact hkl)
          have hTT := hTk.out
          rw [hd] at hTT
          clear hd hTk
          generalize ws.getD k 0 = a at *
          have hx := HM.out a
          generalize hX : a &&& M = X at *
          have hXP : X.toNat < P := by rw [hx]; exact Nat.mod_lt _ hP0
          have hI : i64of X = (X.toNat : Int) := by
            unfold i64of; rw [BitVec.toInt_eq_toNat_bmod, Int.bmod_def]; split <;> omega
          have hkl' : (k : Int) < (len : Int) := by omega
          have hk0 : (0 : Int) ≤ (k : Int) := by omega
          have hne : ¬ (k : Int) = (len : Int) := by omega
          by_cases hin : X.toNat < n.toNat
          · rw [bl_hit (by rw [← hx]; exact hin), ← hx] at hTT
            have HTT := Lib.hid hTT
            have hlt : ¬ N.toNat ≤ X.toNat := by omega
            clear hTT hx
            go_wp2
            simp only [Exit.jump]
            go_ret3
            exact retT3_of (by rw [← HTT.out]; rfl) (Below.refl _ _)
          · rw [bl_miss (by rw [← hx]; exact hin)] at hTT
            have HTT := Lib.hid hTT
            have hlt : N.toNat ≤ X.toNat := by omega
            clear hTT hx
            go_wp2
            go_step3
            simp only [Exit.then]
            refine ⟨rfl, ⟨k + 1, _, _, _, _, _, _, _, _, _, _, _, _, _, _, _, _, _, _, _, _, _, _, _, _, _, _, _, _, _, _, _, _, _, _, _, _, _, rfl, by omega, HTT, rfl⟩, ?_⟩
            show len - (intOf (Value.int .i64 ((k : Int) + 1))).toNat < len - (intOf (Value.int .i64 (k : Int))).toNat
            simp [intOf]
            omega
        · have hkk : k = len := by omega
          subst hkk
          have hTT := hTk.out
          rw [List.drop_of_length_le (by rw [HC.out]; exact Nat.le_refl _), bl] at hTT
          have HTT := Lib.hid hTT
          clear hTT hTk
          go_wp2
          simp only [Exit.jump]
          go_ret3
          exact retT3_of HTT.out.symm (Below.refl _ _)
end Go.Proofs.Ytjfakdbgcinpcaa
