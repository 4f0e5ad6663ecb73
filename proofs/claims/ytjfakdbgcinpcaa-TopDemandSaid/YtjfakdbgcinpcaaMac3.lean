/-
  MAC, THE WALKS: Sum.
-/
import Derived.Test.YtjfakdbgcinpcaaProg
import Derived.Test.YtjfakdbgcinpcaaBase7
import Derived.Test.YtjfakdbgcinpcaaMac1
import Derived.Test.YtjfakdbgcinpcaaMac2
import Derived.Test.YtjfakdbgcinpcaaWire2
import Derived.BigQuiet
import Derived.StillTailTactics
import Derived.RegionTactic
import Derived.Deep.DeepCutAuto
import Derived.Deep.QuietTactic
import Derived.WalkSpells
import Derived.WalkLawsBesides
namespace Go.Proofs.Ytjfakdbgcinpcaa
open Go.RowKit
set_option linter.unusedVariables false




theorem st_new2 (w : World) (o : Obj) (u : V4) (E : TypeId) : St ((w.alloc o).alloc (.cells #[u64 u.1, u64 u.2.1, u64 u.2.2.1, u64 u.2.2.2] E)) (w.heap.size + 1) u := by
  have h := heap_alloc_new (w.alloc o) (.cells #[u64 u.1, u64 u.2.1, u64 u.2.2.1, u64 u.2.2.2] E)
  rw [show (w.alloc o).heap.size = w.heap.size + 1 from by simp] at h
  exact ⟨E, h⟩
def lenV : Value → Nat
  | .slice _ n _ => n
  | _ => 0
def sipN : Nat → V4 → V4
  | 0, v => v
  | n + 1, v => sip (sipN n v)

set_option maxRecDepth 100000 in
set_option maxHeartbeats 4000000 in
theorem sum_any (ka kb : BitVec 64) (bs : List UInt8) (ao : Option Addr) (len cap : Nat) (w : World) (hs : Sl w 1 ao len cap (cs b8 bs)) (hlen : len ≤ 1000000000) :
    Calls Try.prog 29 #[.agg #[u64 ka, u64 kb], .slice ao len cap] w (RetB (u64 (sipSum ka kb bs)) w) := by
  have hcount := hs.count
  have hres : sipSum ka kb bs = out4 (sipN 4 ((takeS (absorb bs.length (start ka kb) bs).1 (last bs (absorb bs.length (start ka kb) bs).2)).1, (takeS (absorb bs.length (start ka kb) bs).1 (last bs (absorb bs.length (start ka kb) bs).2)).2.1, (takeS (absorb bs.length (start ka kb) bs).1 (last bs (absorb bs.length (start ka kb) bs).2)).2.2.1 ^^^ 255#64, (takeS (absorb bs.length (start ka kb) bs).1 (last bs (absorb bs.length (start ka kb) bs).2)).2.2.2)) := rfl
  have HRES := Lib.hid hres
  have HC := Lib.hid hcount
  clear hcount hres
  obtain ⟨S, hS⟩ : ∃ S, S = sipSum ka kb bs := ⟨_, rfl⟩
  rw [← hS]
  have HS := Lib.hid hS
  clear hS
  go_enter Try.func29, Try.ntmps29
  go_wp2_with fail
  go_loopw [1] (fun v wr => ∃ (n rc f : Nat) (ra : Option Addr) (u : V4) (rest : List UInt8), v = .slice ra n rc ∧ n ≤ len ∧ Sl w 1 ra n rc (cs b8 rest) ∧ St wr (w.heap.size + 1) u ∧ Below w.heap.size w wr ∧ w.heap.size + 2 ≤ wr.heap.size ∧ Hid (n ≤ f ∧ absorb f u rest = absorb bs.length (start ka kb) bs))
    (fun v _ => lenV v)
  case atStart =>
    refine ⟨len, cap, len, ao, start ka kb, bs, rfl, Nat.le_refl _, hs, ?_, ?_, ?_, ?_⟩
    · exact st_new2 w _ (start ka kb) _
    · exact below_step (below_alloc _ _) (below_alloc _ _)
    · simp
    · show _ ∧ _; rw [HC.out]; exact ⟨Nat.le_refl _, rfl⟩
  case round =>
    obtain ⟨n, rc, f, ra, u, rest, rfl, hn, hsr, hst, hb, hz, hid⟩ := hrel
    have hcr := hsr.count
    by_cases h8 : 8 ≤ n
    · obtain ⟨a8, hrun8, hs8⟩ := slice_to (P := Try.prog) 68 5 Try.underlying68 Try.sizeU8 hsr 8 (by omega)
      obtain ⟨b8', hrun9, hs9⟩ := slice_from (P := Try.prog) 68 5 Try.underlying68 Try.sizeU8 hsr 8 (by omega)
      have e8 : ((8 : Nat) : Int) = 8 := rfl
      simp only [e8] at hrun8 hrun9
      clear e8
      obtain ⟨hnf, habs⟩ := hid.out
      have hab : ∃ f', n - 8 ≤ f' ∧ absorb f' (takeS u (le 0 0 (rest.take 8))) (rest.drop 8) = absorb bs.length (start ka kb) bs := by
        refine ⟨f - 1, by omega, ?_⟩
        rw [← habs, ← absorb_go (f - 1) u rest (by omega), show f - 1 + 1 = f from by omega]
      have HAB := Lib.hid hab
      clear hab hnf habs hid
      go_wp2_with fail
      refine (word_any (rest.take 8) a8 8 rc wr (hs8.ext hb) (by omega)).mono ?_
      rintro e w1 ⟨rfl, rfl⟩
      generalize le 0 0 (rest.take 8) = m at *
      go_wp2_with fail
      refine (take_any (w.heap.size + 1) u m wr hst).mono ?_
      rintro e w2 ⟨rfl, hst2, o2⟩
      go_wp2_with fail
      go_roundw
      case rel =>
        obtain ⟨f', h1, h2⟩ := HAB.out
        exact ⟨n - 8, rc - 8, f', b8', takeS u m, rest.drop 8, rfl, by omega, hs9, hst2, o2.below hb (by omega) (by omega), Nat.le_trans hz o2.size, ⟨h1, h2⟩⟩
      case measure => simp [lenV]; omega
    · obtain ⟨hnf, habs⟩ := hid.out
      rw [absorb_stop _ _ _ (by omega)] at habs
      rw [← habs] at HRES
      have HL : last bs rest = le 0 0 rest ||| BitVec.ofNat 64 len <<< 56 := by unfold last; rw [HC.out]; simp
      simp only at HRES
      rw [HL] at HRES
      clear habs hid HL
      go_wp2_with fail
      refine (word_any rest ra n rc wr (hsr.ext hb) (by omega)).mono ?_
      rintro e w1 ⟨rfl, rfl⟩
      generalize le 0 0 rest = m at *
      go_wp2_with fail
      refine (take_any (w.heap.size + 1) u _ wr hst).mono ?_
      rintro e w2 ⟨rfl, hst2, o2⟩
      have hb2 := o2.below hb (by omega) (by omega)
      have hz2 := Nat.le_trans hz o2.size
      clear hst hb hz o2
      generalize takeS u (m ||| BitVec.ofNat 64 len <<< 56) = v at *
      obtain ⟨a, b, c, d⟩ := v
      simp only at HRES
      obtain ⟨k0, k1, k2, k3, f0, f1, f2, f3⟩ := hst2.cells
      go_wp2_with fail
      go_loopw [42] (fun i wr => ∃ k : Nat, k ≤ 4 ∧ i = .int .i64 k ∧ St wr (w.heap.size + 1) (sipN k (a, b, c ^^^ 255#64, d)) ∧ Below w.heap.size w wr ∧ w.heap.size + 2 ≤ wr.heap.size) (fun i _ => 4 - (intOf i).toNat)
      case atStart => exact ⟨0, by omega, rfl, hst2.set2 _, hb2.setCell (by simp) _, by simpa using hz2⟩
      case round =>
        obtain ⟨k, hk, rfl, hst, hb, hz⟩ := hrel
        by_cases hk4 : k < 4
        · go_wp2_with fail
          refine (round_v (w.heap.size + 1) _ _ hst).mono ?_
          rintro e w3 ⟨rfl, h3, o3⟩
          go_wp2_with fail
          go_roundw
          case rel => exact ⟨k + 1, by omega, by go_num, h3, o3.below hb (by omega) (by omega), Nat.le_trans hz o3.size⟩
          case measure => simp [intOf]; omega
        · obtain rfl : k = 4 := by omega
          have HRES2 : Hid (S = out4 (sipN 4 (a, b, c ^^^ 255#64, d))) := by show _ = _; rw [HS.out, HRES.out]
          clear HRES HS
          generalize sipN 4 (a, b, c ^^^ 255#64, d) = v at *
          obtain ⟨a', b', c', d'⟩ := v
          obtain ⟨k0, k1, k2, k3, f0, f1, f2, f3⟩ := hst.cells
          go_wp2_with fail
          go_ret
          exact ⟨by rw [HRES2.out]; rfl, hb⟩
end Go.Proofs.Ytjfakdbgcinpcaa
