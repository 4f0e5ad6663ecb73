/-
  DRAW, THE WALKS: Shuffle, the reference's Shuffle.
-/
import Derived.Test.YtjfakdbgcinpcaaProg
import Derived.Test.YtjfakdbgcinpcaaBase7
import Derived.Test.YtjfakdbgcinpcaaDraw4
import Derived.Test.YtjfakdbgcinpcaaHeld
import Derived.BigQuiet
import Derived.Laws.StructEq
import Derived.StillTailTactics
import Derived.RegionTactic
import Derived.Deep.DeepCutAuto
import Derived.Deep.QuietTactic
import Derived.WalkSpells
import Derived.WalkLawsBesides
namespace Go.Proofs.Ytjfakdbgcinpcaa
open Go.RowKit
set_option linter.unusedVariables false

theorem infoI : (Try.prog.info? 3).map (fun i => (i.zero, i.size, i.bytes)) = some (some (.int .i64 0), 1, 8) := by kernel_rfl
theorem sizeW (w : World) : (sizeOf 23).run Try.prog w = .ok 1 w := by kernel_rfl
theorem bl_props : ∀ (ws : List (BitVec 64)) (p n i : Nat) (x u e : Int), bl p n ws i = (x, u, e) → (e = 0 → 0 ≤ x ∧ x < n ∧ (i : Int) < u ∧ u ≤ i + ws.length) ∧ (e ≠ 0 → x = 0 ∧ u = 0 ∧ e = 4)
  | [], p, n, i, x, u, e, h => by
    rw [bl] at h
    cases h
    exact ⟨fun h => by omega, fun _ => ⟨rfl, rfl, rfl⟩⟩
  | a :: ws, p, n, i, x, u, e, h => by
    rw [bl] at h
    split at h
    · cases h
      exact ⟨fun _ => ⟨by omega, by omega, by omega, by simp only [List.length_cons]; omega⟩, fun h => absurd rfl h⟩
    · obtain ⟨h1, h2⟩ := bl_props ws p n (i + 1) x u e h
      exact ⟨fun he => by have := h1 he; simp only [List.length_cons]; omega, h2⟩
theorem below_props {ws : List (BitVec 64)} {n x u e : Int} (h : below ws n = (x, u, e)) :
    (e = 0 → 0 ≤ x ∧ x < n ∧ 1 ≤ u ∧ u ≤ ws.length ∧ 1 ≤ n ∧ n ≤ 1125899906842624) ∧ (e ≠ 0 → x = 0 ∧ u = 0 ∧ ((e = 1 ∧ (n < 1 ∨ 1125899906842624 < n)) ∨ (e = 4 ∧ 1 ≤ n ∧ n ≤ 1125899906842624))) := by
  unfold below at h
  split at h
  · cases h
    exact ⟨fun h => by omega, fun _ => ⟨rfl, rfl, .inl ⟨rfl, by omega⟩⟩⟩
  · obtain ⟨h1, h2⟩ := bl_props _ _ _ _ _ _ _ h
    exact ⟨fun he => by have := h1 he; omega, fun he => by have := h2 he; exact ⟨this.1, this.2.1, .inr ⟨this.2.2, by omega, by omega⟩⟩⟩
def swp (l : List Int) (i j : Nat) : List Int := (l.set i (l.getD j 0)).set j (l.getD i 0)
theorem swp_length (l : List Int) (i j : Nat) : (swp l i j).length = l.length := by unfold swp; simp
def shuf : Nat → List (BitVec 64) → List Int → List Int × Int
  | 0, _, l => (l, 0)
  | i + 1, ws, l => if (below ws ((i : Int) + 2)).2.2 ≠ 0 then ([], (below ws ((i : Int) + 2)).2.2) else shuf i (ws.drop (below ws ((i : Int) + 2)).2.1.toNat) (swp l (i + 1) (below ws ((i : Int) + 2)).1.toNat)
theorem shuf_err {i : Nat} {ws : List (BitVec 64)} {l : List Int} {x u e : Int} (h : below ws ((i : Int) + 2) = (x, u, e)) (he : e ≠ 0) : shuf (i + 1) ws l = ([], e) := by rw [shuf, h, if_pos he]
theorem shuf_ok {i : Nat} {ws : List (BitVec 64)} {l : List Int} {x u : Int} (h : below ws ((i : Int) + 2) = (x, u, 0)) : shuf (i + 1) ws l = shuf i (ws.drop u.toNat) (swp l (i + 1) x.toNat) := by
  rw [shuf, h, if_neg (fun h : (0 : Int) ≠ 0 => h rfl)]
def iota (n : Nat) : List Int := (List.range n).map fun (i : Nat) => (i : Int)
theorem iota_len (n : Nat) : (iota n).length = n := by unfold iota; simp
theorem iota_get (n j : Nat) (h : j < n) : (iota n).getD j 0 = (j : Int) := by unfold iota; simp [List.getD, h]
theorem iota_of {l : List Int} {n : Nat} (hl : l.length = n) (h : ∀ j, j < n → l.getD j 0 = (j : Int)) : l = iota n := by
  apply List.ext_getElem (by rw [hl, iota_len])
  intro i h1 h2
  have a := h i (by omega)
  have b := iota_get n i (by omega)
  simp only [List.getD, List.getElem?_eq_getElem h1, List.getElem?_eq_getElem h2, Option.getD_some] at a b
  rw [a, b]
def shuffle (ws : List (BitVec 64)) (n : Int) : List Int × Int := if n < 0 ∨ 256 < n then ([], 1) else shuf (n.toNat - 1) ws (iota n.toNat)
/-- A list of numbers, of its own, and an error. -/
def RetLE (r : List Int × Int) (w : World) (e : Ending) (w' : World) : Prop :=
  ∃ v n, e = .returned (.tuple #[v, .int .i64 r.2]) ∧ w'.ownsRow w.heap.size 3 1 v n (cs i64v r.1) ∧ Below w.heap.size w w'
theorem retLE_nil {r : List Int × Int} {w w' : World} {e : Int} (h : r = ([], e)) (hb : Below w.heap.size w w') : RetLE r w (.returned (.tuple #[.slice none 0 0, .int .i64 e])) w' := by
  subst h; exact ⟨_, 0, rfl, World.ownsRow_nil _ _ _ _, hb⟩
theorem below_val {ws : List (BitVec 64)} {n x u e : Int} {ao : Option Addr} {len cap : Nat} {w : World} (hs : Sl w 1 ao len cap (cs u64 ws)) (hlen : len ≤ 1000000000000) (h : Hid (below ws n = (x, u, e))) :
    Calls Try.prog 17 #[.slice ao len cap, .int .i64 n] w (fun q w' => q = .returned (.tuple #[.int .i64 x, .int .i64 u, .int .i64 e]) ∧ Below w.heap.size w w') := (below_any ws n ao len cap w hs hlen).mono fun _ _ h' => by rw [h.out] at h'; exact h'
set_option maxRecDepth 100000 in
set_option maxHeartbeats 2000000 in
theorem shuffle_any (ws : List (BitVec 64)) (n : Int) (ao : Option Addr) (len cap : Nat) (w : World) (hs : Sl w 1 ao len cap (cs u64 ws)) (hlen : len ≤ 1000000000000) :
    Calls Try.prog 18 #[.slice ao len cap, .int .i64 n] w (RetLE (shuffle ws n) w) := by
  obtain ⟨T, hT⟩ : ∃ T, shuffle ws n = T := ⟨_, rfl⟩
  rw [hT]
  unfold shuffle at hT
  by_cases h1 : n < 0
  · rw [if_pos (.inl h1)] at hT
    have HT := Lib.hid hT
    clear hT
    go_enter Try.func18, Try.ntmps18
    go_wp2
    go_ret2
    exact retLE_nil HT.out.symm (Below.refl _ _)
  · by_cases h2 : 256 < n
    · rw [if_pos (.inr h2)] at hT
      have HT := Lib.hid hT
      clear hT
      go_enter Try.func18, Try.ntmps18
      go_wp2
      go_ret2
      exact retLE_nil HT.out.symm (Below.refl _ _)
    · rw [if_neg (fun h => h.elim h1 h2)] at hT
      obtain ⟨m, rfl⟩ := Int.eq_ofNat_of_zero_le (show 0 ≤ n by omega)
      rw [Int.toNat_natCast] at hT
      have HT := Lib.hid hT
      clear hT
      go_enter Try.func18, Try.ntmps18
      go_wp2_with (refine wpList_make_typed i64v 0 _ rfl _ _ 34 rfl 3 (.int .i64 0) 8 Try.underlying34 infoI rfl .i64 .i64 _ _ m rfl rfl rfl rfl (by omega) (by unfold maxLen; omega) ?_)
      intro w1 ho1 hb1
      go_wp2_with fail
      go_loopw [22] (fun i wr => ∃ (k : Nat) (L : List Int), k ≤ m ∧ i = .int .i64 k ∧ L.length = m ∧ Hid (∀ j, j < k → L.getD j 0 = (j : Int)) ∧ wr.ownsRow w.heap.size 3 1 (.slice (some ⟨w.heap.size, 0, none⟩) m m) m (cs i64v L) ∧ Below w.heap.size w wr) (fun i _ => m - (intOf i).toNat)
      case atStart => exact ⟨0, _, by omega, rfl, by simp, fun j hj => absurd hj (by omega), ho1, hb1⟩
      case round =>
        obtain ⟨k, L, hk, rfl, hL, hall, ho, hb⟩ := hrel
        by_cases hkm : k < m
        · obtain ⟨hc, hf, z1, z2⟩ := own_cell ho k hkm 0
          have hkm' : (k : Int) < (m : Int) := by omega
          have hk0 : (0 : Int) ≤ (k : Int) := by omega
          have ho2 := Lib.hid (own_set ho k (k : Int))
          have hall2 : Hid (∀ j, j < k + 1 → (L.set k (k : Int)).getD j 0 = (j : Int)) := fun j hj => by
            by_cases hjk : j = k
            · subst hjk; simp [List.getD, show j < L.length by omega]
            · rw [← hall.out j (by omega)]
              simp only [List.getD]
              rw [List.getElem?_set_ne (fun e => hjk e.symm)]
          clear hall ho
          go_wp2
          go_roundw
          case rel => exact ⟨k + 1, _, by omega, by go_num, by rw [List.length_set]; exact hL, hall2, ho2.out, hb.setCell (p := ⟨w.heap.size, k, none⟩) (Nat.le_refl _) _⟩
          case measure => simp [intOf]; omega
        · have hke : k = m := by omega
          subst hke
          have hLi := iota_of hL hall.out
          subst hLi
          have hwr : IntKind.i64.wrap ((k : Int) - 1) = (k : Int) - 1 := by rw [IntKind.wrap_i64]; omega
          clear hall
          go_wp2_with fail
          go_loopw [0, 8] (fun s i wr => ∃ (I : Int) (a : Option Addr) (l c : Nat) (us : List (BitVec 64)) (L : List Int), i = .int .i64 I ∧ -1 ≤ I ∧ I < k ∧ s = .slice a l c ∧ l ≤ 1000000000000 ∧ Hid (Sl w 1 a l c (cs u64 us)) ∧ L.length = k ∧ Hid (shuf I.toNat us L = T) ∧ wr.ownsRow w.heap.size 3 1 (.slice (some ⟨w.heap.size, 0, none⟩) k k) k (cs i64v L) ∧ Below w.heap.size w wr) (fun _ i _ => (intOf i + 1).toNat)
          case atStart => exact ⟨(k : Int) - 1, ao, len, cap, ws, iota k, rfl, by omega, by omega, rfl, hlen, hs, iota_len k, by show _ = _; rw [show ((k : Int) - 1).toNat = k - 1 from by omega]; exact HT.out, ho, hb⟩
          case round =>
            obtain ⟨I, a, l, c, us, L, rfl, hI0, hI1, rfl, hl, hus, hL, hsh, ho, hb⟩ := hrel
            by_cases hI : 1 ≤ I
            · obtain ⟨i, rfl⟩ : ∃ i : Nat, I = (i : Int) + 1 := ⟨(I - 1).toNat, by omega⟩
              have hss := hsh.out
              rw [show ((i : Int) + 1).toNat = i + 1 from by omega] at hss
              obtain ⟨⟨x, u, e⟩, hbel⟩ : ∃ r, below us ((i : Int) + 2) = r := ⟨_, rfl⟩
              obtain ⟨q1, q2⟩ := below_props hbel
              have hcu := hus.out.count
              have hw2 : IntKind.i64.wrap ((i : Int) + 1 + 1) = (i : Int) + 2 := by rw [IntKind.wrap_i64]; omega
              by_cases he : e = 0
              · subst he
                rw [shuf_ok hbel] at hss
                obtain ⟨x0, x1, u0, u1, _, _⟩ := q1 rfl
                obtain ⟨x, rfl⟩ := Int.eq_ofNat_of_zero_le x0
                obtain ⟨u, rfl⟩ := Int.eq_ofNat_of_zero_le (show 0 ≤ u by omega)
                rw [Int.toNat_natCast, Int.toNat_natCast] at hss
                obtain ⟨a', hrun, hs'⟩ := slice_from (P := Try.prog) 43 23 Try.underlying43 sizeW hus.out u (by omega)
                have HBEL := Lib.hid hbel
                have HSS := Lib.hid hss
                have HS' := Lib.hid hs'
                clear hbel hss hs' hsh q1 q2
                go_wp2_with fail
                refine (below_val (hus.out.ext hb) hl HBEL).mono ?_
                rintro e w2 ⟨rfl, hb2⟩
                have ho2 := ownsRow_ext ho hb2
                have hb02 := below_step hb hb2
                obtain ⟨c1, f1, z1, z2⟩ := own_cell ho2 (i + 1) (by omega) 0
                obtain ⟨c2, f2, _, _⟩ := own_cell ho2 x (by omega) 0
                have ho3 := own_set ho2 (i + 1) (L.getD x 0)
                have ho4 := own_set ho3 x (L.getD (i + 1) 0)
                obtain ⟨c3, f3, _, _⟩ := own_cell ho3 x (by omega) 0
                have HO4 : Hid (((w2.setCell ⟨w.heap.size, i + 1, none⟩ (i64v (L.getD x 0))).setCell ⟨w.heap.size, x, none⟩ (i64v (L.getD (i + 1) 0))).ownsRow w.heap.size 3 1 (.slice (some ⟨w.heap.size, 0, none⟩) k k) k (cs i64v (swp L (i + 1) x))) := ho4
                have hLs := swp_length L (i + 1) x
                rw [hL] at hLs
                have c1' : w2.cell? ⟨w.heap.size, i + 1, none⟩ = some (.int .i64 (L.getD (i + 1) 0)) := c1
                have c2' : w2.cell? ⟨w.heap.size, x, none⟩ = some (.int .i64 (L.getD x 0)) := c2
                have i0 : (0 : Int) ≤ (i : Int) + 1 := by omega
                have i1 : (i : Int) + 1 < (k : Int) := by omega
                have i2 : (x : Int) < (k : Int) := by omega
                have c3' : (w2.setCell ⟨w.heap.size, i + 1, none⟩ (.int .i64 (L.getD x 0))).cell? ⟨w.heap.size, x, none⟩ = some (.int .i64 ((L.set (i + 1) (L.getD x 0)).getD x 0)) := c3
                have f3' : (w2.setCell ⟨w.heap.size, i + 1, none⟩ (.int .i64 (L.getD x 0))).frozen? ⟨w.heap.size, x, none⟩ = false := f3
                have HO4' : Hid (((w2.setCell ⟨w.heap.size, i + 1, none⟩ (.int .i64 (L.getD x 0))).setCell ⟨w.heap.size, x, none⟩ (.int .i64 (L.getD (i + 1) 0))).ownsRow w.heap.size 3 1 (.slice (some ⟨w.heap.size, 0, none⟩) k k) k (cs i64v (swp L (i + 1) x))) := HO4.out
                have hb04 := Lib.hid ((hb02.setCell (p := ⟨w.heap.size, i + 1, none⟩) (Nat.le_refl _) (.int .i64 (L.getD x 0))).setCell (p := ⟨w.heap.size, x, none⟩) (Nat.le_refl _) (.int .i64 (L.getD (i + 1) 0)))
                clear c1 c2 c3 f3 ho ho2 ho3 ho4 HO4
                generalize swp L (i + 1) x = L2 at *
                generalize (L.set (i + 1) (L.getD x 0)).getD x 0 = y3 at *
                generalize L.getD x 0 = y2 at *
                generalize L.getD (i + 1) 0 = y1 at *
                have hwd : IntKind.i64.wrap ((i : Int) + 1 - 1) = (i : Int) := by rw [IntKind.wrap_i64]; omega
                go_wp2_with fail
                go_region_with (fail)
                all_goals
                  go_wp2_with fail
                  go_roundw
                  case rel => exact ⟨(i : Int), a', l - u, c - u, us.drop u, L2, by go_num, by omega, by omega, rfl, by omega, HS'.out, hLs, by show _ = _; rw [Int.toNat_natCast]; exact HSS.out, HO4'.out, by first | exact hb04.out | exact below_drew hb04.out | exact below_drewN hb04.out _ | exact ⟨hb04.out.os, hb04.out.tape, hb04.out.output, hb04.out.size, hb04.out.block⟩⟩
                  case measure => simp [intOf]; omega
              · rw [shuf_err hbel he] at hss
                have HBEL := Lib.hid hbel
                have HSS := Lib.hid hss
                clear hbel hss hsh q1 q2
                go_wp2_with fail
                refine (below_val (hus.out.ext hb) hl HBEL).mono ?_
                rintro e w2 ⟨rfl, hb2⟩
                go_wp2
                go_ret2
                exact retLE_nil HSS.out.symm (below_step hb hb2)
            · have hI' : ¬ (1 : Int) ≤ I := hI
              have hss := hsh.out
              rw [show I.toNat = 0 from by omega, shuf] at hss
              have HSS := Lib.hid hss
              clear hss hsh
              go_wp2
              go_ret2
              exact ⟨_, k, by rw [← HSS.out]; rfl, by rw [← HSS.out]; exact ho, hb⟩
end Go.Proofs.Ytjfakdbgcinpcaa
