/-
  LINK, THE LAWS: LinkArrives.
-/
import Derived.Test.YtfhcaikfbfoopaaProg
import Derived.Test.YtfhcaikfbfoopaaBase1
import Derived.Test.YtfhcaikfbfoopaaBase2
import Derived.Test.YtfhcaikfbfoopaaBase3
import Derived.Test.YtfhcaikfbfoopaaBase5
import Derived.Test.YtfhcaikfbfoopaaBase6
import Derived.Test.YtfhcaikfbfoopaaHeld
import Derived.Test.YtfhcaikfbfoopaaFlat
import Derived.Test.YtfhcaikfbfoopaaLkP
import Derived.Test.YtfhcaikfbfoopaaLk1
import Derived.Test.YtfhcaikfbfoopaaLk9
import Derived.Test.YtfhcaikfbfoopaaLkT
import Derived.Test.YtfhcaikfbfoopaaLkM
import Derived.Test.YtfhcaikfbfoopaaLkU
import Derived.Test.YtfhcaikfbfoopaaLkW
import Derived.Test.YtfhcaikfbfoopaaLkR
import Derived.Test.YtfhcaikfbfoopaaLkU2
import Derived.Test.YtfhcaikfbfoopaaLkU3
import Derived.Test.YtfhcaikfbfoopaaLkV
import Derived.Test.YtfhcaikfbfoopaaLkS
import Derived.Test.YtfhcaikfbfoopaaLkX
import Derived.Test.YtfhcaikfbfoopaaLkA
import Derived.BigQuiet
import Derived.Laws.StructEq
import Derived.StillTailTactics
import Derived.RegionTactic
import Derived.BigRegion
import Derived.Deep.RegionHeld3
import Derived.Deep.RegionLaw
import Derived.Deep.DeepCutAuto
import Derived.Deep.QuietTactic
import Derived.WalkSpells
import Derived.WalkLawsBesides
namespace Go.Proofs.Ytfhcaikfbfoopaa
open Go.RowKit Go.Maps
set_option linter.unusedVariables false

theorem rot_all (n p j : Nat) (hp : p < n) (hj : j < n) : ∃ i, i < n ∧ (p + n - i) % n = j := by
  by_cases h : j ≤ p
  · exact ⟨p - j, by omega, by rw [show p + n - (p - j) = j + n from by omega, Nat.add_mod_right, Nat.mod_eq_of_lt hj]⟩
  · exact ⟨p + n - j, by omega, by rw [show p + n - (p + n - j) = j from by omega, Nat.mod_eq_of_lt hj]⟩
/-- What the second loop has. -/
def ArrL (w : World) (wb g : Nat) (v : Value) (k : Nat) (xs : List Bv) (r b : Nat) (sv av : Value) (all : List (List UInt8)) (aks : List Int) (fu : Value) (zs : List Bv) (p cnt q : Nat) (W : World) : Prop :=
  ∃ (u : Value) (n : Nat) (D : DataW Value) (ys : List Bv) (f : Kf) (ov : Value) (olds : List FrL), MvW w wb k g v k xs r b u n D ys f sv ov av all olds aks W ∧ MvA all k xs ys f olds aks n (cnt + q) ∧ FrW w.heap.size fu k zs (tF wb ov r b u) W ∧ ∀ i, i < q → Got (ys.map Bv.bs) (absF f) (k + (p + xs.length - i) % xs.length)
theorem arr_got {all : List (List UInt8)} {k n cnt p : Nat} {xs ys : List Bv} {f : Kf} {olds : List FrL} {aks : List Int} (h : MvA all k xs ys f olds aks n cnt) (hp : 0 < xs.length → p < xs.length) (hg : ∀ i, i < xs.length → Got (ys.map Bv.bs) (absF f) (k + (p + xs.length - i) % xs.length)) : ys.map Bv.bs = all := by
  obtain ⟨hs, hk, hy⟩ := mva_sum h
  refine got_all h.inv (fun j hj => ?_)
  by_cases hjk : j < k
  · exact .inl (by rw [List.length_map]; have := h.kle; omega)
  · obtain ⟨i, hi, e⟩ := rot_all xs.length p (j - k) (hp (by omega)) (by omega)
    have := hg i hi
    rw [e, show k + (j - k) = j from by omega] at this
    exact this
section
variable {w W : World} {wb A g k r b n cnt : Nat} {v u sv ov av : Value} {xs ys : List Bv} {D : DataW Value} {f : Kf} {all : List (List UInt8)} {olds : List FrL} {aks : List Int}
theorem tF_lt (h : MvW w wb A g v k xs r b u n D ys f sv ov av all olds aks W) : ∀ j ∈ tF wb ov r b u, j < W.heap.size := fun j hj => by
  rcases List.mem_cons.1 hj with rfl | hj
  · exact (Array.getElem?_eq_some_iff.1 h.blk).1
  rcases List.mem_append.1 hj with hj | hj
  · exact (own_ltF h.od (mem_own.1 hj)).1
  · exact (h.lk.rc.lt j hj).1
theorem arr_start {W' : World} {fu : Value} {zs : List Bv} {p : Nat} (h : Hid (MvW w wb k g v k xs r b u n D ys f sv ov av all olds aks W)) (hA : MvA all k xs ys f olds aks n cnt) (hf : FrsAt W.heap.size W' fu k zs) (hb : Below W.heap.size W W') : Hid (ArrL w wb g v k xs r b sv av all aks fu zs p cnt 0 W') := by
  refine Lib.hid ⟨u, n, D, ys, f, ov, olds, (mvBelow h hb).out, hA, ⟨⟨ownsRow_mono hf.row h.out.lk.lo.size, fun y hy => (hf.bds y hy).lower h.out.lk.lo.size⟩, fun j hj hj' => ?_⟩, fun i hi => absurd hi (by omega)⟩
  exact absurd (tF_lt h.out j hj') (Nat.not_lt.2 (own_ltF hf.row (mem_own.1 hj)).2.1)
theorem ack_all (h : Hid (MvW w wb A g v k xs r b u n D ys f sv ov av all olds aks W)) (hs : k + xs.length = all.length) (h16 : xs.length ≤ 16) (hc : all.length ≤ 10000) :
    Calls Try.prog 23 #[.pointer (some ⟨g, 0, none⟩), .int .i64 (all.length : Int)] W (fun e W' => e = .returned (.int .i64 0) ∧ ∃ v', Hid (MvW w wb A g v' all.length [] r b u n D ys f sv ov av all olds aks W')) := by
  by_cases h0 : xs.length = 0
  · refine (ack_same (lkwS (mvS h)) (all.length : Int) (by omega) (by omega) (by omega)).mono ?_
    rintro e w5 ⟨rfl, hb5⟩
    have := (mvBelow h hb5).out
    rw [List.eq_nil_of_length_eq_zero h0, show k = all.length from by omega] at this
    exact ⟨rfl, v, Lib.hid this⟩
  · refine (lkwAck (mvS h) xs.length (by omega) (Nat.le_refl _) (by omega) (all.length : Int) (by omega)).mono ?_
    rintro e w5 ⟨rfl, v5, HL5, HT5⟩
    have := (mvSnd h HL5 HT5).out
    rw [List.drop_length, hs] at this
    exact ⟨rfl, v5, Lib.hid this⟩
/-- The world at the end: the sender may have turned. -/
def ArrE (w : World) (wb A g r b : Nat) (u : Value) (n : Nat) (D : DataW Value) (ys : List Bv) (f : Kf) (sv ov av : Value) (all : List (List UInt8)) (olds : List FrL) (aks : List Int) (W : World) : Prop :=
  ∃ (v : Value) (k : Nat) (xs : List Bv), k + xs.length = all.length ∧ xs.length ≤ 16 ∧ (∀ x ∈ xs, x.bs.length ≤ 256) ∧ MvW w wb A g v k xs r b u n D ys f sv ov av all olds aks W
def ArrF (w : World) (wb A g r b : Nat) (u : Value) (n : Nat) (D : DataW Value) (ys : List Bv) (f : Kf) (sv ov av : Value) (all : List (List UInt8)) (olds : List FrL) (aks : List Int) (W : World) : Prop :=
  ∃ (v : Value), MvW w wb A g v all.length [] r b u n D ys f sv ov av all olds aks W
theorem arrE_below {W' : World} (h : Hid (ArrE w wb A g r b u n D ys f sv ov av all olds aks W)) (hb : Below W.heap.size W W') : Hid (ArrE w wb A g r b u n D ys f sv ov av all olds aks W') := by
  obtain ⟨v, k, xs, h1, h2, h3, h4⟩ := h.out
  exact Lib.hid ⟨v, k, xs, h1, h2, h3, (mvBelow (Lib.hid h4) hb).out⟩
theorem arrF_E (h : Hid (ArrF w wb A g r b u n D ys f sv ov av all olds aks W)) : Hid (ArrE w wb A g r b u n D ys f sv ov av all olds aks W) := by
  obtain ⟨v, h4⟩ := h.out
  exact Lib.hid ⟨v, all.length, [], by simp, by simp, fun x hx => by simp at hx, h4⟩
theorem arrE_lo (h : Hid (ArrE w wb A g r b u n D ys f sv ov av all olds aks W)) : Below w.heap.size w W := by
  obtain ⟨v, k, xs, h1, h2, h3, h4⟩ := h.out
  exact h4.lk.lo
theorem arrE_S {sa : Option Addr} {m sc : Nat} (h : Hid (ArrE w wb A g r b u n D ys f (.slice sa m sc) ov av all olds aks W)) : W.cell? ⟨wb, 0, none⟩ = some (.pointer (some ⟨g, 0, none⟩)) ∧ W.cell? ⟨wb, 1, none⟩ = some (.pointer (some ⟨r, 0, none⟩)) ∧ W.cell? ⟨wb, 2, none⟩ = some (.slice sa m sc) ∧ Hid (ArrE w wb A g r b u n D ys f (.slice sa m sc) ov av all olds aks W) := by
  obtain ⟨v, k, xs, h1, h2, h3, h4⟩ := h.out
  obtain ⟨c0, c1, c2, c3, c4, c5, fz⟩ := mvCells (Lib.hid h4)
  exact ⟨c0, c1, c2, h⟩
theorem keepZ {sa : Option Addr} {m sc : Nat} {w1 w2 : World} (hb : Below w1.heap.size w1 w2) (h : w1.cell? ⟨wb, 0, none⟩ = some (.pointer (some ⟨g, 0, none⟩)) ∧ w1.cell? ⟨wb, 1, none⟩ = some (.pointer (some ⟨r, 0, none⟩)) ∧ w1.cell? ⟨wb, 2, none⟩ = some (.slice sa m sc) ∧ Hid (ArrE w wb A g r b u n D ys f (.slice sa m sc) ov av all olds aks w1)) : w2.cell? ⟨wb, 0, none⟩ = some (.pointer (some ⟨g, 0, none⟩)) ∧ w2.cell? ⟨wb, 1, none⟩ = some (.pointer (some ⟨r, 0, none⟩)) ∧ w2.cell? ⟨wb, 2, none⟩ = some (.slice sa m sc) ∧ Hid (ArrE w wb A g r b u n D ys f (.slice sa m sc) ov av all olds aks w2) := arrE_S (arrE_below h.2.2.2 hb)
theorem keepZD {sa : Option Addr} {m sc : Nat} {w1 : World} (h : w1.cell? ⟨wb, 0, none⟩ = some (.pointer (some ⟨g, 0, none⟩)) ∧ w1.cell? ⟨wb, 1, none⟩ = some (.pointer (some ⟨r, 0, none⟩)) ∧ w1.cell? ⟨wb, 2, none⟩ = some (.slice sa m sc) ∧ Hid (ArrE w wb A g r b u n D ys f (.slice sa m sc) ov av all olds aks w1)) : w1.drew.cell? ⟨wb, 0, none⟩ = some (.pointer (some ⟨g, 0, none⟩)) ∧ w1.drew.cell? ⟨wb, 1, none⟩ = some (.pointer (some ⟨r, 0, none⟩)) ∧ w1.drew.cell? ⟨wb, 2, none⟩ = some (.slice sa m sc) ∧ Hid (ArrE w wb A g r b u n D ys f (.slice sa m sc) ov av all olds aks w1.drew) := keepZ (below_drew (Below.refl _ _)) h
theorem arr_out (h : Hid (ArrE w wb A g r b u n D ys f sv ov av all olds aks W)) (h16 : ys.length ≤ 1000) (hbl : ∀ x ∈ ys, x.bs.length ≤ 256) : Calls Try.prog 33 #[.pointer (some ⟨r, 0, none⟩)] W (RetOut ys W) := by
  obtain ⟨v, k, xs, h1, h2, h3, h4⟩ := h.out
  exact out_any (lkwR (mvS (Lib.hid h4))) h16 hbl
theorem arr_acked (h : Hid (ArrE w wb A g r b u n D ys f sv ov av all olds aks W)) : Calls Try.prog 31 #[.pointer (some ⟨r, 0, none⟩)] W (fun e W' => e = .returned (.int .i64 (ys.length : Int)) ∧ W' = W) := by
  obtain ⟨v, k, xs, h1, h2, h3, h4⟩ := h.out
  exact acked_any (lkwR (mvS (Lib.hid h4)))
theorem arr_ack (h : Hid (ArrE w wb A g r b u n D ys f sv ov av all olds aks W)) (hc : all.length ≤ 10000) (hn : ys.length = all.length) : Calls Try.prog 23 #[.pointer (some ⟨g, 0, none⟩), .int .i64 (ys.length : Int)] W (fun e W' => e = .returned (.int .i64 0) ∧ Hid (ArrF w wb A g r b u n D ys f sv ov av all olds aks W')) := by
  obtain ⟨v, k, xs, h1, h2, h3, h4⟩ := h.out
  rw [hn]
  refine (ack_all (Lib.hid h4) h1 h2 hc).mono ?_
  rintro e W' ⟨rfl, v', h'⟩
  exact ⟨rfl, Lib.hid ⟨v', h'.out⟩⟩
theorem arr_frames (h : Hid (ArrF w wb A g r b u n D ys f sv ov av all olds aks W)) (hc : all.length ≤ 10000) : Calls Try.prog 26 #[.pointer (some ⟨g, 0, none⟩)] W (fun e W' => (∃ a c, e = .returned (.slice a 0 c)) ∧ Below W.heap.size W W') := by
  obtain ⟨v, h4⟩ := h.out
  refine (frames_any (lkwS (mvS (Lib.hid h4))) (by omega) (by simp) (fun x hx => by simp at hx)).mono ?_
  rintro e W' ⟨a, c, zs, rfl, hz, hf, hb⟩
  exact ⟨⟨a, c, rfl⟩, hb⟩
theorem arr_same {sa oa : Option Addr} {sc oc B : Nat} {zs : List Bv} (h : Hid (ArrE w wb A g r b u n D ys f (.slice sa all.length sc) ov av all olds aks W)) (ho : Hid (OutAt B W (.slice oa ys.length oc) zs)) (hz : zs.map Bv.bs = ys.map Bv.bs) (hall : ys.map Bv.bs = all) (hc : ys.length ≤ 10000) : Calls Try.prog 32 #[.slice oa ys.length oc, .slice sa all.length sc] W (fun e W' => e = .returned (.bool true) ∧ Below W.heap.size W W') := by
  obtain ⟨v, k, xs, h1, h2, h3, h4⟩ := h.out
  have hzl : zs.length = ys.length := by have := congrArg List.length hz; simpa using this
  have hn : all.length = ys.length := by rw [← hall, List.length_map]
  obtain ⟨ta, tc, e, hst⟩ := sl_of_own h4.st
  cases e
  have hos : Sl W 1 oa ys.length oc (cs bsv zs) := by
    obtain ⟨ao, cap, e, hs⟩ := sl_of_own ho.out.row
    rw [hzl] at e hs
    cases e
    exact hs
  rw [hn] at hst ⊢
  have hst2 : Sl W 1 sa ys.length sc (cs stb (zs.map Bv.bs)) := by rw [hz, hall]; exact hst
  exact same_yes W oa sa ys.length oc sc zs (by omega) hzl hos (fun y hy => (ho.out.bds y hy).sl) hst2
end
set_option maxRecDepth 100000 in
set_option maxHeartbeats 8000000 in
theorem linkArrives_walk (a : Option Addr) (len cap : Nat) (l : List MovL) (T : Int) (w : World) (hl : l.length = len) (hs : Sl w 2 a len cap (flatV movA l)) : Calls Try.prog 7 #[.slice a len cap, .int .i64 T] w (RetB (.bool true) w) := by
  by_cases h1 : (120 : Int) < (len : Int)
  · go_enter Try.func7, Try.ntmps7
    go_wp2_with fail
    refine (awake12_any _).mono ?_
    rintro e wz ⟨rfl, hbz⟩
    have HBZ := Lib.hid hbz
    clear hbz
    go_wp2
    go_ret
    exact ⟨rfl, HBZ.out⟩
  · have HS := Lib.hid hs
    have HL := Lib.hid hl
    have hl9 : len ≤ 120 := by omega
    clear hs hl
    go_enter Try.func7, Try.ntmps7
    go_wp2_with fail
    refine (newSender_any _).mono ?_
    rintro e w1 ⟨rfl, hs1, hb1⟩
    go_wp2_with fail
    refine (newReceiver_any _).mono ?_
    rintro e w2 ⟨rfl, hr2, hb2⟩
    have HK := lkwStart hs1 hb1 hr2 hb2
    have HM0 := mvStart HK HK.out.lo.size
    generalize w1.heap.size + 1 = r at *
    generalize w1.heap.size = b at *
    clear hs1 hb1 hr2 hb2 HK
    go_upto_region 5 with (fail)
    go_loopw [6] (fun i wr => ∃ k : Nat, k ≤ len ∧ i = .int .i64 (k : Int) ∧ Hid (MvSt w w2.heap.size w.heap.size r b k wr)) (fun i _ => len - (intOf i).toNat)
    case atStart => exact ⟨0, by omega, rfl, HM0⟩
    case round =>
      obtain ⟨k, hk, rfl, HM⟩ := hrel
      clear HM0
      have hk0 : (0 : Int) ≤ (k : Int) := by omega
      by_cases hkl : k < len
      · have hkl' : (k : Int) < (len : Int) := by omega
        obtain ⟨ob, oo, e, hc⟩ := flat_at MovL.zero movA 2 (by decide) (fun _ => rfl) HS.out HL.out k hkl
        subst e
        generalize l.getD k MovL.zero = o at *
        obtain ⟨K, N⟩ := o
        have p0 : wr.cell? ⟨ob, oo + k * 2, none⟩ = some (.int .i64 K) := cell_keep (mvSt_lo HM) (hc 0 _ rfl)
        have p1 : wr.cell? ⟨ob, oo + k * 2 + 1, none⟩ = some (.int .i64 N) := cell_keep (mvSt_lo HM) (hc 1 _ rfl)
        clear hc
        go_wp2_with fail
        refine (move_any HM (by omega) K N).mono ?_
        rintro e w5 ⟨rfl, HM5⟩
        clear p0 p1 HM
        go_wp2
        go_roundw
        case rel => exact ⟨k + 1, by omega, by go_num, HM5⟩
        case measure => simp [intOf]; omega
      · have hkl' : ¬ (k : Int) < (len : Int) := by omega
        obtain ⟨v, K, xs, u, n, D, ys, f, sv, ov, av, all, olds, aks, hM, hA⟩ := HM.out
        have HMW := Lib.hid hM
        have HA := Lib.hid hA
        obtain ⟨c0, c1, c2, c3, c4, c5, fz⟩ := mvCells HMW
        obtain ⟨hsm, hkl9, hyl⟩ := mva_sum hA
        have hsz := hA.sz
        have h16 := hA.x16
        have HSZ := Lib.hid (And.intro hsm (And.intro hkl9 (And.intro hyl (And.intro hsz (And.intro h16 hk)))))
        have HSM := Lib.hid (mva_small hA)
        clear hM hA hsm hkl9 hyl HM
        go_wp2_with fail
        refine (frames_any (lkwS (mvS HMW)) (by have := HSZ.out; omega) h16 HSM.out.1).mono ?_
        rintro e w3 ⟨fa, fc, zs, rfl, hz, hf, hb3⟩
        obtain ⟨p, hp, hpk⟩ : ∃ p : Nat, (0 < xs.length → p < xs.length) ∧ (0 < xs.length → ∀ W, Calls Try.prog 37 #[.int .i64 T, .int .i64 (xs.length : Int)] W (fun e W' => e = .returned (.int .i64 (p : Int)) ∧ W' = W)) := by
          by_cases hx : 0 < xs.length
          · obtain ⟨p, h1, h2⟩ := pick_fix T xs.length hx (by omega)
            exact ⟨p, fun _ => h1, fun _ => h2⟩
          · exact ⟨0, fun h => absurd h hx, fun h => absurd h hx⟩
        have HL0 := arr_start (p := p) HMW HA.out hf.out hb3
        have HZ : Hid (zs.length = xs.length ∧ zs.map Bv.bs = xs.map Bv.bs) := Lib.hid ⟨by have := congrArg List.length hz; simpa using this, hz⟩
        have HP := Lib.hid (And.intro hp hpk)
        have HXE := Lib.hid HA.out.xe
        clear c0 c1 c2 c3 c4 c5 fz hz hf hb3 hp hpk HMW HA
        go_upto_region 11 with (fail)
        go_loopw [8] (fun i wr => ∃ q : Nat, q ≤ xs.length ∧ i = .int .i64 (q : Int) ∧ Hid (ArrL w w2.heap.size w.heap.size v K xs r b sv av all aks (.slice fa xs.length fc) zs p k q wr)) (fun i _ => xs.length - (intOf i).toNat)
        case atStart => exact ⟨0, by omega, rfl, HL0⟩
        case round =>
          obtain ⟨q, hq, rfl, HQ⟩ := hrel
          clear HL0
          obtain ⟨u2, n2, D2, ys2, f2, ov2, olds2, hM2, hA2, hF2, hG2⟩ := HQ.out
          have HM2 := Lib.hid hM2
          have HA2 := Lib.hid hA2
          have HF2 := Lib.hid hF2
          have HG2 := Lib.hid hG2
          clear hM2 hA2 hF2 hG2 HQ
          have hq0 : (0 : Int) ≤ (q : Int) := by omega
          by_cases hqn : q < xs.length
          · have hqn' : (q : Int) < (xs.length : Int) := by omega
            have hp9 := HP.out.1 (by omega)
            have hn0 : ¬ (xs.length : Int) = 0 := by omega
            obtain ⟨J, hJ⟩ : ∃ J : Nat, (p + xs.length - q) % xs.length = J := ⟨_, rfl⟩
            have hJl : J < xs.length := by rw [← hJ]; exact Nat.mod_lt _ (by omega)
            have hrem : ((p : Int) + (xs.length : Int) - (q : Int)).tmod (xs.length : Int) = (J : Int) := by
              rw [show (p : Int) + (xs.length : Int) - (q : Int) = ((p + xs.length - q : Nat) : Int) from by omega, ← hJ]
              rfl
            obtain ⟨fb, fo, e, hc0, hd0, hbd0⟩ := HF2.out.at_.cells HZ.out.1 J hJl
            subst e
            have hfb := frame_of HZ.out.2 HXE.out hJl
            generalize zs.getD J nilB = z at *
            obtain ⟨za, zc, zb⟩ := z
            dsimp only at hc0 hd0 hbd0 hfb
            have hKl : K + J < all.length := by have := HSZ.out.1; omega
            have hKy : K + J < ys2.length + 16 := by have := HA2.out.kle; have := HSZ.out; omega
            have HWT := Lib.hid (wtake HM2 HA2.out (K + J) hKl ⟨za, zc, zb⟩ hbd0 hfb true (fun _ => hKy) (by have := HSZ.out; omega))
            have HJ := Lib.hid hJ
            have hj0 : (0 : Int) ≤ (J : Int) := by omega
            have hj9 : (J : Int) < (xs.length : Int) := by omega
            generalize ((K + J : Nat) : Int) = jj at *
            clear hbd0 hfb hKl hKy hJ
            go_wp2_with fail
            refine (HP.out.2 (by omega) _).mono ?_
            rintro e w4 ⟨rfl, hw4⟩
            subst w4
            go_wp2_with fail
            refine HWT.out.mono ?_
            rintro e w4 ⟨rfl, u4, n4, D4, ys4, f4, ov4, olds4, HM4, HA4, HG4, HT4⟩
            have HL4 : Hid (ArrL w w2.heap.size w.heap.size v K xs r b sv av all aks (.slice (some ⟨fb, fo, none⟩) xs.length fc) zs p k (q + 1) w4) := Lib.hid ⟨u4, n4, D4, ys4, f4, ov4, olds4, HM4.out, HA4.out, HF2.out.tr HT4.out, fun i hi => by
              rcases Nat.lt_succ_iff_lt_or_eq.1 hi with hi | rfl
              · exact HG4.out.1 _ (HG2.out i hi)
              · rw [HJ.out]; exact HG4.out.2 rfl⟩
            clear hc0 hd0 HG2 HF2 HM2 HA2 HWT HM4 HA4 HG4 HT4 hrem
            go_wp2
            go_roundw
            case rel => exact ⟨q + 1, by omega, by go_num, HL4⟩
            case measure => simp [intOf]; omega
          · have hqn' : ¬ (q : Int) < (xs.length : Int) := by omega
            obtain rfl : q = xs.length := by omega
            have HALL := Lib.hid (arr_got HA2.out HP.out.1 HG2.out)
            have HSM2 := Lib.hid (mva_small HA2.out)
            obtain ⟨c0, c1, c2, c3, c4, c5, fz⟩ := mvCells HM2
            obtain ⟨sa, sc, e, hst⟩ := sl_of_own HM2.out.st
            subst e
            have HE0 : Hid (ArrE w w2.heap.size K w.heap.size r b u2 n2 D2 ys2 f2 (.slice sa all.length sc) ov2 av all olds2 aks wr) := Lib.hid ⟨v, K, xs, HSZ.out.1, HSZ.out.2.2.2.2.1, HSM2.out.1, HM2.out⟩
            have hyn : ys2.length = all.length := by rw [← HALL.out, List.length_map]
            have hal9 : all.length ≤ 1000 := by have := HSZ.out; omega
            have HOUT : Hid (∀ W', Hid (ArrE w w2.heap.size K w.heap.size r b u2 n2 D2 ys2 f2 (.slice sa all.length sc) ov2 av all olds2 aks W') → Calls Try.prog 33 #[.pointer (some ⟨r, 0, none⟩)] W' (RetOut ys2 W')) := Lib.hid (fun W' h => arr_out h (by omega) HSM2.out.2)
            have HACKD : Hid (∀ W', Hid (ArrE w w2.heap.size K w.heap.size r b u2 n2 D2 ys2 f2 (.slice sa all.length sc) ov2 av all olds2 aks W') → Calls Try.prog 31 #[.pointer (some ⟨r, 0, none⟩)] W' (fun e W'' => e = .returned (.int .i64 (ys2.length : Int)) ∧ W'' = W')) := Lib.hid (fun W' h => arr_acked h)
            have HACK : Hid (∀ W', Hid (ArrE w w2.heap.size K w.heap.size r b u2 n2 D2 ys2 f2 (.slice sa all.length sc) ov2 av all olds2 aks W') → Calls Try.prog 23 #[.pointer (some ⟨w.heap.size, 0, none⟩), .int .i64 (ys2.length : Int)] W' (fun e W'' => e = .returned (.int .i64 0) ∧ Hid (ArrF w w2.heap.size K w.heap.size r b u2 n2 D2 ys2 f2 (.slice sa all.length sc) ov2 av all olds2 aks W''))) := Lib.hid (fun W' h => arr_ack h (by omega) hyn)
            have HFRS : Hid (∀ W', Hid (ArrF w w2.heap.size K w.heap.size r b u2 n2 D2 ys2 f2 (.slice sa all.length sc) ov2 av all olds2 aks W') → Calls Try.prog 26 #[.pointer (some ⟨w.heap.size, 0, none⟩)] W' (fun e W'' => (∃ a c, e = .returned (.slice a 0 c)) ∧ Below W'.heap.size W' W'')) := Lib.hid (fun W' h => arr_frames h (by omega))
            have HSAME : Hid (∀ W' B oa oc zs, Hid (ArrE w w2.heap.size K w.heap.size r b u2 n2 D2 ys2 f2 (.slice sa all.length sc) ov2 av all olds2 aks W') → Hid (OutAt B W' (.slice oa ys2.length oc) zs) → zs.map Bv.bs = ys2.map Bv.bs → Calls Try.prog 32 #[.slice oa ys2.length oc, .slice sa all.length sc] W' (fun e W'' => e = .returned (.bool true) ∧ Below W'.heap.size W' W'')) := Lib.hid (fun W' B oa oc zs h1 h2 h3 => arr_same h1 h2 h3 HALL.out (by omega))
            have hS0 := arrE_S HE0
            clear hyn c0 c1 c2 c3 c4 c5 fz hst HM2 HA2 HF2 HG2 HSM2 HZ HP HXE HSM HSZ HS HL
            go_upto_region 15 with (fail)
            go_region_held3 (fun w9 => w9.cell? ⟨w2.heap.size, 0, none⟩ = some (.pointer (some ⟨w.heap.size, 0, none⟩)) ∧ w9.cell? ⟨w2.heap.size, 1, none⟩ = some (.pointer (some ⟨r, 0, none⟩)) ∧ w9.cell? ⟨w2.heap.size, 2, none⟩ = some (.slice sa all.length sc) ∧ Hid (ArrE w w2.heap.size K w.heap.size r b u2 n2 D2 ys2 f2 (.slice sa all.length sc) ov2 av all olds2 aks w9))
              (repeat (with_reducible first | assumption | refine keepZD ?_ | (apply keepZ; focus assumption)))
              (first
                | (go_at_call 33; (with_reducible refine (HOUT.out _ ?_).mono ?_); (focus (first | assumption | exact arrE_below HE0 (below_drew (Below.refl _ _)))); rintro e w5 ⟨oa, oc, zs, rfl, hz5, ho5, hb5⟩; have he5 := arrE_below (arrE_below HE0 (below_drew (Below.refl _ _))) hb5)
                | (go_at_call 32; (with_reducible refine (HSAME.out _ _ _ _ _ ?_ ho5 hz5).mono ?_); (focus assumption); rintro e w6 ⟨rfl, hb6⟩; have he6 := arrE_below he5 hb6)
                | (go_at_call 31; (with_reducible refine (HACKD.out _ ?_).mono ?_); (focus assumption); rintro e w8 ⟨rfl, rfl⟩)
                | (go_at_call 23; (with_reducible refine (HACK.out _ ?_).mono ?_); (focus assumption); rintro e w7 ⟨rfl, hf7⟩; have hs7 := arrE_S (arrF_E hf7))
                | (go_at_call 26; (with_reducible refine (HFRS.out _ ?_).mono ?_); (focus assumption); rintro e w9 ⟨⟨fa9, fc9, rfl⟩, hb9⟩)
                | (go_at_call 19; (with_reducible refine (awake12_any _).mono ?_); rintro e wz ⟨rfl, hbz⟩))
            all_goals
              go_wp2_with fail
              go_ret
              exact ⟨rfl, arrE_lo (by go_split_ands; assumption)⟩
end Go.Proofs.Ytfhcaikfbfoopaa
