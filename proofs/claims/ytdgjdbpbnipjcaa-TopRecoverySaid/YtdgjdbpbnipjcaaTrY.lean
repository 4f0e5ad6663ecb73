/-
  CUSTODY: what always holds (plain); check and do, whatever the kind.
-/
import Derived.Test.YtdgjdbpbnipjcaaTrI
import Derived.Test.YtdgjdbpbnipjcaaTrWa
import Derived.Test.YtdgjdbpbnipjcaaTrWb
import Derived.Test.YtdgjdbpbnipjcaaTrWc
import Derived.Test.YtdgjdbpbnipjcaaTrZ
import Derived.Test.YtdgjdbpbnipjcaaTrZb
import Derived.Test.YtdgjdbpbnipjcaaTrZc
import Derived.Test.YtdgjdbpbnipjcaaTrT
namespace Go.Proofs.Ytdgjdbpbnipjcaa
open Go.RowKit Go.Maps
set_option linter.unusedVariables false

structure InvS (n : Nat) (σ : StL) : Prop where
  len : σ.sp.length = n
  i1 : ∀ b, b < n → (σ.sp.getD b SpL.zero).w = 3 → ∃ t, σ.o (σ.sp.getD b SpL.zero).r = some t ∧ t.b = (b : Int)
  i2 : ∀ k t, σ.o k = some t → ∃ b : Nat, t.b = (b : Int) ∧ b < n
  i3 : ∀ k t, σ.o k = some t → σ.u k = true
  i4 : ∀ b, b < n → InI (σ.sp.getD b SpL.zero).r
theorem inI0 : InI 0 := ⟨by decide, by decide⟩
theorem getD_set (l : List SpL) (i j : Nat) (x : SpL) (hj : j < l.length) : (l.set i x).getD j SpL.zero = if i = j then x else l.getD j SpL.zero := by
  rw [List.getD_eq_getElem?_getD, List.getElem?_set]
  split
  · next h =>
    subst h
    rw [if_pos hj]
    rfl
  · rw [List.getD_eq_getElem?_getD]
theorem inv_begin (n : Nat) : InvS n (beginS n) := by
  have hg : ∀ b, b < n → (beginS n).sp.getD b SpL.zero = spShop := fun b hb => by
    show (List.replicate n spShop).getD b SpL.zero = spShop
    rw [List.getD_eq_getElem?_getD, List.getElem?_replicate, if_pos hb]
    rfl
  refine ⟨by simp [beginS], fun b hb hw => ?_, fun k t e => by simp [beginS] at e, fun k t e => by simp [beginS] at e, fun b hb => ?_⟩
  · rw [hg b hb] at hw; exact absurd hw (by decide)
  · rw [hg b hb]; exact inI0
theorem inv_leave {n : Nat} {σ : StL} (h : InvS n σ) (b : Nat) (hb : b < n) (tv : SpL) (hw : tv.w ≠ 3) (hr : InI tv.r) : InvS n (leaveS σ b tv) := by
  have hg : ∀ j, j < n → (σ.sp.set b tv).getD j SpL.zero = if b = j then tv else σ.sp.getD j SpL.zero := fun j hj => getD_set _ _ _ _ (by rw [h.len]; exact hj)
  unfold leaveS
  split
  · next hs =>
    refine ⟨by simpa using h.len, fun j hj hw' => ?_, fun k t e => ?_, fun k t e => ?_, fun j hj => ?_⟩
    · dsimp only at hw' ⊢
      rw [hg j hj] at hw' ⊢
      split at hw'
      · exact absurd hw' hw
      · next hne =>
        rw [if_neg hne]
        obtain ⟨t, ht, htb⟩ := h.i1 j hj hw'
        refine ⟨t, ?_, htb⟩
        rw [if_neg (fun e => ?_)]
        · exact ht
        · obtain ⟨t', ht', htb'⟩ := h.i1 b hb hs
          rw [e, ht'] at ht
          cases ht
          rw [htb'] at htb
          exact hne (by omega)
    · dsimp only at e
      split at e
      · cases e
      · exact h.i2 k t e
    · dsimp only at e
      split at e
      · cases e
      · exact h.i3 k t e
    · dsimp only
      rw [hg j hj]
      split
      · exact hr
      · exact h.i4 j hj
  · refine ⟨by simpa using h.len, fun j hj hw' => ?_, h.i2, h.i3, fun j hj => ?_⟩
    · dsimp only at hw' ⊢
      rw [hg j hj] at hw' ⊢
      split at hw'
      · exact absurd hw' hw
      · next hne =>
        rw [if_neg hne]
        exact h.i1 j hj hw'
    · dsimp only
      rw [hg j hj]
      split
      · exact hr
      · exact h.i4 j hj
theorem inv_pause {n : Nat} {σ : StL} (h : InvS n σ) (b : Nat) (hb : b < n) (z : Bool) (hs : (σ.sp.getD b SpL.zero).w = 3) : InvS n (pauseS σ b z) := by
  obtain ⟨t, ht, htb⟩ := h.i1 b hb hs
  have hg : ∀ j x, j < n → (σ.sp.set b x).getD j SpL.zero = if b = j then x else σ.sp.getD j SpL.zero := fun j x hj => getD_set _ _ _ _ (by rw [h.len]; exact hj)
  unfold pauseS
  rw [ht]
  refine ⟨by simpa using h.len, fun j hj hw' => ?_, fun k t' e => ?_, fun k t' e => ?_, fun j hj => ?_⟩
  · dsimp only at hw' ⊢
    rw [hg j _ hj] at hw' ⊢
    split at hw'
    · next hbj =>
      rw [if_pos hbj]
      dsimp only
      rw [if_pos rfl]
      exact ⟨_, rfl, by rw [← hbj]; exact htb⟩
    · next hne =>
      rw [if_neg hne]
      obtain ⟨t', ht', htb'⟩ := h.i1 j hj hw'
      rw [if_neg (fun e => ?_)]
      · exact ⟨t', ht', htb'⟩
      · rw [e, ht] at ht'
        cases ht'
        rw [htb] at htb'
        exact hne (by omega)
  · dsimp only at e
    split at e
    · cases e; exact h.i2 _ t ht
    · exact h.i2 k t' e
  · dsimp only at e
    split at e
    · next hk => rw [hk]; exact h.i3 _ t ht
    · exact h.i3 k t' e
  · dsimp only
    rw [hg j _ hj]
    split
    · exact h.i4 b hb
    · exact h.i4 j hj
theorem inv_start {n : Nat} {σ : StL} (h : InvS n σ) (b : Nat) (hb : b < n) (k r : Int) (hk : InI k) (hu : σ.u k = false) :
    InvS n ⟨σ.sp.set b ⟨3, 0, k, false⟩, fun j => if j = k then some ⟨r, (b : Int), false⟩ else σ.o j, fun j => decide (j = k) || σ.u j, k :: σ.ks⟩ := by
  have hg : ∀ j x, j < n → (σ.sp.set b x).getD j SpL.zero = if b = j then x else σ.sp.getD j SpL.zero := fun j x hj => getD_set _ _ _ _ (by rw [h.len]; exact hj)
  have hno : ∀ t, σ.o k ≠ some t := fun t e => by rw [h.i3 k t e] at hu; cases hu
  refine ⟨by simpa using h.len, fun j hj hw' => ?_, fun k' t' e => ?_, fun k' t' e => ?_, fun j hj => ?_⟩
  · dsimp only at hw' ⊢
    rw [hg j _ hj] at hw' ⊢
    split at hw'
    · next hbj =>
      rw [if_pos hbj]
      dsimp only
      rw [if_pos rfl]
      exact ⟨_, rfl, by rw [← hbj]⟩
    · next hne =>
      rw [if_neg hne]
      obtain ⟨t', ht', htb'⟩ := h.i1 j hj hw'
      rw [if_neg (fun e => hno t' (by rw [← e]; exact ht'))]
      exact ⟨t', ht', htb'⟩
  · dsimp only at e
    split at e
    · cases e; exact ⟨b, rfl, hb⟩
    · exact h.i2 k' t' e
  · dsimp only at e ⊢
    split at e
    · next hk' => simp [hk']
    · rw [h.i3 k' t' e, Bool.or_true]
  · dsimp only
    rw [hg j _ hj]
    split
    · exact hk
    · exact h.i4 j hj
theorem inv_swap {n : Nat} {σ : StL} (h : InvS n σ) (b : Nat) (hb : b < n) (k : Int) (hk : InI k) (t : TpL) (ht : σ.o k = some t) (hs : (σ.sp.getD b SpL.zero).w ≠ 3) :
    InvS n ⟨(σ.sp.set t.b.toNat (σ.sp.getD b SpL.zero)).set b ⟨3, 0, k, false⟩, fun j => if j = k then some ⟨t.r, (b : Int), t.z⟩ else σ.o j, σ.u, σ.ks⟩ := by
  obtain ⟨tb, htb, htn⟩ := h.i2 k t ht
  have hg : ∀ j x, j < n → ((σ.sp.set t.b.toNat (σ.sp.getD b SpL.zero)).set b x).getD j SpL.zero = if b = j then x else if tb = j then σ.sp.getD b SpL.zero else σ.sp.getD j SpL.zero := fun j x hj => by
    rw [getD_set _ _ _ _ (by rw [List.length_set, h.len]; exact hj), getD_set _ _ _ _ (by rw [h.len]; exact hj), htb, Int.toNat_natCast]
  refine ⟨by simpa using h.len, fun j hj hw' => ?_, fun k' t' e => ?_, fun k' t' e => ?_, fun j hj => ?_⟩
  · dsimp only at hw' ⊢
    rw [hg j _ hj] at hw' ⊢
    split at hw'
    · next hbj =>
      rw [if_pos hbj]
      dsimp only
      rw [if_pos rfl]
      exact ⟨_, rfl, by rw [← hbj]⟩
    · next hne =>
      rw [if_neg hne]
      split at hw'
      · exact absurd hw' hs
      · next hne2 =>
        rw [if_neg hne2]
        obtain ⟨t', ht', htb'⟩ := h.i1 j hj hw'
        rw [if_neg (fun e => ?_)]
        · exact ⟨t', ht', htb'⟩
        · rw [e, ht] at ht'
          cases ht'
          rw [htb] at htb'
          exact hne2 (by omega)
  · dsimp only at e
    split at e
    · cases e; exact ⟨b, rfl, hb⟩
    · exact h.i2 k' t' e
  · dsimp only at e
    split at e
    · next hk' => rw [hk']; exact h.i3 _ t ht
    · exact h.i3 k' t' e
  · dsimp only
    rw [hg j _ hj]
    split
    · exact hk
    · split
      · exact h.i4 b hb
      · exact h.i4 j hj
/-- What a right event says. -/
theorem checkE_zero {fl : FlL} {x : EvL} {n : Nat} (h : checkE fl x = 0) (hn : fl.b = (n : Int)) : (∃ bn : Nat, x.b = (bn : Int) ∧ bn < n) ∧ (x.k = 7 → ∃ pn : Nat, x.p = (pn : Int) ∧ pn < fl.tn) := by
  unfold checkE at h
  split at h
  · next h0 => exact absurd h h0
  split at h
  · cases h
  split at h
  · cases h
  split at h
  · cases h
  next h4 =>
  split at h
  · cases h
  next h5 =>
  refine ⟨?_, fun h7 => ?_⟩
  · have : inB x.b 0 (fl.b - 1) = true := by
      cases hh : inB x.b 0 (fl.b - 1)
      · rw [hh] at h4; simp at h4
      · rfl
    simp [inB] at this
    exact ⟨x.b.toNat, by omega, by omega⟩
  · have : placedB fl x = true := by
      cases hh : placedB fl x
      · rw [hh] at h5; simp at h5
      · rfl
    unfold placedB at this
    rw [h7] at this
    simp [inB] at this
    exact ⟨x.p.toNat, by omega, by omega⟩
theorem kinds (k : Int) : k = 1 ∨ k = 2 ∨ k = 3 ∨ k = 4 ∨ k = 5 ∨ k = 6 ∨ k = 7 ∨ k = 8 ∨ k = 9 ∨ (k ≠ 1 ∧ k ≠ 2 ∧ k ≠ 3 ∧ k ≠ 4 ∧ k ≠ 5 ∧ k ≠ 6 ∧ k ≠ 7 ∧ k ≠ 8 ∧ k ≠ 9) := by omega
theorem checkS_any {c : CuP} {B : Nat} {fl : FlL} {N : Nat} {w : World} {σ : StL} (h : CuW c B fl N w σ) (hfm : FlM w fl) (hn : c.n ≤ 1000) (x : EvL) (hx : EvR x) (hck : checkE fl x = 0) (hfl : fl.b = (c.n : Int)) :
    Calls Try.prog 30 #[.pointer (some ⟨c.g, 0, none⟩), .agg (evA x)] w (RetB (.int .i64 (checkS fl σ x)) w) := by
  obtain ⟨⟨bn, hb, hbn⟩, h7⟩ := checkE_zero hck hfl
  have he : InI x.e := hx x.e (by simp [evL])
  rcases kinds x.k with hk | hk | hk | hk | hk | hk | hk | hk | hk | hk
  · exact check_k1 h hfm hn x bn hb hbn he hk
  · exact check_k2 h hfm hn x bn hb hbn he hk
  · exact check_k3 h hfm hn x bn hb hbn he hk
  · exact check_k4 h hfm hn x bn hb hbn he hk
  · exact check_k5 h hfm hn x bn hb hbn he hk
  · exact check_k6 h hfm hn x bn hb hbn he hk
  · obtain ⟨pn, hp, hpn⟩ := h7 hk
    exact check_k7 h hfm hn x bn hb hbn he hk pn hp hpn
  · exact check_k8 h hfm hn x bn hb hbn he hk
  · exact check_k9 h hfm hn x bn hb hbn he hk
  · exact check_ko h hfm hn x bn hb hbn he hk
theorem checkS_56 {fl : FlL} {σ : StL} {x : EvL} (hk : x.k = 5 ∨ x.k = 6) (h : checkS fl σ x = 0) : (σ.sp.getD x.b.toNat SpL.zero).w = 3 := by
  unfold checkS at h
  dsimp only at h
  rw [if_neg (by omega), if_neg (by omega), if_neg (by omega), if_neg (by omega), if_pos hk] at h
  split at h
  · cases h
  · next hw => simpa using hw
theorem checkS_4 {fl : FlL} {σ : StL} {x : EvL} (hk : x.k = 4) (h : checkS fl σ x = 0) : ∃ t, σ.o x.e = some t ∧ (σ.sp.getD x.b.toNat SpL.zero).w ≠ 3 := by
  unfold checkS at h
  dsimp only at h
  rw [if_neg (by omega), if_neg (by omega), if_neg (by omega), if_pos hk] at h
  cases ho : σ.o x.e with
  | none => rw [ho] at h; cases h
  | some t =>
    rw [ho] at h
    refine ⟨t, rfl, fun hw => ?_⟩
    dsimp only at h
    rw [if_pos (by unfold parkedB; rw [hw]; rfl)] at h
    cases h
theorem checkS_3 {fl : FlL} {σ : StL} {x : EvL} (hk : x.k = 3) (h : checkS fl σ x = 0) : σ.u x.e = false := by
  unfold checkS at h
  dsimp only at h
  rw [if_neg (by omega), if_neg (by omega), if_pos hk] at h
  split at h
  · cases h
  · split at h
    · cases h
    · next hu => simpa using hu
theorem doS_any {c : CuP} {B : Nat} {fl : FlL} {N : Nat} {w : World} {σ : StL} (h : CuW c B fl N w σ) (hN : N < 100000) (inv : InvS c.n σ) (x : EvL) (hx : EvR x) (hck : checkE fl x = 0) (hcs : checkS fl σ x = 0) (hfl : fl.b = (c.n : Int)) :
    Calls Try.prog 31 #[.pointer (some ⟨c.g, 0, none⟩), .agg (evA x)] w (fun e w' => e = .returned (.tuple #[]) ∧ CuW c B fl (N + 2) w' (doS σ x) ∧ Below B w w') := by
  obtain ⟨⟨bn, hb, hbn⟩, h7⟩ := checkE_zero hck hfl
  have he : InI x.e := hx x.e (by simp [evL])
  have hbt : x.b.toNat = bn := by rw [hb]; rfl
  rcases kinds x.k with hk | hk | hk | hk | hk | hk | hk | hk | hk | hk
  · exact do_k1 h x bn hb hbn hk (fun _ => inv.i4 bn hbn)
  · exact do_k2 h x bn hb hbn hk (fun _ => inv.i4 bn hbn)
  · exact do_k3 h x bn hb hbn hk (by omega) he
  · obtain ⟨t, ho, _⟩ := checkS_4 hk hcs
    obtain ⟨tbn, htb, htn⟩ := inv.i2 _ t ho
    exact do_k4 h x bn hb hbn hk he t ho tbn htb htn
  · have hw := checkS_56 (.inl hk) hcs
    rw [hbt] at hw
    obtain ⟨t, ho, _⟩ := inv.i1 bn hbn hw
    exact do_k5 h x bn hb hbn hk (inv.i4 bn hbn) t ho
  · have hw := checkS_56 (.inr hk) hcs
    rw [hbt] at hw
    obtain ⟨t, ho, _⟩ := inv.i1 bn hbn hw
    exact do_k6 h x bn hb hbn hk (inv.i4 bn hbn) t ho
  · exact do_k7 h x bn hb hbn hk (fun _ => inv.i4 bn hbn)
  · exact do_k8 h x bn hb hbn hk (fun _ => inv.i4 bn hbn)
  · exact do_k9 h x bn hb hbn hk (fun _ => inv.i4 bn hbn)
  · exact do_ko h x bn hb hbn hk
theorem inv_do {fl : FlL} {n : Nat} {σ : StL} (inv : InvS n σ) (x : EvL) (hx : EvR x) (hck : checkE fl x = 0) (hcs : checkS fl σ x = 0) (hfl : fl.b = (n : Int)) : InvS n (doS σ x) := by
  obtain ⟨⟨bn, hb, hbn⟩, h7⟩ := checkE_zero hck hfl
  have he : InI x.e := hx x.e (by simp [evL])
  have hbt : x.b.toNat = bn := by rw [hb]; rfl
  rcases kinds x.k with hk | hk | hk | hk | hk | hk | hk | hk | hk | hk
  · unfold doS; rw [hk, hbt]; exact inv_leave inv bn hbn _ (by dsimp only; omega) inI0
  · unfold doS; rw [hk, hbt]; exact inv_leave inv bn hbn _ (by dsimp only; omega) inI0
  · have hu := checkS_3 hk hcs
    unfold doS; rw [hk, hbt, hb]; exact inv_start inv bn hbn x.e x.r he hu
  · obtain ⟨t, ho, hw⟩ := checkS_4 hk hcs
    rw [hbt] at hw
    unfold doS; rw [hk, hbt, ho, hb]; exact inv_swap inv bn hbn x.e he t ho hw
  · have hw := checkS_56 (.inl hk) hcs
    rw [hbt] at hw
    unfold doS; rw [hk, hbt]; exact inv_pause inv bn hbn _ hw
  · have hw := checkS_56 (.inr hk) hcs
    rw [hbt] at hw
    unfold doS; rw [hk, hbt]; exact inv_pause inv bn hbn _ hw
  · unfold doS; rw [hk, hbt]; exact inv_leave inv bn hbn _ (by dsimp only; omega) inI0
  · unfold doS; rw [hk, hbt]; exact inv_leave inv bn hbn _ (by dsimp only; omega) inI0
  · unfold doS; rw [hk, hbt]; exact inv_leave inv bn hbn _ (by dsimp only; omega) inI0
  · obtain ⟨n1, n2, n3, n4, n5, n6, n7, n8, n9⟩ := hk
    rw [show doS σ x = σ by unfold doS; simp [n1, n2, n3, n4, n5, n6, n7, n8, n9]]
    exact inv
end Go.Proofs.Ytdgjdbpbnipjcaa
