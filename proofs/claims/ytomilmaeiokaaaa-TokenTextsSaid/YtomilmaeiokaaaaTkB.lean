/-
  TOKENS: a token's text read again gives its bytes (plain numbers, no program). No condition.
-/
import Derived.Test.YtomilmaeiokaaaaTkP
import Derived.Test.YtomilmaeiokaaaaTkV
import Derived.Test.YtomilmaeiokaaaaTkD
import Derived.Test.YtomilmaeiokaaaaTkR
import Derived.Test.YtomilmaeiokaaaaWireP5
import Derived.Test.YtomilmaeiokaaaaTok2
namespace Go.Proofs.Ytomilmaeiokaaaa
open Go.RowKit
set_option linter.unusedVariables false

def n256 (bs : List UInt8) (a : Nat) : Nat := bs.foldl (fun a c => a * 256 + c.toNat) a
def n32 (l : List UInt8) (a : Nat) : Nat := l.foldl (fun a c => a * 32 + idxA c) a
theorem n256_snoc (bs : List UInt8) (c : UInt8) (a : Nat) : n256 (bs ++ [c]) a = n256 bs a * 256 + c.toNat := by unfold n256; rw [List.foldl_append]; rfl
theorem n32_snoc (bs : List UInt8) (c : UInt8) (a : Nat) : n32 (bs ++ [c]) a = n32 bs a * 32 + idxA c := by unfold n32; rw [List.foldl_append]; rfl
theorem idxA_alpha (m : Nat) (h : m < 32) : idxA (alpha m) = m := by
  have hall : ∀ m : Fin 32, idxA (alpha m.val) = m.val := by decide
  exact hall ⟨m, h⟩
theorem dvmd (a q : Nat) : dv a q * 2 ^ q + md a q = a := by
  unfold dv md
  rw [Nat.mul_comm]
  exact Nat.div_add_mod a (2 ^ q)
/-- What the text's machine holds. -/
structure TxI (s : List UInt8 × Nat × Nat) (k N : Nat) : Prop where
  g : GrpI s k
  n : n32 s.1 0 * 2 ^ s.2.2 + s.2.1 = N
  a : ∀ c ∈ s.1, idxA c < 32
structure TxJ (o : List UInt8) (G b k N : Nat) : Prop where
  g : GrpJ o G b k
  n : n32 o 0 * 2 ^ b + G = N
  a : ∀ c ∈ o, idxA c < 32
theorem txj_out {o : List UInt8} {G q k N : Nat} (h : TxJ o G (q + 5) k N) : TxJ (o ++ [alpha (dv G q)]) (md G q) q k N := by
  have hd := alpha_pow h.g.hg
  refine ⟨grp_out h.g, ?_, fun c hc => ?_⟩
  · rw [n32_snoc, idxA_alpha _ hd, ← h.n, Nat.add_mul, Nat.add_assoc, dvmd, Nat.mul_assoc, show 32 * 2 ^ q = 2 ^ (q + 5) from by rw [Nat.pow_add]; omega]
  · rcases List.mem_append.1 hc with hc | hc
    · exact h.a c hc
    · simp at hc; subst hc; rw [idxA_alpha _ hd]; exact hd
theorem txi_step {s : List UInt8 × Nat × Nat} {k N : Nat} (c : UInt8) (h : TxI s k N) : TxI (txtStep s c) (k + 1) (N * 256 + c.toNat) := by
  obtain ⟨o, G, q⟩ := s
  have hq : q < 5 := h.g.hb
  have j0 : TxJ o (G * 256 + c.toNat) (q + 8) (k + 1) (N * 256 + c.toNat) := ⟨grp_in c h.g, by have := h.n; dsimp only at this; rw [← this, Nat.add_mul, Nat.pow_add, ← Nat.mul_assoc]; omega, h.a⟩
  unfold txtStep
  dsimp only
  have j1 := txj_out (q := q + 3) j0
  rw [show q + 8 = (q + 3) + 5 from by omega, grpN_go]
  by_cases h2 : 5 ≤ q + 3
  · obtain ⟨p, hp⟩ : ∃ p, q + 3 = p + 5 := ⟨q - 2, by omega⟩
    rw [hp] at j1 ⊢
    have j2 := txj_out j1
    rw [grpN_go, grpN_stop (by omega)]
    exact ⟨grp_done j2.g (by omega), j2.n, j2.a⟩
  · rw [grpN_stop (by omega)]
    exact ⟨grp_done j1.g (by omega), j1.n, j1.a⟩
theorem txi_fold : ∀ (bs : List UInt8) (s : List UInt8 × Nat × Nat) (k N : Nat), TxI s k N → TxI (bs.foldl txtStep s) (k + bs.length) (n256 bs N)
  | [], s, k, N, h => h
  | c :: bs, s, k, N, h => by
    have := txi_fold bs (txtStep s c) (k + 1) (N * 256 + c.toNat) (txi_step c h)
    rw [show k + (c :: bs).length = k + 1 + bs.length from by simp; omega]
    exact this
theorem txtB_spec (bs : List UInt8) : ∃ p, p < 5 ∧ 5 * (txtB bs).length = 8 * bs.length + p ∧ n32 (txtB bs) 0 = n256 bs 0 * 2 ^ p ∧ ∀ c ∈ txtB bs, idxA c < 32 := by
  have h := txi_fold bs ([], 0, 0) 0 0 ⟨grp_zero, by simp [n32], fun c hc => by simp at hc⟩
  rw [show bs.foldl txtStep ([], 0, 0) = txtS bs from rfl, Nat.zero_add] at h
  unfold txtB
  generalize txtS bs = S at h ⊢
  obtain ⟨o, G, q⟩ := S
  have hb := h.g.hb; have hg := h.g.hg; have hn := h.g.hn; have hN := h.n; have ha := h.a
  dsimp only at hb hg hn hN ha ⊢
  by_cases hq : 0 < q
  · rw [if_pos hq]
    have hs : sl2 G (5 - q) < 32 := sl_pow hg (by omega)
    refine ⟨5 - q, by omega, by rw [List.length_append]; simp; omega, ?_, fun c hc => ?_⟩
    · rw [n32_snoc, idxA_alpha _ hs, ← hN, Nat.add_mul, Nat.mul_assoc, ← Nat.pow_add, show q + (5 - q) = 5 from by omega]
      rfl
    · rcases List.mem_append.1 hc with hc | hc
      · exact ha c hc
      · simp at hc; subst hc; rw [idxA_alpha _ hs]; exact hs
  · rw [if_neg hq]
    obtain rfl : q = 0 := by omega
    refine ⟨0, by omega, by omega, ?_, ha⟩
    have : G = 0 := by simpa using hg
    subst this
    rw [← hN]; simp
/-- What the reader of groups holds. -/
structure DeI (s : List UInt8 × Nat × Nat) (k M : Nat) : Prop where
  g : DecI s k
  n : n256 s.1 0 * 2 ^ s.2.2 + s.2.1 = M
theorem dei_step {s : List UInt8 × Nat × Nat} {k M v : Nat} (hv : v < 32) (h : DeI s k M) : DeI (decStep s v) (k + 1) (M * 32 + v) := by
  obtain ⟨o, G, q⟩ := s
  have hn := h.n
  dsimp only at hn
  by_cases hq : 8 ≤ q + 5
  · obtain ⟨p, hp⟩ : ∃ p, q + 5 = p + 8 := ⟨q - 3, by omega⟩
    obtain ⟨e, hd, hp4, hx⟩ := dec_hi (v := v) h.g hv hp
    rw [e]
    refine ⟨hd, ?_⟩
    dsimp only
    have hlt : G * 32 + v < 2 ^ (p + 8) := by
      have := h.g.hg
      dsimp only at this
      rw [← hp, Nat.pow_add]
      omega
    have hb : dv (G * 32 + v) p < 256 := dv_lt (r := 8) hlt
    have hbt : (byteI (dv (G * 32 + v) p)).toNat = dv (G * 32 + v) p := by
      unfold byteI
      rw [show (((dv (G * 32 + v) p : Nat) : Int) % 256).toNat = dv (G * 32 + v) p from by omega]
      exact Nat.mod_eq_of_lt hb
    rw [n256_snoc, hbt, Nat.add_mul, Nat.add_assoc, dvmd, Nat.mul_assoc, show 256 * 2 ^ p = 2 ^ (q + 5) from by rw [hp, Nat.pow_add]; omega, ← hn, Nat.pow_add, Nat.add_mul, ← Nat.mul_assoc]
    omega
  · obtain ⟨e, hd⟩ := dec_lo (v := v) h.g hv hq
    rw [e]
    refine ⟨hd, ?_⟩
    dsimp only
    rw [← hn, Nat.pow_add, Nat.add_mul, ← Nat.mul_assoc]
    omega
theorem dei_fold : ∀ (l : List UInt8) (s : List UInt8 × Nat × Nat) (k M : Nat), (∀ c ∈ l, idxA c < 32) → DeI s k M → DeI (l.foldl (fun s c => decStep s (idxA c)) s) (k + l.length) (n32 l M)
  | [], s, k, M, _, h => h
  | c :: l, s, k, M, ha, h => by
    have := dei_fold l (decStep s (idxA c)) (k + 1) (M * 32 + idxA c) (fun x hx => ha x (by simp [hx])) (dei_step (ha c (by simp)) h)
    rw [show k + (c :: l).length = k + 1 + l.length from by simp; omega]
    exact this
theorem decB_spec (l : List UInt8) (ha : ∀ c ∈ l, idxA c < 32) : ∃ r H, r < 8 ∧ H < 2 ^ r ∧ 8 * (decB l).length + r = 5 * l.length ∧ n256 (decB l) 0 * 2 ^ r + H = n32 l 0 := by
  have h := dei_fold l ([], 0, 0) 0 0 ha ⟨dec_zero, by simp [n256]⟩
  rw [Nat.zero_add] at h
  exact ⟨(decS l).2.2, (decS l).2.1, h.g.hb, h.g.hg, by have := h.g.hn; unfold decB; unfold decS; omega, h.n⟩
theorem n256_inj : ∀ (xs bs : List UInt8) (x y : Nat), xs.length = bs.length → n256 xs x = n256 bs y → x = y ∧ xs = bs
  | [], [], x, y, _, h => ⟨h, rfl⟩
  | [], b :: bs, x, y, hl, _ => absurd hl (by simp)
  | a :: xs, [], x, y, hl, _ => absurd hl (by simp)
  | a :: xs, b :: bs, x, y, hl, h => by
    obtain ⟨h1, h2⟩ := n256_inj xs bs (x * 256 + a.toNat) (y * 256 + b.toNat) (by simpa using hl) h
    have ha := a.toNat_lt
    have hb := b.toNat_lt
    obtain ⟨h3, h4⟩ : x = y ∧ a.toNat = b.toNat := by omega
    exact ⟨h3, by rw [h2, UInt8.toNat_inj.1 h4]⟩
theorem decB_txtB (bs : List UInt8) : decB (txtB bs) = bs := by
  obtain ⟨p, hp, hl, hn, ha⟩ := txtB_spec bs
  obtain ⟨r, H, hr, hH, hl2, hn2⟩ := decB_spec (txtB bs) ha
  have hrp : r = p ∧ (decB (txtB bs)).length = bs.length := by omega
  obtain ⟨rfl, hlen⟩ := hrp
  refine (n256_inj _ _ 0 0 hlen ?_).2
  rw [hn] at hn2
  have hpos : 0 < 2 ^ r := Nat.pos_of_ne_zero (by simp)
  have h1 : (n256 (decB (txtB bs)) 0 * 2 ^ r + H) / 2 ^ r = n256 (decB (txtB bs)) 0 := by
    rw [Nat.mul_comm, Nat.mul_add_div hpos, Nat.div_eq_of_lt hH, Nat.add_zero]
  rw [hn2, Nat.mul_div_cancel _ hpos] at h1
  exact h1.symm
theorem txtB_len (bs : List UInt8) (h : bs.length ≤ 68) : (txtB bs).length ≤ 200 := by
  obtain ⟨p, hp, hl, _⟩ := txtB_spec bs
  omega
/-- The numbers are read again. -/
theorem rdS_put (l : List Int) (rest : List UInt8) (hw : I64s l) : ∀ k, k ≤ l.length → rdS (l.flatMap putInt ++ rest) k = some (l.take k, (((l.take k).flatMap putInt).length : Int))
  | 0, _ => by simp [rdS]
  | k + 1, hk => by
    have ih := rdS_put l rest hw k (by omega)
    have hsp : l.flatMap putInt ++ rest = (l.take k).flatMap putInt ++ (putInt (l.getD k 0) ++ ((l.drop (k + 1)).flatMap putInt ++ rest)) := by
      conv => lhs; rw [← List.take_append_drop k l]
      rw [List.flatMap_append, List.append_assoc]
      congr 1
      rw [List.drop_eq_getElem_cons (by omega : k < l.length), List.flatMap_cons, List.append_assoc]
      rw [show l.getD k 0 = l[k] from by rw [List.getD_eq_getElem?_getD, List.getElem?_eq_getElem (by omega)]; rfl]
    have hm : l.getD k 0 ∈ l := by rw [List.getD_eq_getElem?_getD, List.getElem?_eq_getElem (by omega)]; exact List.getElem_mem _
    have hr := intRes_put ((l.take k).flatMap putInt) ((l.drop (k + 1)).flatMap putInt ++ rest) (l.getD k 0) (hw _ hm).1 (hw _ hm).2
    rw [← hsp] at hr
    rw [rdS_some ih hr]
    have ht : l.take (k + 1) = l.take k ++ [l.getD k 0] := by
      rw [List.take_add_one, List.getElem?_eq_getElem (by omega), List.getD_eq_getElem?_getD, List.getElem?_eq_getElem (by omega)]; rfl
    rw [ht]
    simp
theorem tagR_fold : ∀ (l : List UInt8) (t : BitVec 64) (x : Nat), t.toNat = x % 18446744073709551616 → (l.foldl (fun (t : BitVec 64) (c : UInt8) => (t <<< (8 : Int).toNat) ||| c.toBitVec.setWidth 64) t).toNat = n256 l x % 18446744073709551616
  | [], t, x, h => h
  | c :: l, t, x, h => by
    refine tagR_fold l _ (x * 256 + c.toNat) ?_
    have hc := c.toNat_lt
    have hor : (t <<< (8 : Int).toNat) ||| c.toBitVec.setWidth 64 = (t <<< (8 : Int).toNat) + c.toBitVec.setWidth 64 := by
      refine (BitVec.add_eq_or_of_and_eq_zero _ _ ?_).symm
      refine BitVec.eq_of_getLsbD_eq fun i hi => ?_
      rw [BitVec.getLsbD_and, BitVec.getLsbD_shiftLeft, BitVec.getLsbD_setWidth]
      by_cases h8 : i < 8
      · simp [h8]
      · rw [BitVec.getLsbD_of_ge c.toBitVec i (by omega)]; simp
    show ((t <<< (8 : Int).toNat) ||| c.toBitVec.setWidth 64).toNat = _
    rw [hor, BitVec.toNat_add, BitVec.toNat_shiftLeft, BitVec.toNat_setWidth, h, show (8 : Int).toNat = 8 from rfl, Nat.shiftLeft_eq]
    rw [show c.toBitVec.toNat = c.toNat from rfl]
    omega
theorem tagR_nat (l : List UInt8) : (tagR l).toNat = n256 l 0 % 18446744073709551616 := tagR_fold l 0 0 rfl
theorem tagF_nat (g : BitVec 64) (k : Nat) : (tagF g k).toNat = g.toNat / 2 ^ (8 * (7 - k)) % 256 := by
  unfold tagF
  rw [BitVec.toNat_ushiftRight, Nat.shiftRight_eq_div_pow]
  exact UInt8.toNat_ofNat'
theorem tag_nat (g : BitVec 64) : n256 (tagB g) 0 = g.toNat := by
  have hg := g.isLt
  rw [show tagB g = [tagF g 0, tagF g 1, tagF g 2, tagF g 3, tagF g 4, tagF g 5, tagF g 6, tagF g 7] from rfl]
  unfold n256
  simp only [List.foldl_cons, List.foldl_nil, tagF_nat]
  omega
theorem tagR_tagB (g : BitVec 64) : tagR (tagB g) = g := by
  refine BitVec.eq_of_toNat_eq ?_
  rw [tagR_nat, tag_nat]
  have := g.isLt
  omega
theorem encB_read (b r d f t n : Int) (g : BitVec 64) (hok : ¬ Tok.bad ⟨b, r, d, f, t, n⟩) : ∃ at_ : Nat, rdS (encB b r d f t n g) 6 = some ([b, r, d, f, t, n], (at_ : Int)) ∧ (encB b r d f t n g).length = at_ + 8 ∧ tagR ((encB b r d f t n g).drop at_) = g := by
  have h := rdS_put [b, r, d, f, t, n] (tagB g) (six_small hok) 6 (by simp)
  refine ⟨([b, r, d, f, t, n].flatMap putInt).length, ?_, ?_, ?_⟩
  · exact h
  · unfold encB; rw [List.length_append]; simp [tagB]
  · unfold encB; rw [List.drop_left, tagR_tagB]
end Go.Proofs.Ytomilmaeiokaaaa
