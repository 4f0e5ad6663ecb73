/-
  JOURNALS: journal.Write.
-/
import Derived.Test.YtdgjdbpbnipjcaaProg
import Derived.Test.YtdgjdbpbnipjcaaTrD
import Derived.Test.YtdgjdbpbnipjcaaCrcP4
import Derived.Test.YtdgjdbpbnipjcaaFlat
import Derived.Defers
import Derived.BigQuiet
import Derived.Laws.StructEq
import Derived.StillTailTactics
import Derived.RegionTactic
import Derived.Deep.DeepCutAuto
import Derived.Deep.QuietTactic
import Derived.WalkSpells
import Derived.WalkLawsBesides
namespace Go.Proofs.Ytdgjdbpbnipjcaa
open Go.RowKit
set_option linter.unusedVariables false

/-- The deferred function, where there is no error: it changes nothing. -/
theorem wr1_ok {P Q R : Addr} {a : Option Addr} {n c : Nat} {u : FrameMode} (w : World) (hp : w.cell? P = some (.int .i64 0)) (hq : w.cell? Q = some (.slice a n c)) (hn : n ≤ 512) :
    CallsD Try.prog 13 #[.pointer (some P), .pointer (some Q), .pointer (some R)] u w fun e u' w' => u' = u ∧ (e = .returned (.tuple #[]) ∧ w' = w) := by
  have hn' : ¬ (512 : Int) < (n : Int) := by omega
  go_enter_d Try.func13, Try.ntmps13
  go_wp2
  go_end0
  exact ⟨rfl, rfl⟩
/-- The deferred function, where there is an error. -/
theorem wr1_err {P Q R : Addr} {n : Int} {u : FrameMode} {y : Value} (w : World) (hn : ¬ n = 0) (hp : w.cell? P = some (.int .i64 n)) (hr : w.cell? R = some y) (hf : w.frozen? R = false) :
    CallsD Try.prog 13 #[.pointer (some P), .pointer (some Q), .pointer (some R)] u w fun e u' w' => u' = u ∧ (e = .returned (.tuple #[]) ∧ w' = w.setCell R (.slice none 0 0)) := by
  go_enter_d Try.func13, Try.ntmps13
  go_wp2
  go_end0
  exact ⟨rfl, rfl⟩
/-- The journal of events. -/
def jb (l : List EvL) : List UInt8 := l.flatMap recE
theorem jb_snoc (l : List EvL) (x : EvL) : jb (l ++ [x]) = jb l ++ recE x := by unfold jb; simp
theorem jb_take (l : List EvL) (k : Nat) (h : k < l.length) : jb (l.take (k + 1)) = jb (l.take k) ++ recE (l.getD k EvL.zero) := by
  rw [List.take_succ_eq_append_getElem h, jb_snoc]
  simp [List.getD, h]
theorem jb_len (l : List EvL) : (jb l).length ≤ l.length * 104 := by
  induction l with
  | nil => simp [jb]
  | cons x l ih =>
    have h := recE_len x
    have e : jb (x :: l) = recE x ++ jb l := by unfold jb; simp
    rw [e, List.length_append, List.length_cons, Nat.succ_mul]
    omega
/-- What Write answers. -/
def WrRet (l : List EvL) (w : World) (e : Ending) (w' : World) : Prop :=
  if l.all framedB = true then RetOwnE w 5 (jb l).length (cs b8 (jb l)) 0 e w' else RetB (.tuple #[.slice none 0 0, .int .i64 1]) w e w'
theorem blk_set1 {W : World} {k : Nat} {x v : Value} (h : BlkAt W k #[x]) : BlkAt (W.setCell ⟨k, 0, none⟩ v) k #[v] := by simpa using blkU_set (i := 0) (v := v) h
/-- What the loop keeps. -/
structure WrW (w wr : World) (ao : Option Addr) (len cap : Nat) (v : Value) (n : Nat) (xs : List UInt8) : Prop where
  p0 : BlkAt wr w.heap.size #[.slice ao len cap]
  p1 : BlkAt wr (w.heap.size + 1) #[v]
  p2 : BlkAt wr (w.heap.size + 1 + 1) #[.int .i64 0]
  row : wr.ownsRow (w.heap.size + 3) 5 1 v n (cs b8 xs)
  bel : Below w.heap.size w wr
  sz : w.heap.size + 3 ≤ wr.heap.size
theorem WrW.ext {w wr wr' : World} {ao : Option Addr} {len cap : Nat} {v : Value} {n : Nat} {xs : List UInt8} (h : WrW w wr ao len cap v n xs) (hb : Below wr.heap.size wr wr') : WrW w wr' ao len cap v n xs :=
  ⟨blkBelow hb h.p0, blkBelow hb h.p1, blkBelow hb h.p2, ownsRow_ext h.row hb, below_step h.bel hb, Nat.le_trans h.sz hb.size⟩
theorem own_offB {w : World} {B : Nat} {e : TypeId} {s : Nat} {v u : Value} {n : Nat} {xs : List Value} {a : Addr} (h : w.ownsRow B e s v n xs) (ha : a.block < B) : (w.setCell a u).ownsRow B e s v n xs := by
  refine ⟨h.1, ?_⟩
  rcases h.2 with hn | ⟨g, cap, cur, rfl, hB, hg, rest⟩
  · exact .inl hn
  · exact .inr ⟨g, cap, cur, rfl, hB, by rw [Below.heap_setCell w a u g (by omega)]; exact hg, rest⟩
/-- A store of the slice into its variable. -/
theorem WrW.put {w wr : World} {ao : Option Addr} {len cap : Nat} {v v' : Value} {n m : Nat} {xs ys : List UInt8} (h : WrW w wr ao len cap v n xs) (hr : wr.ownsRow (w.heap.size + 3) 5 1 v' m (cs b8 ys)) :
    WrW w (wr.setCell ⟨w.heap.size + 1, 0, none⟩ v') ao len cap v' m ys :=
  ⟨blkU_off h.p0 (by simp), blk_set1 h.p1, blkU_off h.p2 (by simp), own_offB hr (by simp), h.bel.setCell (by simp) _, by simpa using h.sz⟩
theorem WrW.ok {w wr : World} {ao : Option Addr} {len cap : Nat} {v : Value} {n : Nat} {xs : List UInt8} (h : WrW w wr ao len cap v n xs) :
    WrW w (wr.setCell ⟨w.heap.size + 1 + 1, 0, none⟩ (.int .i64 0)) ao len cap v n xs :=
  ⟨blkU_off h.p0 (by simp; omega), blkU_off h.p1 (by simp), blk_set1 h.p2, own_offB h.row (by simp), h.bel.setCell (by simp; omega) _, by simpa using h.sz⟩
theorem WrW.fin {w wr : World} {ao : Option Addr} {len cap : Nat} {v : Value} {n : Nat} {xs : List UInt8} (h : WrW w wr ao len cap v n xs) :
    WrW w ((wr.setCell ⟨w.heap.size + 1, 0, none⟩ v).setCell ⟨w.heap.size + 1 + 1, 0, none⟩ (.int .i64 0)) ao len cap v n xs := (h.put h.row).ok
/-- Behind an append: the slice's variable is set. -/
theorem WrW.app {w wr w5 : World} {ao : Option Addr} {len cap : Nat} {v v' : Value} {n m : Nat} {xs ys : List UInt8} (h : WrW w wr ao len cap v n xs) (hb : Below (w.heap.size + 3) wr w5) (hr : w5.ownsRow (w.heap.size + 3) 5 1 v' m (cs b8 ys)) :
    WrW w (w5.setCell ⟨w.heap.size + 1, 0, none⟩ v') ao len cap v' m ys :=
  ⟨blkU_off (blkU_low hb (by omega) h.p0) (by simp), blk_set1 (blkU_low hb (by omega) h.p1), blkU_off (blkU_low hb (by omega) h.p2) (by simp), own_offB hr (by simp), (h.bel.trans (hb.mono (by omega))).setCell (by simp) _, by have h1 := hb.size; have h2 := h.sz; simp; omega⟩
set_option maxRecDepth 100000 in
set_option maxHeartbeats 4000000 in
theorem write_any (l : List EvL) (ao : Option Addr) (len cap : Nat) (w : World) (hs : Sl w 9 ao len cap (flatV evA l)) (hl : l.length = len) (h40 : len ≤ 40) :
    Calls Try.prog 6 #[.slice ao len cap] w (WrRet l w) := by
  have hmf : ∀ (fn : Fn) (first cap : Array Value) (w : World), (Instr.makeFunc fn first cap).run Try.prog w = .ok (.func fn first cap) w := fun _ _ _ _ => rfl
  have HS := Lib.hid hs
  have HL := Lib.hid hl
  clear hs hl
  go_enter_defers Try.func6, Try.ntmps6
  go_wp2_with fail
  have HW : Hid (WrW w (((w.alloc (.cells #[.slice ao len cap] 25)).alloc (.cells #[.slice none 0 0] 30)).alloc (.cells #[.int .i64 0] 31)) ao len cap (.slice none 0 0) 0 []) := Lib.hid ⟨blkOld (blkOld (blkNew rfl)), blkOld (blkNew (by simp)), blkNew (by simp), World.ownsRow_nil _ _ _ _, below_step (below_step (below_alloc _ _) (below_alloc _ _)) (below_alloc _ _), by simp⟩
  generalize ((w.alloc (.cells #[.slice ao len cap] 25)).alloc (.cells #[.slice none 0 0] 30)).alloc (.cells #[.int .i64 0] 31) = W1 at *
  go_loopw [11] (fun i wr => ∃ (k : Nat) (v : Value) (n : Nat), k ≤ len ∧ i = .int .i64 (k : Int) ∧ Hid (WrW w wr ao len cap v n (jb (l.take k))) ∧ Hid (∀ j, j < k → framedB (l.getD j EvL.zero) = true))
    (fun i _ => len - (intOf i).toNat)
  case atStart => exact ⟨0, _, 0, by omega, rfl, HW, Lib.hid (fun j h => by omega)⟩
  case round =>
    obtain ⟨k, v, n, hk, rfl, HWr, HF⟩ := hrel
    clear HW
    obtain ⟨av, cv, rfl, hsv⟩ := sl_of_own HWr.out.row
    clear hsv
    by_cases hkl : k < len
    · have hkl' : (k : Int) < (len : Int) := by omega
      have hk0 : (0 : Int) ≤ (k : Int) := by omega
      obtain ⟨b1, o1, e1, hc1⟩ := flat_at EvL.zero evA 9 (by decide) (fun _ => rfl) (HS.out.ext HWr.out.bel) HL.out k hkl
      subst e1
      have HJ : Hid (jb (l.take (k + 1)) = jb (l.take k) ++ recE (l.getD k EvL.zero)) := Lib.hid (jb_take l k (by have := HL.out; omega))
      have HFX : Hid (∀ x, l.getD k EvL.zero = x → framedB x = false → ¬ l.all framedB = true) := Lib.hid (fun x hx hf h => by
        have h1 := List.all_eq_true.1 h (l.getD k EvL.zero) (by rw [List.getD_eq_getElem?_getD, List.getElem?_eq_getElem (by have := HL.out; omega)]; exact List.getElem_mem _)
        rw [hx, hf] at h1; cases h1)
      generalize hx : l.getD k EvL.zero = x at *
      have HX := Lib.hid hx
      clear hx
      have HFR := Lib.hid (fun W => framed_any x W)
      have HEN := Lib.hid (fun h W => encode_any x (framed_evR h) W)
      have HSE := Lib.hid (fun a c W h => seal_enc x a c W h)
      obtain ⟨d, s, a, q, kk, b, p, r, e⟩ := x
      dsimp only [evA] at *
      have p0 : wr.cell? ⟨b1, o1 + k * 9, none⟩ = some (.int .i64 d) := hc1 0 _ rfl
      have p1 : wr.cell? ⟨b1, o1 + k * 9 + 1, none⟩ = some (.int .i64 s) := hc1 1 _ rfl
      have p2 : wr.cell? ⟨b1, o1 + k * 9 + 2, none⟩ = some (.int .i64 a) := hc1 2 _ rfl
      have p3 : wr.cell? ⟨b1, o1 + k * 9 + 3, none⟩ = some (.int .i64 q) := hc1 3 _ rfl
      have p4 : wr.cell? ⟨b1, o1 + k * 9 + 4, none⟩ = some (.int .i64 kk) := hc1 4 _ rfl
      have p5 : wr.cell? ⟨b1, o1 + k * 9 + 5, none⟩ = some (.int .i64 b) := hc1 5 _ rfl
      have p6 : wr.cell? ⟨b1, o1 + k * 9 + 6, none⟩ = some (.int .i64 p) := hc1 6 _ rfl
      have p7 : wr.cell? ⟨b1, o1 + k * 9 + 7, none⟩ = some (.int .i64 r) := hc1 7 _ rfl
      have p8 : wr.cell? ⟨b1, o1 + k * 9 + 8, none⟩ = some (.int .i64 e) := hc1 8 _ rfl
      clear hc1
      go_wp2_with fail
      have hb0 : Below wr.heap.size wr (wr.alloc (.cells #[.int .i64 d, .int .i64 s, .int .i64 a, .int .i64 q, .int .i64 kk, .int .i64 b, .int .i64 p, .int .i64 r, .int .i64 e] 27)) := below_alloc _ _
      have hc0 : BlkAt (wr.alloc (.cells #[.int .i64 d, .int .i64 s, .int .i64 a, .int .i64 q, .int .i64 kk, .int .i64 b, .int .i64 p, .int .i64 r, .int .i64 e] 27)) wr.heap.size #[.int .i64 d, .int .i64 s, .int .i64 a, .int .i64 q, .int .i64 kk, .int .i64 b, .int .i64 p, .int .i64 r, .int .i64 e] := blkNew rfl
      refine (HFR.out _).mono ?_
      rintro e' w1 ⟨rfl, hb1⟩
      have HW1 := Lib.hid ((HWr.out.ext hb0).ext hb1)
      have HC1 := Lib.hid (blkBelow hb1 hc0)
      have hn : n ≤ 4160 := by
        have h1 := HWr.out.row.1
        rw [cs_length] at h1
        have h2 := jb_len (l.take k)
        have h3 : (l.take k).length ≤ 40 := by rw [List.length_take]; omega
        omega
      clear hb0 hc0 hb1 p0 p1 p2 p3 p4 p5 p6 p7 p8
      generalize wr.heap.size = g at *
      by_cases hfr : framedB ⟨d, s, a, q, kk, b, p, r, e⟩ = true
      · rw [hfr]
        have hRL := recE_len ⟨d, s, a, q, kk, b, p, r, e⟩
        obtain ⟨c0, c1, c2, c3, c4, c5, c6, c7, c8⟩ := nine_cellsE HC1.out
        go_wp2_with fail
        refine (HEN.out hfr _).mono ?_
        rintro e' w2 ⟨v2, rfl, ho2, hb2⟩
        obtain ⟨a2, n2, rfl, hs2⟩ := sl_of_own ho2
        have HW2 := Lib.hid (HW1.out.ext hb2)
        clear c0 c1 c2 c3 c4 c5 c6 c7 c8 ho2 hb2
        go_wp2_with fail
        refine (HSE.out _ _ _ hs2).mono ?_
        rintro e' w3 ⟨v3, rfl, ho3, hb3⟩
        obtain ⟨a3, n3, rfl, hs3⟩ := sl_of_own ho3
        have HW3 := Lib.hid (HW2.out.ext hb3)
        have HS3 := Lib.hid hs3
        clear ho3 hb3 hs2 hs3
        have HFK : Hid (∀ j, j < k + 1 → framedB (l.getD j EvL.zero) = true) := Lib.hid (fun j hj => by
          by_cases hjk : j = k
          · subst hjk; rw [HX.out]; exact hfr
          · exact HF.out j (by omega))
        generalize recE ⟨d, s, a, q, kk, b, p, r, e⟩ = R at *
        clear HFR HEN HSE hfr HFX
        have c1 : w3.cell? ⟨w.heap.size + 1, 0, none⟩ = some (.slice av n cv) := blkU_cell HW3.out.p1 rfl
        have hz3 := HW3.out.sz
        go_wp2_with (at_builtin; refine wpList_append_many b8 (fun _ => rfl) _ rfl _ _ 30 rfl (w.heap.size + 3) 5 (.int .u8 0) 1 Try.underlying30 Try.infoU8 rfl HW3.out.row rfl HS3.out rfl (by unfold maxLen; omega) (by omega) hz3 ?_)
        intro v5 w5 ho5 hb5
        obtain ⟨a5, n5, rfl, hs5⟩ := sl_of_own ho5
        have HW5 := Lib.hid (HW3.out.app hb5 ho5)
        have hp1 := blkU_low hb5 (show w.heap.size + 1 < w.heap.size + 3 by omega) HW3.out.p1
        have c1' : w5.cell? ⟨w.heap.size + 1, 0, none⟩ = some (.slice av n cv) := blkU_cell hp1 rfl
        have f1' : w5.frozen? ⟨w.heap.size + 1, 0, none⟩ = false := blkU_frozen hp1
        clear c1 ho5 hb5 hs5 hp1
        go_wp2_with fail
        go_roundw
        case rel => exact ⟨k + 1, _, _, by omega, by go_num, Lib.hid (by rw [HJ.out]; exact HW5.out), HFK⟩
        case measure => simp [intOf]; omega
      · have hfr' : framedB ⟨d, s, a, q, kk, b, p, r, e⟩ = false := by revert hfr; cases framedB ⟨d, s, a, q, kk, b, p, r, e⟩ <;> simp
        have HNA := Lib.hid (HFX.out _ rfl hfr')
        rw [hfr']
        clear hfr hfr' HFX HFR HEN HSE
        have c1 : w1.cell? ⟨w.heap.size + 1, 0, none⟩ = some (.slice av n cv) := blkU_cell HW1.out.p1 rfl
        have c2 : w1.cell? ⟨w.heap.size + 1 + 1, 0, none⟩ = some (.int .i64 0) := blkU_cell HW1.out.p2 rfl
        have f1 := blkU_frozen (i := 0) HW1.out.p1
        have f2 := blkU_frozen (i := 0) HW1.out.p2
        have HQ1 : Hid (BlkAt ((w1.setCell ⟨w.heap.size + 1, 0, none⟩ (.slice none 0 0)).setCell ⟨w.heap.size + 1 + 1, 0, none⟩ (.int .i64 1)) (w.heap.size + 1) #[.slice none 0 0]) := Lib.hid (blkU_off (blk_set1 HW1.out.p1) (by simp))
        have HQ2 : Hid (BlkAt ((w1.setCell ⟨w.heap.size + 1, 0, none⟩ (.slice none 0 0)).setCell ⟨w.heap.size + 1 + 1, 0, none⟩ (.int .i64 1)) (w.heap.size + 1 + 1) #[.int .i64 1]) := Lib.hid (blk_set1 (blkU_off HW1.out.p2 (by simp)))
        have HQB : Hid (Below w.heap.size w ((w1.setCell ⟨w.heap.size + 1, 0, none⟩ (.slice none 0 0)).setCell ⟨w.heap.size + 1 + 1, 0, none⟩ (.int .i64 1))) := Lib.hid ((HW1.out.bel.setCell (by simp) _).setCell (by simp; omega) _)
        go_wp2
        generalize (w1.setCell ⟨w.heap.size + 1, 0, none⟩ (.slice none 0 0)).setCell ⟨w.heap.size + 1 + 1, 0, none⟩ (.int .i64 1) = W2 at *
        refine leaves_cons (f := 13) (args := #[.pointer (some ⟨w.heap.size + 1 + 1, 0, none⟩), .pointer (some ⟨w.heap.size, 0, none⟩), .pointer (some ⟨w.heap.size + 1, 0, none⟩)]) (by simp) (by simp [go_sem]) ?_
        clear c1 c2 f1 f2
        have c1 : W2.cell? ⟨w.heap.size + 1, 0, none⟩ = some (.slice none 0 0) := blkU_cell HQ1.out rfl
        have c2 : W2.cell? ⟨w.heap.size + 1 + 1, 0, none⟩ = some (.int .i64 1) := blkU_cell HQ2.out rfl
        have f1 := blkU_frozen (i := 0) HQ1.out
        refine (wr1_err W2 (by decide) c2 c1 f1).mono ?_
        rintro e' u' w'' ⟨rfl, rfl, rfl⟩
        have c1' : (W2.setCell ⟨w.heap.size + 1, 0, none⟩ (.slice none 0 0)).cell? ⟨w.heap.size + 1, 0, none⟩ = some (.slice none 0 0) := blkU_cell (blk_set1 HQ1.out) rfl
        have c2' : (W2.setCell ⟨w.heap.size + 1, 0, none⟩ (.slice none 0 0)).cell? ⟨w.heap.size + 1 + 1, 0, none⟩ = some (.int .i64 1) := blkU_cell (blkU_off HQ2.out (by simp)) rfl
        have HQB' := Lib.hid (HQB.out.setCell (p := ⟨w.heap.size + 1, 0, none⟩) (by simp) (.slice none 0 0))
        clear c1 c2 f1 HQ1 HQ2 HQB
        generalize W2.setCell ⟨w.heap.size + 1, 0, none⟩ (.slice none 0 0) = W3 at *
        simp [Leaves, settle, results, Try.results6, go_sem, c1', c2']
        unfold WrRet
        rw [if_neg HNA.out]
        exact ⟨rfl, HQB'.out⟩
    · have hkl' : ¬ (k : Int) < (len : Int) := by omega
      obtain rfl : k = len := by omega
      have hall : l.all framedB = true := by
        rw [List.all_eq_true]
        intro x hx
        obtain ⟨i, hi, e⟩ := List.getElem_of_mem hx
        have := HF.out i (by have := HL.out; omega)
        rw [List.getD_eq_getElem?_getD, List.getElem?_eq_getElem hi] at this
        rw [← e]; exact this
      have HALL := Lib.hid hall
      clear hall
      have c1 : wr.cell? ⟨w.heap.size + 1, 0, none⟩ = some (.slice av n cv) := blkU_cell HWr.out.p1 rfl
      have c2 : wr.cell? ⟨w.heap.size + 1 + 1, 0, none⟩ = some (.int .i64 0) := blkU_cell HWr.out.p2 rfl
      have f1 := blkU_frozen (i := 0) HWr.out.p1
      have f2 := blkU_frozen (i := 0) HWr.out.p2
      have HK : Hid (WrW w ((wr.setCell ⟨w.heap.size + 1, 0, none⟩ (.slice av n cv)).setCell ⟨w.heap.size + 1 + 1, 0, none⟩ (.int .i64 0)) ao k cap (.slice av n cv) n (jb (l.take k))) := Lib.hid (HWr.out.fin)
      have HLK := HL.out
      rw [← HLK, List.take_length] at HK
      clear HLK
      go_wp2
      generalize (wr.setCell ⟨w.heap.size + 1, 0, none⟩ (.slice av n cv)).setCell ⟨w.heap.size + 1 + 1, 0, none⟩ (.int .i64 0) = W2 at *
      refine leaves_cons (f := 13) (args := #[.pointer (some ⟨w.heap.size + 1 + 1, 0, none⟩), .pointer (some ⟨w.heap.size, 0, none⟩), .pointer (some ⟨w.heap.size + 1, 0, none⟩)]) (by simp) (by simp [go_sem]) ?_
      clear c1 c2 f1 f2
      have c0 : W2.cell? ⟨w.heap.size, 0, none⟩ = some (.slice ao l.length cap) := blkU_cell HK.out.p0 rfl
      have c1 : W2.cell? ⟨w.heap.size + 1, 0, none⟩ = some (.slice av n cv) := blkU_cell HK.out.p1 rfl
      have c2 : W2.cell? ⟨w.heap.size + 1 + 1, 0, none⟩ = some (.int .i64 0) := blkU_cell HK.out.p2 rfl
      refine (wr1_ok W2 c2 c0 (by have := HL.out; omega)).mono ?_
      rintro e u' w'' ⟨rfl, rfl, rfl⟩
      simp [Leaves, settle, results, Try.results6, go_sem, c1, c2]
      unfold WrRet
      rw [if_pos HALL.out]
      have hrow := HK.out.row
      have hnn : n = (jb l).length := by have := hrow.1; rw [cs_length] at this; omega
      rw [← hnn]
      exact ⟨_, rfl, ownsRow_mono hrow (by omega), HK.out.bel⟩
end Go.Proofs.Ytdgjdbpbnipjcaa
