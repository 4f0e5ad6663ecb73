/-
  WIRE, THE WALKS: Text, Ints, and the reference's.
-/
import Derived.Test.YtdgjdbpbnipjcaaProg
import Derived.Test.YtdgjdbpbnipjcaaBase7
import Derived.Test.YtdgjdbpbnipjcaaWire1
import Derived.Test.YtdgjdbpbnipjcaaWireP5
import Derived.BigQuiet
import Derived.Deep.QuietTactic
import Derived.WalkSpells
import Derived.WalkLawsBesides
import Derived.Test.YtdgjdbpbnipjcaaBase9
import Derived.Test.YtdgjdbpbnipjcaaCrc4
import Derived.Test.YtdgjdbpbnipjcaaFlat
import Derived.Laws.StructEq
import Derived.StillTailTactics
import Derived.RegionTactic
import Derived.Deep.DeepCutAuto
import Derived.BigRegion
import Derived.Deep.RegionHeld3
import Derived.Deep.RegionLaw
namespace Go.Proofs.Ytdgjdbpbnipjcaa
open Go.RowKit
set_option linter.unusedVariables false




theorem int_val {bs : List UInt8} {at_ n nx er : Int} {ao : Option Addr} {len cap : Nat} {w : World} (hs : Sl w 1 ao len cap (cs b8 bs)) (hlen : len ≤ 1000000000000) (hr : Hid (intRes bs at_ = (n, nx, er))) :
    Calls Try.prog 23 #[.slice ao len cap, .int .i64 at_] w (fun e w' => e = .returned (.tuple #[.int .i64 n, .int .i64 nx, .int .i64 er]) ∧ w = w') :=
  (int_any bs at_ ao len cap w hs hlen).mono fun _ _ ⟨h, h'⟩ => ⟨by rw [h, hr.out]; rfl, h'⟩

end Go.Proofs.Ytdgjdbpbnipjcaa

namespace Go.Proofs.Ytdgjdbpbnipjcaa
open Go.RowKit
set_option linter.unusedVariables false

def openRes (bs : List UInt8) (at_ : Int) : List UInt8 × Int × Int :=
  if (intRes bs at_).2.2 ≠ 0 then ([], 0, (intRes bs at_).2.2)
  else if (intRes bs at_).1 < 0 ∨ 65536 < (intRes bs at_).1 then ([], 0, 3)
  else if (bs.length : Int) - (intRes bs at_).2.1 < (intRes bs at_).1 + 4 then ([], 0, 4)
  else if (bs.drop ((intRes bs at_).2.1.toNat + (intRes bs at_).1.toNat)).take 4 = tail4 (crc ((bs.drop (intRes bs at_).2.1.toNat).take (intRes bs at_).1.toNat)) then
    ((bs.drop (intRes bs at_).2.1.toNat).take (intRes bs at_).1.toNat, (intRes bs at_).2.1 + (intRes bs at_).1 + 4, 0)
  else ([], 0, 13)
/-- A slice of its own that holds the bytes, the next index, and an error. -/
def RetOpen (r : List UInt8 × Int × Int) (w : World) (e : Ending) (w' : World) : Prop :=
  ∃ v n, e = .returned (.tuple #[v, .int .i64 r.2.1, .int .i64 r.2.2]) ∧ w'.ownsRow w.heap.size 5 1 v n (cs b8 r.1) ∧ Below w.heap.size w w'
theorem retOpen_none {r : List UInt8 × Int × Int} {w : World} {er : Int} (h : r = ([], 0, er)) : RetOpen r w (.returned (.tuple #[.slice none 0 0, .int .i64 0, .int .i64 er])) w := by
  subst h; exact ⟨_, _, rfl, World.ownsRow_nil _ _ _ _, Below.refl _ _⟩
theorem retOpen_noneB {r : List UInt8 × Int × Int} {w w' : World} {er : Int} (h : r = ([], 0, er)) (hb : Below w.heap.size w w') : RetOpen r w (.returned (.tuple #[.slice none 0 0, .int .i64 0, .int .i64 er])) w' := by
  subst h; exact ⟨_, _, rfl, World.ownsRow_nil _ _ _ _, hb⟩
theorem retOpen_some {r : List UInt8 × Int × Int} {w w1 w' : World} {v : Value} {n : Nat} {xs : List UInt8} {nx : Int} (h : r = (xs, nx, 0)) (hb : Below w.heap.size w w1) (ho : w'.ownsRow w1.heap.size 5 1 v n (cs b8 xs)) (hb2 : Below w1.heap.size w1 w') :
    RetOpen r w (.returned (.tuple #[v, .int .i64 nx, .int .i64 0])) w' := by
  subst h
  exact ⟨_, _, rfl, ownsRow_mono ho hb.size, below_step hb hb2⟩
theorem clone_s {w w1 : World} {bs : List UInt8} {a : Option Addr} {n c : Nat} (H : Hid (Sl w 1 a n c (cs b8 bs) ∧ n ≤ 65536)) (hb : Below w.heap.size w w1) :
    Calls Try.prog 25 #[.slice a n c] w1 (RetOwn w1 5 n (cs b8 bs)) := clone_any bs a n c w1 (H.out.1.ext hb) (by have := H.out.2; omega)
theorem keepB {w w1 w2 : World} (hb : Below w1.heap.size w1 w2) (h : Below w.heap.size w w1) : Below w.heap.size w w2 := below_step h hb
theorem tail_s {w w1 : World} {bs : List UInt8} {a : Option Addr} {n c : Nat} (H : Hid (Sl w 1 a n c (cs b8 bs) ∧ n ≤ 65536)) (hb : Below w.heap.size w w1) :
    Calls Try.prog 22 #[.slice a n c] w1 (fun e w2 => ∃ a4 c4, e = .returned (.slice a4 4 c4) ∧ Hid (Sl w2 1 a4 4 c4 (cs b8 (tail4 (crc bs)))) ∧ Below w1.heap.size w1 w2) := by
  have h2 := H.out.2
  refine (tail_any bs a n c w1 (H.out.1.ext hb) (by omega)).mono ?_
  rintro e w2 ⟨v, rfl, ho, hb2⟩
  obtain ⟨a4, c4, rfl, s⟩ := sl_of_own ho
  exact ⟨a4, c4, rfl, s, hb2⟩
theorem equal_s {w w2 : World} {xs ys : List UInt8} {a a4 : Option Addr} {n c n4 c4 : Nat} (H : Hid (Sl w 1 a n c (cs b8 xs))) (h2 : Hid (Sl w2 1 a4 n4 c4 (cs b8 ys))) (hb : Below w.heap.size w w2) :
    Calls Try.prog 24 #[.slice a n c, .slice a4 n4 c4] w2 (RetB (.bool (decide (xs = ys))) w2) := equal_any xs ys a a4 n c n4 c4 w2 (H.out.ext hb) h2.out

set_option maxRecDepth 100000 in
set_option maxHeartbeats 2000000 in
theorem open_any (bs : List UInt8) (at_ : Int) (ao : Option Addr) (len cap : Nat) (w : World) (hs : Sl w 1 ao len cap (cs b8 bs)) (hlen : len ≤ 1000000000) :
    Calls Try.prog 17 #[.slice ao len cap, .int .i64 at_] w (RetOpen (openRes bs at_) w) := by
  obtain ⟨⟨n, nx, er⟩, hr⟩ : ∃ r, intRes bs at_ = r := ⟨_, rfl⟩
  obtain ⟨p1, p2, p3, p4⟩ := intRes_props hr
  have HR := Lib.hid hr
  clear hr
  obtain ⟨T, hT⟩ : ∃ T, openRes bs at_ = T := ⟨_, rfl⟩
  rw [hT]
  unfold openRes at hT
  rw [HR.out] at hT
  simp only at hT
  by_cases he : er = 0
  · subst he
    rw [if_neg (by decide)] at hT
    by_cases hn : n < 0 ∨ 65536 < n
    · rw [if_pos hn] at hT
      have HT := Lib.hid hT
      clear hT
      by_cases h0 : n < 0
      · go_enter Try.func17, Try.ntmps17
        go_wp2_with (go_at_call 23; refine (int_val hs (by omega) HR).mono ?_; rintro e w' ⟨rfl, rfl⟩)
        go_ret3
        exact retOpen_none HT.out.symm
      · have h1 : 65536 < n := by omega
        go_enter Try.func17, Try.ntmps17
        go_wp2_with (go_at_call 23; refine (int_val hs (by omega) HR).mono ?_; rintro e w' ⟨rfl, rfl⟩)
        go_ret3
        exact retOpen_none HT.out.symm
    · rw [if_neg hn] at hT
      have h0 : ¬ n < 0 := by omega
      have h1 : ¬ 65536 < n := by omega
      have hc := hs.count
      have hle := hs.hle
      have hp := p3 rfl
      obtain ⟨q, rfl⟩ := Int.eq_ofNat_of_zero_le (show 0 ≤ n by omega)
      obtain ⟨p, rfl⟩ := Int.eq_ofNat_of_zero_le (show 0 ≤ nx by omega)
      have hpl : p ≤ len := by omega
      rw [hc] at hT
      by_cases hfit : (len : Int) - (p : Int) < (q : Int) + 4
      · rw [if_pos hfit] at hT
        clear hc hn
        have HT := Lib.hid hT
        clear hT
        go_enter Try.func17, Try.ntmps17
        go_wp2_with (go_at_call 23; refine (int_val hs (by omega) HR).mono ?_; rintro e w' ⟨rfl, rfl⟩)
        go_ret3
        exact retOpen_none HT.out.symm
      · rw [if_neg hfit] at hT
        obtain ⟨ac, hrunc, hsc⟩ := slice_mid (P := Try.prog) 30 5 Try.underlying30 Try.sizeU8 hs p (p + q) ((p : Int) + (q : Int)) (by omega) (by omega) (by omega)
        obtain ⟨at4, hrunt, hst⟩ := slice_mid (P := Try.prog) 30 5 Try.underlying30 Try.sizeU8 hs (p + q) (p + q + 4) ((p : Int) + (q : Int) + 4) (by omega) (by omega) (by omega)
        have e1 : ((p + q : Nat) : Int) = (p : Int) + (q : Int) := by omega
        rw [e1] at hrunt
        simp only [Int.toNat_natCast] at hT
        rw [show p + q - p = q from by omega] at hrunc hsc
        rw [show p + q + 4 - (p + q) = 4 from by omega] at hrunt hst
        clear e1 hc hn
        have hq : q ≤ 65536 := by omega
        have hw1 : IntKind.i64.wrap ((p : Int) + (q : Int)) = (p : Int) + (q : Int) := by rw [IntKind.wrap_i64]; omega
        have hw2 : IntKind.i64.wrap ((p : Int) + (q : Int) + 4) = (p : Int) + (q : Int) + 4 := by rw [IntKind.wrap_i64]; omega
        generalize (bs.drop p).take q = C at *
        generalize (bs.drop (p + q)).take 4 = T4 at *
        have HC := Lib.hid (And.intro hsc hq)
        have HT4 := Lib.hid hst
        clear hsc hst
        by_cases hsum : T4 = tail4 (crc C)
        · rw [if_pos hsum] at hT
          have HT := Lib.hid hT
          have hdec : decide (T4 = tail4 (crc C)) = true := decide_eq_true hsum
          clear hT hsum
          go_enter Try.func17, Try.ntmps17
          go_wp2_with (go_at_call 23; refine (int_val hs (by omega) HR).mono ?_; rintro e w' ⟨rfl, rfl⟩)
          have hb0 := Below.refl w.heap.size w
          go_region_held3 (fun w' => Below w.heap.size w w')
            (repeat (with_reducible first | assumption | refine below_drew ?_ | (apply keepB; focus assumption)))
            (first
              | (go_at_call 22; refine (tail_s HC (by assumption)).mono ?_; rintro e w1 ⟨a4, c4, rfl, s1, hb1⟩)
              | (go_at_call 24; refine (equal_s HT4 s1 (by assumption)).mono ?_; rintro e w2 ⟨rfl, hb2⟩))
          all_goals
            go_wp2_with (go_at_call 25; refine (clone_s HC (by assumption)).mono ?_; rintro e w3 ⟨v3, rfl, ho3, hb3⟩)
            go_ret3
            exact retOpen_some HT.out.symm (by assumption) ho3 hb3
        · rw [if_neg hsum] at hT
          have HT := Lib.hid hT
          have hdec : decide (T4 = tail4 (crc C)) = false := decide_eq_false hsum
          clear hT hsum
          go_enter Try.func17, Try.ntmps17
          go_wp2_with (go_at_call 23; refine (int_val hs (by omega) HR).mono ?_; rintro e w' ⟨rfl, rfl⟩)
          have hb0 := Below.refl w.heap.size w
          go_region_held3 (fun w' => Below w.heap.size w w')
            (repeat (with_reducible first | assumption | refine below_drew ?_ | (apply keepB; focus assumption)))
            (first
              | (go_at_call 22; refine (tail_s HC (by assumption)).mono ?_; rintro e w1 ⟨a4, c4, rfl, s1, hb1⟩)
              | (go_at_call 24; refine (equal_s HT4 s1 (by assumption)).mono ?_; rintro e w2 ⟨rfl, hb2⟩))
          all_goals
            go_wp2
            go_ret3
            exact retOpen_noneB HT.out.symm (by assumption)
  · rw [if_pos he] at hT
    have HT := Lib.hid hT
    clear hT
    go_enter Try.func17, Try.ntmps17
    go_wp2_with (go_at_call 23; refine (int_val hs (by omega) HR).mono ?_; rintro e w' ⟨rfl, rfl⟩)
    go_ret3
    exact retOpen_none HT.out.symm
end Go.Proofs.Ytdgjdbpbnipjcaa

namespace Go.Proofs.Ytdgjdbpbnipjcaa
open Go.RowKit Go.Maps
set_option linter.unusedVariables false

theorem wpList_append_rowU {P : Program} (w : World) {ops : Array Oper} {rest : List Oper} {o : Oper} {a : Act} {Q : Exit → Act → World → Prop}
    (hgd : o.guard = none) (s x : Operand) (t : TypeId)
    (ho : o.op = .call { callee := .builtin .append, args := #[s, x], argTypes := #[t, t] })
    (B : Nat) (e : TypeId) (z : Value) (size bytes : Nat) (ht : P.underlying t = some (.slice e))
    (hinfo : (P.info? e).map (fun i => (i.zero, i.size, i.bytes)) = some (some z, size, bytes)) (hzs : z.cells.size = size) (hsz : 0 < size)
    {v : Value} {n : Nat} {xs : List Value} (hs : a.eval s = v) (hown : w.ownsRow B e size v n xs) {k : Nat} {C : Array Value} (hx : a.eval x = .slice (some ⟨k, 0, none⟩) 1 1) (hk : BlkAt w k C) (hC : C.size = size) (h1 : ∀ u ∈ C.toList, u.oneCell' = true)
    (h63 : n + 1 ≤ maxLen) (hbytes : (n + 1) * bytes ≤ 140737488355328) (hB : B ≤ w.heap.size)
    (hK : ∀ v' w', w'.ownsRow B e size v' (n + 1) (xs ++ C.toList) → w.grownBy w' v.ownBlock → Fresh w v v' → wpList P ops Q rest (a.put o.dst v') w') :
    wpList P ops Q (o :: rest) a w := by
  refine wpList_plain hgd fun K hK' => ?_
  obtain ⟨E', hE⟩ := hk
  obtain ⟨v', w', hrun, r1, r2, r3⟩ := run_append_fresh (P := P) w B t o.type e z size bytes ht hinfo hzs hsz v n xs hown ⟨k, 0, none⟩ 1 1 C.toList (by rw [Array.length_toList, hC, Nat.one_mul])
    (fun j u hj => by rw [Addr.add_lit, Nat.zero_add, cell_of_row _ _ _ _ _ _ hE]; simpa using hj) h1 h63 hbytes hB
  unfold Oper.wp
  simp [execOp, ho, resolve, invoke, builtin, hs, hx, hrun, Result.andThen]
  exact hK' _ _ (hK v' w' r1 r2 r3)
end Go.Proofs.Ytdgjdbpbnipjcaa
