/-
  JOURNALS: journal.Repair; what is read of a cut journal (plain).
-/
import Derived.Test.YtdgjdbpbnipjcaaProg
import Derived.Test.YtdgjdbpbnipjcaaTrE
import Derived.Test.YtdgjdbpbnipjcaaTrF
import Derived.Test.YtdgjdbpbnipjcaaCrc4
import Derived.BigQuiet
import Derived.Laws.StructEq
import Derived.StillTailTactics
import Derived.RegionTactic
import Derived.Deep.DeepCutAuto
import Derived.Deep.QuietTactic
import Derived.WalkSpells
import Derived.WalkLawsBesides
namespace Go.Proofs.Ytdgjdbpbnipjcaa
open Go.RowKit
set_option linter.unusedVariables false

set_option maxHeartbeats 1000000 in
theorem cloneB_any (xs : List UInt8) (ao : Option Addr) (la ca : Nat) (w : World) (ha : Sl w 1 ao la ca (cs b8 xs)) (hla : la ≤ 1000000000000) :
    Calls Try.prog 20 #[.slice ao la ca] w (RetOwn w 5 la (cs b8 xs)) := by
  cases ao with
  | none =>
    have h0 := ha.hbare rfl
    have hle := ha.hle
    have hc := ha.count
    obtain rfl : la = 0 := by omega
    have hx : xs = [] := List.eq_nil_of_length_eq_zero hc
    subst hx
    subst h0
    have hnil : ∀ w : World, (binOp .eql 30 (.slice none 0 0) (.slice none 0 0)).run Try.prog w = .ok (.bool true) w := nil_eq _ _ _
    clear ha hle
    go_enter Try.func20, Try.ntmps20
    go_wp2
    go_ret
    exact ⟨_, rfl, World.ownsRow_nil _ _ _ _, Below.refl _ _⟩
  | some a =>
    have hnil : ∀ w : World, (binOp .eql 30 (.slice (some a) la ca) (.slice none 0 0)).run Try.prog w = .ok (.bool false) w := nil_eq _ _ _
    go_enter Try.func20, Try.ntmps20
    go_wp2_with (at_builtin; refine wpList_append_many b8 (fun _ => rfl) _ rfl _ _ 30 rfl w.heap.size 5 (.int .u8 0) 1 Try.underlying30 Try.infoU8 rfl (v := .slice (some ⟨w.heap.size, 0, none⟩) 0 0) (n := 0) (xs := []) (World.ownsRow_lit w #[] 0 (Nat.le_refl _) (by decide) rfl) rfl (ha.ext (below_alloc _ _)) rfl (by unfold maxLen; omega) (by omega) (by simp) ?_)
    intro v1 w1 ho1 hb1
    go_wp2
    go_ret
    refine ⟨v1, rfl, ?_, (below_alloc _ _).trans hb1⟩
    simpa using ho1
def RetRep (w : World) (xs : List UInt8) (n lost : Nat) (e : Ending) (w' : World) : Prop :=
  ∃ v, e = .returned (.tuple #[v, .int .i64 (lost : Int)]) ∧ w'.ownsRow w.heap.size 5 1 v n (cs b8 xs) ∧ Below w.heap.size w w'
set_option maxRecDepth 100000 in
set_option maxHeartbeats 2000000 in
theorem repair_any (bs : List UInt8) (L : List EvL) (O : Nat → Nat) (hj : Jr bs L O) (hL : L.length ≤ 41) (ao : Option Addr) (len cap : Nat) (w : World) (hs : Sl w 1 ao len cap (cs b8 bs)) (hlen : len ≤ 1000000) (hO : O L.length ≤ len) :
    Calls Try.prog 11 #[.slice ao len cap] w (RetRep w (bs.take (O L.length)) (O L.length) (len - O L.length)) := by
  have HRD := Lib.hid (read_any bs L O hj hL ao len cap w hs hlen)
  have HS := Lib.hid hs
  have hle := hs.hle
  clear hs hj
  generalize O L.length = n at *
  go_enter Try.func11, Try.ntmps11
  go_wp2_with fail
  refine HRD.out.mono ?_
  rintro e w1 ⟨v1, rfl, ho1, hb1⟩
  obtain ⟨a', hr, hs'⟩ := slice_to (P := Try.prog) 30 5 Try.underlying30 Try.sizeU8 (HS.out.ext hb1) n hO
  have HB1 := Lib.hid hb1
  have HS' := Lib.hid hs'
  clear ho1 hb1 hs'
  go_wp2_with fail
  refine (cloneB_any _ _ _ _ _ HS'.out (by omega)).mono ?_
  rintro e w2 ⟨v2, rfl, ho2, hb2⟩
  have HQ := Lib.hid (And.intro (ownsRow_mono ho2 HB1.out.size) (below_step HB1.out hb2))
  clear ho2 hb2
  have e1 : ((len - n : Nat) : Int) = (len : Int) - (n : Int) := by omega
  have HE := Lib.hid e1
  clear e1
  go_wp2
  go_ret2
  exact ⟨v2, by rw [HE.out]; rfl, HQ.out.1, HQ.out.2⟩

/-! ### plain -/
theorem encE_small (x : EvL) : (encE x).length ≤ 65536 := by have := encE_len x; omega
theorem openRes_end (bs : List UInt8) : openRes bs bs.length = ([], 0, 4) := by
  have := openRes_short bs [] 0 (by simp) (by rw [frameB_len]; omega)
  simpa using this
/-- Where frame j ends. -/
def offE (l : List EvL) (j : Nat) : Nat := (jb (l.take j)).length
theorem offE_zero (l : List EvL) : offE l 0 = 0 := rfl
theorem offE_succ (l : List EvL) (j : Nat) (h : j < l.length) : offE l (j + 1) = offE l j + (recE (l.getD j EvL.zero)).length := by
  unfold offE; rw [jb_take l j h, List.length_append]
theorem offE_all (l : List EvL) : offE l l.length = (jb l).length := by unfold offE; rw [List.take_length]
theorem offE_mono (l : List EvL) {i j : Nat} (hij : i ≤ j) : offE l i ≤ offE l j := by
  unfold offE
  have : l.take j = l.take i ++ (l.take j).drop i := by
    conv => lhs; rw [← List.take_append_drop i (l.take j)]
    rw [List.take_take, Nat.min_eq_left hij]
  rw [this]
  unfold jb
  rw [List.flatMap_append, List.length_append]
  omega
theorem jb_split (l : List EvL) (j : Nat) (h : j < l.length) : jb l = jb (l.take j) ++ (recE (l.getD j EvL.zero) ++ jb (l.drop (j + 1))) := by
  conv => lhs; rw [← List.take_append_drop j l, List.drop_eq_getElem_cons h]
  unfold jb
  rw [List.flatMap_append, List.flatMap_cons]
  simp [List.getD, h]
/-- A cut journal: whole events lie ahead of the cut. -/
theorem jr_cut (l : List EvL) (hf : l.all framedB = true) (cut whole : Nat) (hw : whole ≤ l.length) (hc : offE l whole ≤ cut) (hcl : cut ≤ (jb l).length) (hn : whole = l.length ∨ cut < offE l (whole + 1)) :
    Jr ((jb l).take cut) (l.take whole) (offE l) := by
  have hwl : (l.take whole).length = whole := by rw [List.length_take]; omega
  have hget : ∀ j, j < whole → (l.take whole).getD j EvL.zero = l.getD j EvL.zero := fun j hj => by
    rw [List.getD_eq_getElem?_getD, List.getD_eq_getElem?_getD, List.getElem?_take_of_lt hj]
  refine ⟨rfl, fun j hj => ?_, fun j hj => ?_, ?_⟩
  · rw [hwl] at hj
    rw [hget j hj]
    have hjl : j < l.length := by omega
    have h1 := offE_mono l (show j + 1 ≤ whole by omega)
    have hs := offE_succ l j hjl
    have e : (jb l).take cut = jb (l.take j) ++ (frameB (encE (l.getD j EvL.zero)) ++ (jb (l.drop (j + 1))).take (cut - offE l (j + 1))) := by
      unfold offE at *
      have t1 : (jb (l.take j)).take cut = jb (l.take j) := List.take_of_length_le (by omega)
      have t2 : (recE (l.getD j EvL.zero)).take (cut - (jb (l.take j)).length) = recE (l.getD j EvL.zero) := List.take_of_length_le (by omega)
      rw [jb_split l j hjl, List.take_append, t1, List.take_append, t2, hs, Nat.sub_sub]
      rfl
    rw [e]
    have h := openRes_frame (jb (l.take j)) (encE (l.getD j EvL.zero)) ((jb (l.drop (j + 1))).take (cut - offE l (j + 1))) (encE_small _)
    have e2 : ((jb (l.take j)).length : Int) = (offE l j : Int) := rfl
    rw [e2] at h
    rw [h, hs]
    show _ = (encE (l.getD j EvL.zero), ((offE l j + (frameB (encE (l.getD j EvL.zero))).length : Nat) : Int), 0)
    rw [Int.natCast_add]
  · rw [hwl] at hj
    rw [hget j hj]
    have := List.all_eq_true.1 hf (l.getD j EvL.zero) (by rw [List.getD_eq_getElem?_getD, List.getElem?_eq_getElem (show j < l.length by omega)]; exact List.getElem_mem _)
    exact this
  · rw [hwl]
    rcases Nat.lt_or_ge whole l.length with hjl | hjl
    · have hcut : cut < offE l (whole + 1) := by omega
      rw [offE_succ l whole hjl] at hcut
      have e : (jb l).take cut = jb (l.take whole) ++ (frameB (encE (l.getD whole EvL.zero))).take (cut - offE l whole) := by
        rw [jb_split l whole hjl, List.take_append, List.take_of_length_le (by unfold offE at hc; exact hc)]
        congr 1
        rw [List.take_append_of_le_length (by have h' := hcut; simp only [offE] at h'; omega)]
        rfl
      rw [e]
      exact openRes_short (jb (l.take whole)) _ _ (encE_small _) (by unfold recE at hcut; omega)
    · have hje : whole = l.length := by omega
      have hcc : cut = (jb l).length := by rw [hje, offE_all] at hc; omega
      rw [hcc, List.take_length, hje, offE_all]
      exact openRes_end _
/-- A whole journal. -/
theorem jr_all (l : List EvL) (hf : l.all framedB = true) : Jr (jb l) l (offE l) := by
  have h := jr_cut l hf (jb l).length l.length (Nat.le_refl _) (by rw [offE_all]; exact Nat.le_refl _) (Nat.le_refl _) (.inl rfl)
  rwa [List.take_length, List.take_length] at h
/-- There is such a number of events. -/
theorem whole_ex (l : List EvL) (cut : Nat) : ∃ whole, whole ≤ l.length ∧ offE l whole ≤ cut ∧ (whole = l.length ∨ cut < offE l (whole + 1)) := by
  have : ∀ n, n ≤ l.length → (∃ whole, whole ≤ l.length ∧ offE l whole ≤ cut ∧ (whole = l.length ∨ cut < offE l (whole + 1))) ∨ offE l n ≤ cut := by
    intro n
    induction n with
    | zero => exact fun _ => .inr (Nat.zero_le _)
    | succ n ih =>
      intro hn
      rcases ih (by omega) with h | h
      · exact .inl h
      · by_cases h2 : offE l (n + 1) ≤ cut
        · exact .inr h2
        · exact .inl ⟨n, by omega, h, .inr (by omega)⟩
  rcases this l.length (Nat.le_refl _) with h | h
  · exact h
  · exact ⟨l.length, Nat.le_refl _, h, .inl rfl⟩
end Go.Proofs.Ytdgjdbpbnipjcaa
