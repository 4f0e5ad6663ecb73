/-
  LINK: Clone, Equal, next, NewSender, NewReceiver, Acked.
-/
import Derived.Test.YtfhcaikfbfoopaaProg
import Derived.Test.YtfhcaikfbfoopaaBase1
import Derived.Test.YtfhcaikfbfoopaaBase2
import Derived.Test.YtfhcaikfbfoopaaBase3
import Derived.Test.YtfhcaikfbfoopaaBase5
import Derived.Test.YtfhcaikfbfoopaaBase6
import Derived.Test.YtfhcaikfbfoopaaBase11
import Derived.Test.YtfhcaikfbfoopaaHeld
import Derived.Test.YtfhcaikfbfoopaaLkP
import Derived.BigQuiet
import Derived.Lib.SliceRun
import Derived.Laws.StructEq
import Derived.StillTailTactics
import Derived.RegionTactic
import Derived.Deep.DeepCutAuto
import Derived.Deep.QuietTactic
import Derived.WalkSpells
import Derived.WalkLawsBesides
namespace Go.Proofs.Ytfhcaikfbfoopaa
open Go.RowKit Go.Maps
set_option linter.unusedVariables false

theorem infoU8k : (Try.prog.info? 5).map (fun i => (i.zero, i.size, i.bytes)) = some (some (.int .u8 0), 1, 1) := by kernel_rfl
theorem nil_no (x : Addr) (n c : Nat) (w : World) : (binOp .eql 22 (.slice (some x) n c) (.slice none 0 0)).run Try.prog w = .ok (.bool false) w := by rw [Go.Lib.run_eql_slice_nil w _ _ _ _ _ _ _ Try.underlying22]; rfl
theorem nil_yes (n c : Nat) (w : World) : (binOp .eql 22 (.slice none n c) (.slice none 0 0)).run Try.prog w = .ok (.bool true) w := by rw [Go.Lib.run_eql_slice_nil w _ _ _ _ _ _ _ Try.underlying22]; rfl
theorem stop_hereK {p : Prop} (h : Hid p) : p := h.out
/-- A body handed back, in memory of its own. -/
def RetBd (bs : List UInt8) (W : World) (e : Ending) (W' : World) : Prop := ∃ a c, e = .returned (.slice a bs.length c) ∧ Hid (BdOk W' W.heap.size ⟨a, c, bs⟩) ∧ Below W.heap.size W W'
set_option maxRecDepth 100000 in
set_option maxHeartbeats 1000000 in
theorem clone_some (W : World) (b o len cap : Nat) (bs : List UInt8) (hs : Sl W 1 (some ⟨b, o, none⟩) len cap (cs b8 bs)) (hl : len ≤ 1000000000) : Calls Try.prog 45 #[.slice (some ⟨b, o, none⟩) len cap] W (RetBd bs W) := by
  have hn := hs.count
  have HS := Lib.hid (hs.ext (below_alloc W (.cells #[] 5)))
  have HN := Lib.hid hn
  have hnil := nil_no ⟨b, o, none⟩ len cap
  clear hs hn
  go_enter Try.func45, Try.ntmps45
  go_wp2_with (at_builtin; refine stop_hereK ?_)
  refine Lib.hid ?_
  at_builtin
  refine wpList_append_many b8 (fun _ => rfl) _ rfl _ _ 22 rfl W.heap.size 5 (.int .u8 0) 1 Try.underlying22 infoU8k rfl (n := 0) (xs := []) (own_empty (hp_new rfl) (Nat.le_refl _)) rfl HS.out rfl (by unfold maxLen; omega) (by omega) (by simp) ?_
  intro v1 w1 ho1 hb1
  obtain ⟨a1, c1, e1, _⟩ := sl_of_own ho1
  subst e1
  have HO := Lib.hid ho1
  have HB := Lib.hid ((below_alloc W (.cells #[] 5)).trans hb1)
  clear ho1 hb1
  go_wp2
  go_ret
  have hn := HN.out
  refine ⟨a1, c1, by simp [hn], Lib.hid ?_, HB.out⟩
  have := HO.out
  unfold BdOk
  rw [Nat.zero_add, List.nil_append] at this
  subst hn
  exact this
set_option maxRecDepth 100000 in
theorem clone_none (W : World) (len cap : Nat) (bs : List UInt8) (hs : Sl W 1 none len cap (cs b8 bs)) : Calls Try.prog 45 #[.slice none len cap] W (RetBd bs W) := by
  have hn := hs.count
  obtain ⟨h1, h2⟩ : len = 0 ∧ cap = 0 := by
    have := hs.hbare rfl
    have := hs.hle
    omega
  subst h1 h2
  have hx : bs = [] := List.eq_nil_of_length_eq_zero hn
  subst hx
  clear hs hn
  have hnil := nil_yes 0 0
  go_enter Try.func45, Try.ntmps45
  go_wp2
  go_ret
  exact ⟨none, 0, rfl, Lib.hid (nilB_ok _ _), Below.refl _ _⟩
set_option maxRecDepth 100000 in
set_option maxHeartbeats 1000000 in
theorem clone_zero (W : World) (x : Addr) (cap : Nat) (hs : Sl W 1 (some x) 0 cap (cs b8 [])) : Calls Try.prog 45 #[.slice (some x) 0 cap] W (RetBd [] W) := by
  have HS := Lib.hid (hs.ext (below_alloc W (.cells #[] 5)))
  have hnil := nil_no x 0 cap
  clear hs
  go_enter Try.func45, Try.ntmps45
  go_wp2_with (at_builtin; refine stop_hereK ?_)
  refine Lib.hid ?_
  at_builtin
  refine wpList_append_many b8 (fun _ => rfl) _ rfl _ _ 22 rfl W.heap.size 5 (.int .u8 0) 1 Try.underlying22 infoU8k rfl (n := 0) (xs := []) (own_empty (hp_new rfl) (Nat.le_refl _)) rfl HS.out rfl (by unfold maxLen; omega) (by omega) (by simp) ?_
  intro v1 w1 ho1 hb1
  obtain ⟨a1, c1, e1, _⟩ := sl_of_own ho1
  subst e1
  have HO := Lib.hid ho1
  have HB := Lib.hid ((below_alloc W (.cells #[] 5)).trans hb1)
  clear ho1 hb1
  go_wp2
  go_ret
  exact ⟨a1, c1, rfl, HO, HB.out⟩
theorem clone_any (W : World) (a : Option Addr) (len cap : Nat) (bs : List UInt8) (hs : Sl W 1 a len cap (cs b8 bs)) (hl : len ≤ 1000000000) : Calls Try.prog 45 #[.slice a len cap] W (RetBd bs W) := by
  cases a with
  | none => exact clone_none W len cap bs hs
  | some x =>
    rcases Nat.eq_zero_or_pos len with h0 | hp
    · obtain ⟨b, o, sp⟩ := x
      have hn := hs.count
      subst h0
      have hx : bs = [] := List.eq_nil_of_length_eq_zero hn
      subst hx
      exact clone_zero W _ cap hs
    · obtain ⟨b, o, e, _⟩ := hs.addr (by have := hs.count; rw [cs_length]; omega)
      cases e
      exact clone_some W b o len cap bs hs hl
set_option maxRecDepth 100000 in
theorem equal_any (W : World) (a a2 : Option Addr) (len cap len2 cap2 : Nat) (bs b2 : List UInt8) (hs : Sl W 1 a len cap (cs b8 bs)) (hs2 : Sl W 1 a2 len2 cap2 (cs b8 b2)) : Calls Try.prog 47 #[.slice a len cap, .slice a2 len2 cap2] W (fun e W' => e = .returned (.bool (decide (bs = b2))) ∧ W' = W) := by
  have h1 := run_b2s W 22 9 5 Try.underlying22 Try.underlying9 Try.underlying5 hs
  have h2 := run_b2s W 22 9 5 Try.underlying22 Try.underlying9 Try.underlying5 hs2
  clear hs hs2
  go_enter Try.func47, Try.ntmps47
  go_wp2
  go_ret
  exact ⟨by (simp; by_cases h : bs = b2 <;> simp [h]), rfl⟩
set_option maxRecDepth 100000 in
theorem next_any {B : Nat} {W : World} {g k : Nat} {v : Value} {xs : List Bv} (h : Hid (SendAt B W g v k xs)) (hk : (k : Int) ≤ 1048576 ∧ (xs.length : Int) ≤ 16) : Calls Try.prog 44 #[.pointer (some ⟨g, 0, none⟩)] W (fun e W' => e = .returned (.int .i64 ((k : Int) + (xs.length : Int))) ∧ ∃ n, W' = W.drewN n) := by
  obtain ⟨c0, c1, _, _⟩ := h.out.cells
  obtain ⟨a, c, e, _⟩ := h.out.form
  subst e
  have hk0 : (0 : Int) ≤ (k : Int) := by omega
  have hx0 : (0 : Int) ≤ (xs.length : Int) := by omega
  clear h
  go_enter Try.func44, Try.ntmps44
  go_wp2
  go_quiet (fail)
  go_wp2
  go_ret
  exact ⟨by first | rfl | (go_num), _, rfl⟩
set_option maxRecDepth 100000 in
theorem newSender_any (W : World) : Calls Try.prog 20 #[] W (fun e W' => e = .returned (.pointer (some ⟨W.heap.size, 0, none⟩)) ∧ Hid (SendAt W.heap.size W' W.heap.size (.slice none 0 0) 0 []) ∧ Below W.heap.size W W') := by
  go_enter Try.func20, Try.ntmps20
  go_wp2
  go_ret
  exact ⟨rfl, Lib.hid ⟨hp_new rfl, World.ownsRow_nil _ _ _ _, fun x hx => (by simp at hx), Nat.le_refl _⟩, below_alloc _ _⟩
set_option maxRecDepth 100000 in
theorem newReceiver_any (W : World) : Calls Try.prog 28 #[] W (fun e W' => e = .returned (.pointer (some ⟨W.heap.size + 1, 0, none⟩)) ∧ Hid (RecAt W.heap.size W' (W.heap.size + 1) (.slice none 0 0) W.heap.size 0 (.map []) [] (fun _ => none)) ∧ Below W.heap.size W W') := by
  have hmm := @run_makeMap Try.prog
  go_enter Try.func28, Try.ntmps28
  go_wp2
  go_ret
  refine ⟨by simp, Lib.hid ⟨hp_new (by simp), World.ownsRow_nil _ _ _ _, fun x hx => (by simp at hx), ?_, fun k hk => rfl, fun k x e => (by cases e), by omega, Nat.le_refl _⟩, below_step (below_alloc _ _) (below_alloc _ _)⟩
  exact kmap_keep (L := []) (World.ownsMap_made W Try.prog 3 rdV) (Fx.ofBelow (below_alloc _ _)) (by simp)
set_option maxRecDepth 100000 in
theorem acked_any {B : Nat} {W : World} {r b n : Nat} {v : Value} {D : DataW Value} {xs : List Bv} {f : Kf} (h : Hid (RecAt B W r v b n D xs f)) : Calls Try.prog 31 #[.pointer (some ⟨r, 0, none⟩)] W (fun e W' => e = .returned (.int .i64 (xs.length : Int)) ∧ W' = W) := by
  obtain ⟨c0, _, _, _⟩ := h.out.cells
  obtain ⟨a, c, e, _⟩ := h.out.form
  subst e
  clear h
  go_enter Try.func31, Try.ntmps31
  go_wp2
  go_ret
  exact ⟨rfl, rfl⟩
end Go.Proofs.Ytfhcaikfbfoopaa
