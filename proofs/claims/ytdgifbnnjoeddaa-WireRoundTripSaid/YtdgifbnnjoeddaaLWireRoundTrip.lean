/-
  'bikesharelaw04.WireRoundTrip': for every input the law returns true, and each argument reads afterwards as before. No condition.
-/
import Derived.Test.YtdgifbnnjoeddaaRows
import Derived.WalkKit
import Derived.ProofKit
import Derived.OpenShut
import Derived.ShutString
import Derived.ChangeOld
import Derived.Below
import Derived.Deep.DeepCutAuto
import Derived.BigQuiet
import Derived.Deep.QuietTactic
import Derived.Lib.Hide
import Derived.Test.YtdgifbnnjoeddaaWire9
import Derived.Test.YtdgifbnnjoeddaaWireP5
import Derived.Test.YtdgifbnnjoeddaaBase4
namespace Go.Proofs.Ytdgifbnnjoeddaa.wireRoundTrip
open Go.ChangeShapes Go.WideShapes Go.ChangeAt Go.RowKit
open Go.ChangeMaps (open_string shut_string)
set_option linter.unusedVariables false

theorem own : ownKnob Try.prog.godebug = none := by kernel_rfl
theorem laidOut : laidOutB Try.prog = true := by kernel_rfl

/-- WHAT THE WALK IS TOLD OF A SLICE OF INTEGERS THAT CAME IN: it is nil; or it leads to a row of 'cap' cells, the numbers 'zs' (the first 'len' are its elements, the rest its spare room), each fitting its kind. -/
def IsRow (k : IntKind) (w : World) (a : Option Addr) (len cap : Nat) (zs : List Int) : Prop :=
  (a = none ∧ len = 0 ∧ cap = 0 ∧ zs = []) ∨
  ∃ x, a = some x ∧ len ≤ cap ∧ cap ≤ maxLen ∧ zs.length = cap ∧ (∀ i, i < zs.length → w.cell? (x.add i) = some (.int k (zs.getD i 0))) ∧ ∀ n ∈ zs, (Lit.int k n).wf = true

/-! ### STEP 1: THE WALK: the Go text returns true, AND WRITES NOTHING THAT WAS THERE: 'Below w.heap.size w w'' (Derived/Below.lean: '.refl', '.alloc', '.drew', '.setCell' at a new block, '.trans'). Open each 'IsRow' by 'rcases' AHEAD of 'go_enter'; part every test ahead of the walk. -/
theorem walk (a0 : Option Addr) (len0 cap0 : Nat) (z0 : List Int) (a1 : Int) (a2 : ByteArray) (a3 : Option Addr) (len3 cap3 : Nat) (z3 : List Int) (w : World) (w0 : IsRow .u8 w a0 len0 cap0 z0) (w1 : (Lit.int .i64 a1).wf = true) (w2 : a2.size ≤ maxLen) (w3 : IsRow .i64 w a3 len3 cap3 z3) :
    Calls Try.prog 13 #[.slice a0 len0 cap0, .int .i64 a1, .string a2, .slice a3 len3 cap3] w fun e w' => e = .returned (.bool true) ∧ Below w.heap.size w w' := by
  obtain ⟨bs, hs⟩ := sl_bytes w0
  obtain ⟨l, hl, hr⟩ := sl_ints w3
  have hn := wf_i64 w1
  clear w0 w1 w3
  have hr' : I64s l := hr
  clear hr
  by_cases hbig : 2000 < len0 ∨ 2000 < a2.size ∨ 300 < len3
  · go_enter Try.func13, Try.ntmps13
    go_wp2_with (go_at_call 27; refine (awake_any _).mono ?_; rintro e w' ⟨rfl, hb⟩)
    all_goals (go_ret; exact ⟨rfl, by assumption⟩)
  · have g1 : len0 ≤ 2000 := by omega
    have g2 : a2.size ≤ 2000 := by omega
    have g3 : len3 ≤ 300 := by omega
    clear hbig
    have hcb := hs.count
    have hcl := hl.count
    have q1 := putInt_length a1
    have q2 := putText_length a2.data.toList
    have q3 := putInts_length l
    have hts : a2.data.toList.length = a2.size := by rw [Array.length_toList]; rfl
    have r1 : intRes (bs ++ putInt a1 ++ putText a2.data.toList ++ putInts l) len0 = (a1, (len0 : Int) + (putInt a1).length, 0) := by
      have := intRes_put bs (putText a2.data.toList ++ putInts l) a1 hn.1 hn.2
      rw [hcb] at this
      simpa only [List.append_assoc] using this
    have r2 : textRes (bs ++ putInt a1 ++ putText a2.data.toList ++ putInts l) ((len0 : Int) + (putInt a1).length) = (a2.data.toList, (len0 : Int) + (putInt a1).length + (putText a2.data.toList).length, 0) := by
      have := textRes_put (bs ++ putInt a1) (putInts l) a2.data.toList (by omega)
      rw [List.length_append, hcb] at this
      simpa only [List.append_assoc, Int.natCast_add] using this
    have r3 : intsRes (bs ++ putInt a1 ++ putText a2.data.toList ++ putInts l) ((len0 : Int) + (putInt a1).length + (putText a2.data.toList).length) = (l, (len0 : Int) + (putInt a1).length + (putText a2.data.toList).length + (putInts l).length, 0) := by
      have := intsRes_put (bs ++ putInt a1 ++ putText a2.data.toList) [] l (by omega) hr'
      rw [List.length_append, List.length_append, hcb] at this
      simpa only [List.append_nil, List.append_assoc, Int.natCast_add] using this
    have hlen : (bs ++ putInt a1 ++ putText a2.data.toList ++ putInts l).length = len0 + (putInt a1).length + (putText a2.data.toList).length + (putInts l).length := by
      rw [List.length_append, List.length_append, List.length_append, hcb]
    have htk : (bs ++ putInt a1 ++ putText a2.data.toList ++ putInts l).take len0 = bs := by
      rw [← hcb, List.append_assoc, List.append_assoc, List.take_left]
    rw [hts] at q2
    rw [hcl] at q3
    have R1 := Lib.hid r1
    have R2 := Lib.hid r2
    have R3 := Lib.hid r3
    have HLEN := Lib.hid hlen
    have HTK := Lib.hid htk
    have HCL := Lib.hid hcl
    clear r1 r2 r3 hlen htk hts hcb hcl
    have hL1 := q1.1
    go_enter Try.func13, Try.ntmps13
    go_wp2_with fail
    refine (putInt_any bs a1 a0 len0 cap0 _ hs (by omega) hn.1 hn.2).mono ?_
    rintro e w1 ⟨v1, rfl, ho1, hb1⟩
    obtain ⟨N1, x1, c1, rfl, s1⟩ := sl_own ho1
    have n1 : N1 ≤ 2010 := by have h := s1.count; have h' := hs.count; rw [List.length_append] at h; omega
    clear ho1
    go_wp2_with fail
    refine (putText_any _ a2 x1 N1 c1 _ s1 (by omega) (by omega)).mono ?_
    rintro e w2 ⟨v2, rfl, ho2, hb2⟩
    obtain ⟨N2, x2, c2, rfl, s2⟩ := sl_own ho2
    have n2 : N2 ≤ 4020 := by have h := s2.count; have h' := s1.count; rw [List.length_append] at h; omega
    have k2 := below_step hb1 hb2
    clear ho2 hb1 hb2 s1
    go_wp2_with fail
    refine (putInts_any _ l x2 a3 N2 c2 len3 cap3 _ s2 (hl.ext k2) hr' (by omega) (by omega)).mono ?_
    rintro e w3 ⟨v3, rfl, ho3, hb3⟩
    obtain ⟨N3, x3, c3, rfl, s3⟩ := sl_own ho3
    have n3 : N3 ≤ 8000 := by have h := s3.count; have h' := s2.count; rw [List.length_append] at h; omega
    have n4 : N3 ≤ len0 + (putInt a1).length + (putText a2.data.toList).length + (putInts l).length := by have h := s3.count; have h' := HLEN.out; omega
    have n5 : len0 + (putInt a1).length + (putText a2.data.toList).length + (putInts l).length ≤ N3 := by have h := s3.count; have h' := HLEN.out; omega
    have k3 := below_step k2 hb3
    clear ho3 hb3 s2 k2
    obtain ⟨x3', hrun, s3'⟩ := slice_to (P := Try.prog) 25 5 Try.underlying25 Try.sizeU8 s3 len0 (by omega)
    rw [HTK.out] at s3'
    go_wp2_with fail
    refine (int_val s3 (by omega) R1).mono ?_
    rintro e w' ⟨rfl, rfl⟩
    go_wp2_with fail
    refine (text_any _ _ x3 N3 c3 _ s3 (by omega)).mono ?_
    rintro e w' ⟨h, rfl⟩
    rw [R2.out] at h
    simp only at h
    subst h
    go_wp2_with fail
    refine (ints_any _ _ x3 N3 c3 _ s3 (by omega)).mono ?_
    rintro e w4 ⟨v4, h, ho4, hb4⟩
    rw [R3.out] at h ho4
    simp only at h ho4
    subst h
    obtain ⟨N4, x4, c4, rfl, s4⟩ := sl_own ho4
    have k4 := below_step k3 hb4
    clear ho4
    have n6 : N4 ≤ 300 := by have h := s4.count; have h' := HCL.out; omega
    go_wp2_with fail
    refine (intsSame_any l l x4 a3 N4 c4 len3 cap3 _ s4 (hl.ext k4) (by omega)).mono ?_
    rintro e w5 ⟨rfl, hb5⟩
    rw [decide_eq_true rfl]
    have k5 := below_step k4 hb5
    go_wp2_with fail
    refine (refSame_any bs bs x3' a0 len0 c3 len0 cap0 _ (s3'.ext (below_step hb4 hb5)) (hs.ext k5)).mono ?_
    rintro e w6 ⟨rfl, hb6⟩
    rw [decide_eq_true rfl]
    have k6 := below_step k5 hb6
    clear hb4 hb5 hb6 k3 k4 k5
    go_wp2_with fail
    refine (awake_any _).mono ?_
    rintro e w7 ⟨rfl, hb7⟩
    go_wp2
    go_ret
    exact ⟨rfl, below_step k6 hb7⟩

/-! ### THE ROW's STEP: WRITTEN OUT: LEAVE IT -/
set_option maxRecDepth 100000 in
theorem lifted (os : Os) (started : os.Started) (H : Type) (enc : TypeId × Value → H) :
    ReturnsInHanded {} Try.checked os 13 .any (Rows.wireRoundTripSpec.pre6 enc Try.prog Try.f13 Rows.wireRoundTripRow.domain false) (Rows.wireRoundTripSpec.post enc Try.prog Try.f13 false true false false) := by
  refine returnsInHanded_of_change (C := Try.checked) own started (by kernel_rfl) Try.func13
    (ChangeSpec.witness6 (enc := enc) (C := Try.checked) false ⟨#[], #[.slice none 0 0, .int .i64 0, .string ByteArray.empty, .slice none 0 0], []⟩ 8 (by kernel_rfl) (by kernel_rfl) (by kernel_rfl) (by kernel_rfl)) ?_
  intro W base args ds gs before hval0 hW hcnd _
  have hval : ∀ (j : Nat) t v, Try.f13.params[j]? = some t → args[j]? = some v → Value.okWide Try.prog W .any base t v := hval0
  have hW' := hW
  obtain ⟨p, q, hA0, hV, rfl, hfz, hnd⟩ := hW
  have hA : DataW.TrodAll enc Try.prog W 0 (fun _ => true) true Try.f13.params.toList args.toList ds p := hA0
  rw [Try.params13] at hA hval
  obtain ⟨v0, vs0, d0, ds0, p0, q0, hargs, rfl, rfl, h0, r0⟩ := trodAll_cons hA
  obtain ⟨v1, vs1, d1, ds1, p1, q1, rfl, rfl, rfl, h1, r1⟩ := trodAll_cons r0
  obtain ⟨v2, vs2, d2, ds2, p2, q2, rfl, rfl, rfl, h2, r2⟩ := trodAll_cons r1
  obtain ⟨v3, vs3, d3, ds3, p3, q3, rfl, rfl, rfl, h3, r3⟩ := trodAll_cons r2
  obtain ⟨rfl, rfl, rfl⟩ := trodAll_nil r3
  obtain rfl : args = #[v0, v1, v2, v3] := by cases args; simp_all
  obtain ⟨rfl, rfl⟩ := trodVars_none hV
  obtain ⟨a0, len0, cap0, rfl⟩ := okWide_slice Try.underlying25 (hval 0 25 v0 rfl rfl)
  have k0 := h0
  have lt0 : ∀ x ∈ p0, x.block < W.heap.size := by obtain ⟨m, hm⟩ := k0; exact DataW.trod_lt m _ _ _ hm
  obtain ⟨z0, w0⟩ : ∃ zs, IsRow .u8 W a0 len0 cap0 zs := by
    obtain ⟨fuel, hf⟩ := h0
    rcases open_ints Try.underlying25 Try.underlying5 (by kernel_rfl) hf with ⟨hcs, _⟩ | ⟨x, l, c, zs, hcs, _, hl, hm, hz, _, hcell, hwz⟩
    · simp [Value.cells] at hcs
      obtain ⟨rfl, rfl, rfl⟩ := hcs
      exact ⟨[], .inl ⟨rfl, rfl, rfl, rfl⟩⟩
    · simp [Value.cells] at hcs
      obtain ⟨rfl, rfl, rfl⟩ := hcs
      exact ⟨zs, .inr ⟨_, rfl, hl, hm, by simpa using hz, hcell, hwz⟩⟩
  obtain ⟨a1, rfl, rfl, rfl, w1⟩ := open_int Try.underlying3 (hval 1 3 v1 rfl rfl) h1
  obtain ⟨a2, rfl, rfl, rfl, w2⟩ := open_string Try.underlying9 (hval 2 9 v2 rfl rfl) h2
  obtain ⟨a3, len3, cap3, rfl⟩ := okWide_slice Try.underlying29 (hval 3 29 v3 rfl rfl)
  have k3 := h3
  have lt3 : ∀ x ∈ p3, x.block < W.heap.size := by obtain ⟨m, hm⟩ := k3; exact DataW.trod_lt m _ _ _ hm
  obtain ⟨z3, w3⟩ : ∃ zs, IsRow .i64 W a3 len3 cap3 zs := by
    obtain ⟨fuel, hf⟩ := h3
    rcases open_ints Try.underlying29 Try.underlying3 (by kernel_rfl) hf with ⟨hcs, _⟩ | ⟨x, l, c, zs, hcs, _, hl, hm, hz, _, hcell, hwz⟩
    · simp [Value.cells] at hcs
      obtain ⟨rfl, rfl, rfl⟩ := hcs
      exact ⟨[], .inl ⟨rfl, rfl, rfl, rfl⟩⟩
    · simp [Value.cells] at hcs
      obtain ⟨rfl, rfl, rfl⟩ := hcs
      exact ⟨zs, .inr ⟨_, rfl, hl, hm, by simpa using hz, hcell, hwz⟩⟩
  clear hA0 hval0
  refine (walk a0 len0 cap0 z0 a1 a2 a3 len3 cap3 z3 W w0 w1 w2 w3).mono fun e W' ⟨he, bel⟩ => ?_
  subst he
  exact ⟨_, rfl, _, _, _, [], _, [], hW', trodAll_mk1 (shut_bool Try.underlying4 _), (trodAll_cons_mk (Below.trod laidOut (by kernel_rfl) (of_decide_eq_true (by kernel_rfl)) k0 bel lt0) (trodAll_cons_mk (shut_int Try.underlying3 w1) (trodAll_cons_mk (shut_string Try.underlying9 w2) (trodAll_cons_mk (Below.trod laidOut (by kernel_rfl) (of_decide_eq_true (by kernel_rfl)) k3 bel lt3) trodAll_mk0)))), rfl, bel.frame _, fun h => by cases h⟩

theorem over : Rows.wireRoundTripRow.holds Try.pinned (OpenSpec.ofChange Rows.wireRoundTripSpec) :=
  OpenClaim.holds_of_wide 13 Try.f13 rfl rfl rfl rfl rfl rfl rfl ⟨rfl, rfl, rfl, rfl, rfl⟩ rfl rfl rfl rfl rfl (by kernel_rfl) Try.func13 (by kernel_rfl)
    (of_decide_eq_true (by kernel_rfl)) (by unfold Func.isWrapper; first | (rw [if_pos (by decide +kernel)]; kernel_rfl) | (rw [if_neg (by decide +kernel)]; exact ⟨rfl, rfl⟩))
    (fun os started H enc _ => lifted os started H enc)

/-- THE STATEMENT. -/
theorem proved : Rows.WireRoundTripSaid := over
#print axioms proved
end Go.Proofs.Ytdgifbnnjoeddaa.wireRoundTrip
