/-
  No cell of these rows narrows 'for every input' (looked for: loops, veiled, ifaces, maps, wideKeys, modest, calm, conditions, laid).
  DERIVED. THE GIVEN ROWS OF THIS SEAT. 7 by the template 'for every input the law returns true; each argument reads behind the call as it read before'; 0 by the template 'total and deterministic' (their statements: YtomilmaeiokaaaaTotals.lean).
  GIVEN WITH THE SEED: the statements are not yours to turn. If you find one false, say at which input.
  Laid BY PROGRAM, IN A SANDBOX (cutbox-rows.mjs): the forced cells as the released guide's own fill.sh prints them over the translation 904d0bcd19f4a024… (all of the seat's roots in one cut). By AI agents, Wed Nov 11 2026. No macro, syntax, notation, axiom, sorry.
-/
import Derived.Test.YtomilmaeiokaaaaChecked
import GoSem.Claim
import GoSem.ClaimJoined
import GoSem.ClaimMapViews
import Derived.JoinedTies
import Derived.KernelRfl
namespace Go.Proofs.Ytomilmaeiokaaaa
/- THE CELL 'sum', in the pinned program and in every row, IS THE sha256 OF THE DUMP (.gsa) THAT YtomilmaeiokaaaaProg.lean LOADS. Nothing in Lean hashes anything: it is a label: what it is worth is what the hold of that sum in a sandbox is worth. -/
noncomputable def Try.pinned : Pinned := { name := "ytomilmaeiokaaaa", sum := "904d0bcd19f4a024101d7b42a4c26b19af9ea234ab1804a97ea8cd5df02c88a3", checked := Try.checked }
namespace Rows
def none {H : Type} : Left H := { results := [], args := [] }

/-- 'bikesharelaw04.WirePuts': WHATEVER THE INPUT: true; the input reads as it did. -/
def wirePutsSpec : ChangeSpec := { name := "wirePuts", fn := fun _ => fun
  | [d1, d2, d3, d4] => { results := [.lit (.bool true)], args := [d1, d2, d3, d4] }
  | _ => none }
def wirePutsRow : OpenClaim := { program := "ytomilmaeiokaaaa", sum := "904d0bcd19f4a024101d7b42a4c26b19af9ea234ab1804a97ea8cd5df02c88a3", func := "bikeshare/bikesharelaw04.WirePuts", spec := "wirePuts", apart := false }
def WirePutsSaid : Prop := wirePutsRow.holds Try.pinned (OpenSpec.ofChange wirePutsSpec)

/-- ITS FALSE NEIGHBOUR: 'it returns false'. Refute it at one input. -/
def wirePutsWrong : ChangeSpec := { name := "wirePuts", fn := fun _ => fun
  | [d1, d2, d3, d4] => { results := [.lit (.bool false)], args := [d1, d2, d3, d4] }
  | _ => none }
def WirePutsWrongFalsely : Prop := wirePutsRow.holds Try.pinned (OpenSpec.ofChange wirePutsWrong)

/-- 'bikesharelaw15.TokenChecks': WHATEVER THE INPUT: true; the input reads as it did. -/
def tokenChecksSpec : ChangeSpec := { name := "tokenChecks", fn := fun _ => fun
  | [d1, d2] => { results := [.lit (.bool true)], args := [d1, d2] }
  | _ => none }
def tokenChecksRow : OpenClaim := { program := "ytomilmaeiokaaaa", sum := "904d0bcd19f4a024101d7b42a4c26b19af9ea234ab1804a97ea8cd5df02c88a3", func := "bikeshare/bikesharelaw15.TokenChecks", spec := "tokenChecks", unfollowed := true, recurses := true, apart := false }
def TokenChecksSaid : Prop := tokenChecksRow.holds Try.pinned (OpenSpec.ofChange tokenChecksSpec)

/-- ITS FALSE NEIGHBOUR: 'it returns false'. Refute it at one input. -/
def tokenChecksWrong : ChangeSpec := { name := "tokenChecks", fn := fun _ => fun
  | [d1, d2] => { results := [.lit (.bool false)], args := [d1, d2] }
  | _ => none }
def TokenChecksWrongFalsely : Prop := tokenChecksRow.holds Try.pinned (OpenSpec.ofChange tokenChecksWrong)

/-- 'bikesharelaw15.TokenUses': WHATEVER THE INPUT: true; the input reads as it did. -/
def tokenUsesSpec : ChangeSpec := { name := "tokenUses", fn := fun _ => fun
  | [d1, d2, d3, d4, d5] => { results := [.lit (.bool true)], args := [d1, d2, d3, d4, d5] }
  | _ => none }
def tokenUsesRow : OpenClaim := { program := "ytomilmaeiokaaaa", sum := "904d0bcd19f4a024101d7b42a4c26b19af9ea234ab1804a97ea8cd5df02c88a3", func := "bikeshare/bikesharelaw15.TokenUses", spec := "tokenUses", unfollowed := true, recurses := true, apart := false }
def TokenUsesSaid : Prop := tokenUsesRow.holds Try.pinned (OpenSpec.ofChange tokenUsesSpec)

/-- ITS FALSE NEIGHBOUR: 'it returns false'. Refute it at one input. -/
def tokenUsesWrong : ChangeSpec := { name := "tokenUses", fn := fun _ => fun
  | [d1, d2, d3, d4, d5] => { results := [.lit (.bool false)], args := [d1, d2, d3, d4, d5] }
  | _ => none }
def TokenUsesWrongFalsely : Prop := tokenUsesRow.holds Try.pinned (OpenSpec.ofChange tokenUsesWrong)

/-- 'bikesharelaw15.TokenOnce': WHATEVER THE INPUT: true; the input reads as it did. -/
def tokenOnceSpec : ChangeSpec := { name := "tokenOnce", fn := fun _ => fun
  | [d1, d2, d3, d4] => { results := [.lit (.bool true)], args := [d1, d2, d3, d4] }
  | _ => none }
def tokenOnceRow : OpenClaim := { program := "ytomilmaeiokaaaa", sum := "904d0bcd19f4a024101d7b42a4c26b19af9ea234ab1804a97ea8cd5df02c88a3", func := "bikeshare/bikesharelaw15.TokenOnce", spec := "tokenOnce", unfollowed := true, recurses := true, apart := false }
def TokenOnceSaid : Prop := tokenOnceRow.holds Try.pinned (OpenSpec.ofChange tokenOnceSpec)

/-- ITS FALSE NEIGHBOUR: 'it returns false'. Refute it at one input. -/
def tokenOnceWrong : ChangeSpec := { name := "tokenOnce", fn := fun _ => fun
  | [d1, d2, d3, d4] => { results := [.lit (.bool false)], args := [d1, d2, d3, d4] }
  | _ => none }
def TokenOnceWrongFalsely : Prop := tokenOnceRow.holds Try.pinned (OpenSpec.ofChange tokenOnceWrong)

/-- 'bikesharelaw15.TokenIssues': WHATEVER THE INPUT: true; the input reads as it did. -/
def tokenIssuesSpec : ChangeSpec := { name := "tokenIssues", fn := fun _ => fun
  | [d1, d2, d3] => { results := [.lit (.bool true)], args := [d1, d2, d3] }
  | _ => none }
def tokenIssuesRow : OpenClaim := { program := "ytomilmaeiokaaaa", sum := "904d0bcd19f4a024101d7b42a4c26b19af9ea234ab1804a97ea8cd5df02c88a3", func := "bikeshare/bikesharelaw15.TokenIssues", spec := "tokenIssues", unfollowed := true, recurses := true, apart := false }
def TokenIssuesSaid : Prop := tokenIssuesRow.holds Try.pinned (OpenSpec.ofChange tokenIssuesSpec)

/-- ITS FALSE NEIGHBOUR: 'it returns false'. Refute it at one input. -/
def tokenIssuesWrong : ChangeSpec := { name := "tokenIssues", fn := fun _ => fun
  | [d1, d2, d3] => { results := [.lit (.bool false)], args := [d1, d2, d3] }
  | _ => none }
def TokenIssuesWrongFalsely : Prop := tokenIssuesRow.holds Try.pinned (OpenSpec.ofChange tokenIssuesWrong)

/-- 'bikesharelaw15.TokenTexts': WHATEVER THE INPUT: true; the input reads as it did. -/
def tokenTextsSpec : ChangeSpec := { name := "tokenTexts", fn := fun _ => fun
  | [d1, d2] => { results := [.lit (.bool true)], args := [d1, d2] }
  | _ => none }
def tokenTextsRow : OpenClaim := { program := "ytomilmaeiokaaaa", sum := "904d0bcd19f4a024101d7b42a4c26b19af9ea234ab1804a97ea8cd5df02c88a3", func := "bikeshare/bikesharelaw15.TokenTexts", spec := "tokenTexts", unfollowed := true, recurses := true, apart := false }
def TokenTextsSaid : Prop := tokenTextsRow.holds Try.pinned (OpenSpec.ofChange tokenTextsSpec)

/-- ITS FALSE NEIGHBOUR: 'it returns false'. Refute it at one input. -/
def tokenTextsWrong : ChangeSpec := { name := "tokenTexts", fn := fun _ => fun
  | [d1, d2] => { results := [.lit (.bool false)], args := [d1, d2] }
  | _ => none }
def TokenTextsWrongFalsely : Prop := tokenTextsRow.holds Try.pinned (OpenSpec.ofChange tokenTextsWrong)

/-- 'bikesharelaw15.TokenBack': WHATEVER THE INPUT: true; the input reads as it did. -/
def tokenBackSpec : ChangeSpec := { name := "tokenBack", fn := fun _ => fun
  | [d1, d2] => { results := [.lit (.bool true)], args := [d1, d2] }
  | _ => none }
def tokenBackRow : OpenClaim := { program := "ytomilmaeiokaaaa", sum := "904d0bcd19f4a024101d7b42a4c26b19af9ea234ab1804a97ea8cd5df02c88a3", func := "bikeshare/bikesharelaw15.TokenBack", spec := "tokenBack", unfollowed := true, recurses := true, apart := false }
def TokenBackSaid : Prop := tokenBackRow.holds Try.pinned (OpenSpec.ofChange tokenBackSpec)

/-- ITS FALSE NEIGHBOUR: 'it returns false'. Refute it at one input. -/
def tokenBackWrong : ChangeSpec := { name := "tokenBack", fn := fun _ => fun
  | [d1, d2] => { results := [.lit (.bool false)], args := [d1, d2] }
  | _ => none }
def TokenBackWrongFalsely : Prop := tokenBackRow.holds Try.pinned (OpenSpec.ofChange tokenBackWrong)

/- THE SECOND FORM. 'bulk': how many values and letters a reading holds, each counted each time it is reached (what is shared counts as often as it is met; a slice's spare places count too). A statement '..UptoSaid' is the law's where the arguments, and the package variables that the reading takes, are together of bulk at most 1048576: NARROWER than '..Said'. Prove '..Said' where nothing that the law and all that it calls make is longer than what came in: it says more and counts as full. Else prove '..UptoSaid'. A law counts once. -/
mutual
def uptoBulk {H : Type} : DataW H → Nat
  | .lit (.string bytes) => bytes.length + 1
  | .lit _ => 1
  | .nil => 1
  | .ptr d => uptoBulk d + 1
  | .slice elems spare => uptoBulkAll elems + uptoBulkAll spare + 1
  | .agg parts => uptoBulkAll parts + 1
  | .iface _ d => uptoBulk d + 1
  | .map entries => uptoBulkEntries entries + 1
  | .held _ => 1
def uptoBulkAll {H : Type} : List (DataW H) → Nat
  | [] => 0
  | d :: r => uptoBulk d + uptoBulkAll r
def uptoBulkEntries {H : Type} : List (Lit × DataW H) → Nat
  | [] => 0
  | x :: r => uptoBulkEntry x + uptoBulkEntries r
def uptoBulkEntry {H : Type} : Lit × DataW H → Nat
  | (.string bytes, d) => bytes.length + uptoBulk d + 1
  | (_, d) => uptoBulk d + 1
 end
def uptoSmall : (H : Type) → List (DataW H) → Bool := fun _ ds => decide (uptoBulkAll ds ≤ 1048576)
def OpenSpec.upto (s : _root_.Go.ChangeSpec) : _root_.Go.OpenSpec := { _root_.Go.OpenSpec.ofChange s with cond := some uptoSmall }

/-- 'bikesharelaw04.WirePuts', WHERE WHAT IT READS IS OF BULK AT MOST 1048576: true; the input reads as it did. -/
def wirePutsUptoRow : OpenClaim := { program := "ytomilmaeiokaaaa", sum := "904d0bcd19f4a024101d7b42a4c26b19af9ea234ab1804a97ea8cd5df02c88a3", func := "bikeshare/bikesharelaw04.WirePuts", spec := "wirePuts", apart := false, narrowed := true }
def WirePutsUptoSaid : Prop := wirePutsUptoRow.holds Try.pinned (OpenSpec.upto wirePutsSpec)

/-- 'bikesharelaw15.TokenChecks', WHERE WHAT IT READS IS OF BULK AT MOST 1048576: true; the input reads as it did. -/
def tokenChecksUptoRow : OpenClaim := { program := "ytomilmaeiokaaaa", sum := "904d0bcd19f4a024101d7b42a4c26b19af9ea234ab1804a97ea8cd5df02c88a3", func := "bikeshare/bikesharelaw15.TokenChecks", spec := "tokenChecks", unfollowed := true, recurses := true, apart := false, narrowed := true }
def TokenChecksUptoSaid : Prop := tokenChecksUptoRow.holds Try.pinned (OpenSpec.upto tokenChecksSpec)

/-- 'bikesharelaw15.TokenUses', WHERE WHAT IT READS IS OF BULK AT MOST 1048576: true; the input reads as it did. -/
def tokenUsesUptoRow : OpenClaim := { program := "ytomilmaeiokaaaa", sum := "904d0bcd19f4a024101d7b42a4c26b19af9ea234ab1804a97ea8cd5df02c88a3", func := "bikeshare/bikesharelaw15.TokenUses", spec := "tokenUses", unfollowed := true, recurses := true, apart := false, narrowed := true }
def TokenUsesUptoSaid : Prop := tokenUsesUptoRow.holds Try.pinned (OpenSpec.upto tokenUsesSpec)

/-- 'bikesharelaw15.TokenOnce', WHERE WHAT IT READS IS OF BULK AT MOST 1048576: true; the input reads as it did. -/
def tokenOnceUptoRow : OpenClaim := { program := "ytomilmaeiokaaaa", sum := "904d0bcd19f4a024101d7b42a4c26b19af9ea234ab1804a97ea8cd5df02c88a3", func := "bikeshare/bikesharelaw15.TokenOnce", spec := "tokenOnce", unfollowed := true, recurses := true, apart := false, narrowed := true }
def TokenOnceUptoSaid : Prop := tokenOnceUptoRow.holds Try.pinned (OpenSpec.upto tokenOnceSpec)

/-- 'bikesharelaw15.TokenIssues', WHERE WHAT IT READS IS OF BULK AT MOST 1048576: true; the input reads as it did. -/
def tokenIssuesUptoRow : OpenClaim := { program := "ytomilmaeiokaaaa", sum := "904d0bcd19f4a024101d7b42a4c26b19af9ea234ab1804a97ea8cd5df02c88a3", func := "bikeshare/bikesharelaw15.TokenIssues", spec := "tokenIssues", unfollowed := true, recurses := true, apart := false, narrowed := true }
def TokenIssuesUptoSaid : Prop := tokenIssuesUptoRow.holds Try.pinned (OpenSpec.upto tokenIssuesSpec)

/-- 'bikesharelaw15.TokenTexts', WHERE WHAT IT READS IS OF BULK AT MOST 1048576: true; the input reads as it did. -/
def tokenTextsUptoRow : OpenClaim := { program := "ytomilmaeiokaaaa", sum := "904d0bcd19f4a024101d7b42a4c26b19af9ea234ab1804a97ea8cd5df02c88a3", func := "bikeshare/bikesharelaw15.TokenTexts", spec := "tokenTexts", unfollowed := true, recurses := true, apart := false, narrowed := true }
def TokenTextsUptoSaid : Prop := tokenTextsUptoRow.holds Try.pinned (OpenSpec.upto tokenTextsSpec)

/-- 'bikesharelaw15.TokenBack', WHERE WHAT IT READS IS OF BULK AT MOST 1048576: true; the input reads as it did. -/
def tokenBackUptoRow : OpenClaim := { program := "ytomilmaeiokaaaa", sum := "904d0bcd19f4a024101d7b42a4c26b19af9ea234ab1804a97ea8cd5df02c88a3", func := "bikeshare/bikesharelaw15.TokenBack", spec := "tokenBack", unfollowed := true, recurses := true, apart := false, narrowed := true }
def TokenBackUptoSaid : Prop := tokenBackUptoRow.holds Try.pinned (OpenSpec.upto tokenBackSpec)

end Rows
end Go.Proofs.Ytomilmaeiokaaaa
