/-
  No cell of these rows narrows 'for every input' (looked for: loops, veiled, ifaces, maps, wideKeys, modest, calm, conditions, laid).
  DERIVED. THE GIVEN ROWS OF THIS SEAT. 8 by the template 'for every input the law returns true; each argument reads behind the call as it read before'; 0 by the template 'total and deterministic' (their statements: YtfhcaikfbfoopaaTotals.lean).
  GIVEN WITH THE SEED: the statements are not yours to turn. If you find one false, say at which input.
  Laid BY PROGRAM, IN A SANDBOX (cutbox-rows.mjs): the forced cells as the released guide's own fill.sh prints them over the translation b24974bc37c4bde5… (all of the seat's roots in one cut). By AI agents, Wed Nov 11 2026. No macro, syntax, notation, axiom, sorry.
-/
import Derived.Test.YtfhcaikfbfoopaaChecked
import GoSem.Claim
import GoSem.ClaimJoined
import GoSem.ClaimMapViews
import Derived.JoinedTies
import Derived.KernelRfl
namespace Go.Proofs.Ytfhcaikfbfoopaa
/- THE CELL 'sum', in the pinned program and in every row, IS THE sha256 OF THE DUMP (.gsa) THAT YtfhcaikfbfoopaaProg.lean LOADS. Nothing in Lean hashes anything: it is a label: what it is worth is what the hold of that sum in a sandbox is worth. -/
noncomputable def Try.pinned : Pinned := { name := "ytfhcaikfbfoopaa", sum := "b24974bc37c4bde5396bab4a92f336cd7a9e4f9f7f126f086e90ab7f3b0a3061", checked := Try.checked }
namespace Rows
def none {H : Type} : Left H := { results := [], args := [] }

/-- 'bikesharelaw04.WirePuts': WHATEVER THE INPUT: true; the input reads as it did. -/
def wirePutsSpec : ChangeSpec := { name := "wirePuts", fn := fun _ => fun
  | [d1, d2, d3, d4] => { results := [.lit (.bool true)], args := [d1, d2, d3, d4] }
  | _ => none }
def wirePutsRow : OpenClaim := { program := "ytfhcaikfbfoopaa", sum := "b24974bc37c4bde5396bab4a92f336cd7a9e4f9f7f126f086e90ab7f3b0a3061", func := "bikeshare/bikesharelaw04.WirePuts", spec := "wirePuts", apart := false }
def WirePutsSaid : Prop := wirePutsRow.holds Try.pinned (OpenSpec.ofChange wirePutsSpec)

/-- ITS FALSE NEIGHBOUR: 'it returns false'. Refute it at one input. -/
def wirePutsWrong : ChangeSpec := { name := "wirePuts", fn := fun _ => fun
  | [d1, d2, d3, d4] => { results := [.lit (.bool false)], args := [d1, d2, d3, d4] }
  | _ => none }
def WirePutsWrongFalsely : Prop := wirePutsRow.holds Try.pinned (OpenSpec.ofChange wirePutsWrong)

/-- 'bikesharelaw12.LinkSends': WHATEVER THE INPUT: true; the input reads as it did. -/
def linkSendsSpec : ChangeSpec := { name := "linkSends", fn := fun _ => fun
  | [d] => { results := [.lit (.bool true)], args := [d] }
  | _ => none }
def linkSendsRow : OpenClaim := { program := "ytfhcaikfbfoopaa", sum := "b24974bc37c4bde5396bab4a92f336cd7a9e4f9f7f126f086e90ab7f3b0a3061", func := "bikeshare/bikesharelaw12.LinkSends", spec := "linkSends", apart := false }
def LinkSendsSaid : Prop := linkSendsRow.holds Try.pinned (OpenSpec.ofChange linkSendsSpec)

/-- ITS FALSE NEIGHBOUR: 'it returns false'. Refute it at one input. -/
def linkSendsWrong : ChangeSpec := { name := "linkSends", fn := fun _ => fun
  | [d] => { results := [.lit (.bool false)], args := [d] }
  | _ => none }
def LinkSendsWrongFalsely : Prop := linkSendsRow.holds Try.pinned (OpenSpec.ofChange linkSendsWrong)

/-- 'bikesharelaw12.LinkTakes': WHATEVER THE INPUT: true; the input reads as it did. -/
def linkTakesSpec : ChangeSpec := { name := "linkTakes", fn := fun _ => fun
  | [d] => { results := [.lit (.bool true)], args := [d] }
  | _ => none }
def linkTakesRow : OpenClaim := { program := "ytfhcaikfbfoopaa", sum := "b24974bc37c4bde5396bab4a92f336cd7a9e4f9f7f126f086e90ab7f3b0a3061", func := "bikeshare/bikesharelaw12.LinkTakes", spec := "linkTakes", apart := false }
def LinkTakesSaid : Prop := linkTakesRow.holds Try.pinned (OpenSpec.ofChange linkTakesSpec)

/-- ITS FALSE NEIGHBOUR: 'it returns false'. Refute it at one input. -/
def linkTakesWrong : ChangeSpec := { name := "linkTakes", fn := fun _ => fun
  | [d] => { results := [.lit (.bool false)], args := [d] }
  | _ => none }
def LinkTakesWrongFalsely : Prop := linkTakesRow.holds Try.pinned (OpenSpec.ofChange linkTakesWrong)

/-- 'bikesharelaw12.LinkOnce': WHATEVER THE INPUT: true; the input reads as it did. -/
def linkOnceSpec : ChangeSpec := { name := "linkOnce", fn := fun _ => fun
  | [d] => { results := [.lit (.bool true)], args := [d] }
  | _ => none }
def linkOnceRow : OpenClaim := { program := "ytfhcaikfbfoopaa", sum := "b24974bc37c4bde5396bab4a92f336cd7a9e4f9f7f126f086e90ab7f3b0a3061", func := "bikeshare/bikesharelaw12.LinkOnce", spec := "linkOnce", apart := false }
def LinkOnceSaid : Prop := linkOnceRow.holds Try.pinned (OpenSpec.ofChange linkOnceSpec)

/-- ITS FALSE NEIGHBOUR: 'it returns false'. Refute it at one input. -/
def linkOnceWrong : ChangeSpec := { name := "linkOnce", fn := fun _ => fun
  | [d] => { results := [.lit (.bool false)], args := [d] }
  | _ => none }
def LinkOnceWrongFalsely : Prop := linkOnceRow.holds Try.pinned (OpenSpec.ofChange linkOnceWrong)

/-- 'bikesharelaw12.LinkArrives': WHATEVER THE INPUT: true; the input reads as it did. -/
def linkArrivesSpec : ChangeSpec := { name := "linkArrives", fn := fun _ => fun
  | [d1, d2] => { results := [.lit (.bool true)], args := [d1, d2] }
  | _ => none }
def linkArrivesRow : OpenClaim := { program := "ytfhcaikfbfoopaa", sum := "b24974bc37c4bde5396bab4a92f336cd7a9e4f9f7f126f086e90ab7f3b0a3061", func := "bikeshare/bikesharelaw12.LinkArrives", spec := "linkArrives", apart := false }
def LinkArrivesSaid : Prop := linkArrivesRow.holds Try.pinned (OpenSpec.ofChange linkArrivesSpec)

/-- ITS FALSE NEIGHBOUR: 'it returns false'. Refute it at one input. -/
def linkArrivesWrong : ChangeSpec := { name := "linkArrives", fn := fun _ => fun
  | [d1, d2] => { results := [.lit (.bool false)], args := [d1, d2] }
  | _ => none }
def LinkArrivesWrongFalsely : Prop := linkArrivesRow.holds Try.pinned (OpenSpec.ofChange linkArrivesWrong)

/-- 'bikesharelaw12.LinkOrders': WHATEVER THE INPUT: true; the input reads as it did. -/
def linkOrdersSpec : ChangeSpec := { name := "linkOrders", fn := fun _ => fun
  | [d1, d2] => { results := [.lit (.bool true)], args := [d1, d2] }
  | _ => none }
def linkOrdersRow : OpenClaim := { program := "ytfhcaikfbfoopaa", sum := "b24974bc37c4bde5396bab4a92f336cd7a9e4f9f7f126f086e90ab7f3b0a3061", func := "bikeshare/bikesharelaw12.LinkOrders", spec := "linkOrders", apart := false }
def LinkOrdersSaid : Prop := linkOrdersRow.holds Try.pinned (OpenSpec.ofChange linkOrdersSpec)

/-- ITS FALSE NEIGHBOUR: 'it returns false'. Refute it at one input. -/
def linkOrdersWrong : ChangeSpec := { name := "linkOrders", fn := fun _ => fun
  | [d1, d2] => { results := [.lit (.bool false)], args := [d1, d2] }
  | _ => none }
def LinkOrdersWrongFalsely : Prop := linkOrdersRow.holds Try.pinned (OpenSpec.ofChange linkOrdersWrong)

/-- 'bikesharelaw12.LinkBodies': WHATEVER THE INPUT: true; the input reads as it did. -/
def linkBodiesSpec : ChangeSpec := { name := "linkBodies", fn := fun _ => fun
  | [d] => { results := [.lit (.bool true)], args := [d] }
  | _ => none }
def linkBodiesRow : OpenClaim := { program := "ytfhcaikfbfoopaa", sum := "b24974bc37c4bde5396bab4a92f336cd7a9e4f9f7f126f086e90ab7f3b0a3061", func := "bikeshare/bikesharelaw12.LinkBodies", spec := "linkBodies", apart := false }
def LinkBodiesSaid : Prop := linkBodiesRow.holds Try.pinned (OpenSpec.ofChange linkBodiesSpec)

/-- ITS FALSE NEIGHBOUR: 'it returns false'. Refute it at one input. -/
def linkBodiesWrong : ChangeSpec := { name := "linkBodies", fn := fun _ => fun
  | [d] => { results := [.lit (.bool false)], args := [d] }
  | _ => none }
def LinkBodiesWrongFalsely : Prop := linkBodiesRow.holds Try.pinned (OpenSpec.ofChange linkBodiesWrong)

/-- 'bikesharelaw12.LinkNil': WHATEVER THE INPUT: true; the input reads as it did. -/
def linkNilSpec : ChangeSpec := { name := "linkNil", fn := fun _ => fun
  | [d1, d2] => { results := [.lit (.bool true)], args := [d1, d2] }
  | _ => none }
def linkNilRow : OpenClaim := { program := "ytfhcaikfbfoopaa", sum := "b24974bc37c4bde5396bab4a92f336cd7a9e4f9f7f126f086e90ab7f3b0a3061", func := "bikeshare/bikesharelaw12.LinkNil", spec := "linkNil", apart := false }
def LinkNilSaid : Prop := linkNilRow.holds Try.pinned (OpenSpec.ofChange linkNilSpec)

/-- ITS FALSE NEIGHBOUR: 'it returns false'. Refute it at one input. -/
def linkNilWrong : ChangeSpec := { name := "linkNil", fn := fun _ => fun
  | [d1, d2] => { results := [.lit (.bool false)], args := [d1, d2] }
  | _ => none }
def LinkNilWrongFalsely : Prop := linkNilRow.holds Try.pinned (OpenSpec.ofChange linkNilWrong)

/- THE SECOND FORM. 'bulk': how many values and letters a reading holds, each counted each time it is reached (what is shared counts as often as it is met; a slice's spare places count too). A statement '..UptoSaid' is the law's where the arguments, and the package variables that the reading takes, are together of bulk at most 1048576: NARROWER than '..Said'. Prove '..Said' where nothing that the law and all that it calls make is longer than what came in: it says more and counts as full. Else prove '..UptoSaid'. A law counts once. -/
mutual
def uptoBulk {H : Type} : DataW H → Nat
  | .lit (.string bytes) => bytes.length + 1
  | .lit _ => 1
  | .nil => 1
  | .ptr d => uptoBulk d + 1
  | .slice elems spare => uptoBulkAll elems + uptoBulkAll spare + 1
  | .agg parts => uptoBulkAll parts + 1
  | .iface _ d => uptoBulk d + 1
  | .map entries => uptoBulkEntries entries + 1
  | .held _ => 1
def uptoBulkAll {H : Type} : List (DataW H) → Nat
  | [] => 0
  | d :: r => uptoBulk d + uptoBulkAll r
def uptoBulkEntries {H : Type} : List (Lit × DataW H) → Nat
  | [] => 0
  | x :: r => uptoBulkEntry x + uptoBulkEntries r
def uptoBulkEntry {H : Type} : Lit × DataW H → Nat
  | (.string bytes, d) => bytes.length + uptoBulk d + 1
  | (_, d) => uptoBulk d + 1
 end
def uptoSmall : (H : Type) → List (DataW H) → Bool := fun _ ds => decide (uptoBulkAll ds ≤ 1048576)
def OpenSpec.upto (s : _root_.Go.ChangeSpec) : _root_.Go.OpenSpec := { _root_.Go.OpenSpec.ofChange s with cond := some uptoSmall }

/-- 'bikesharelaw04.WirePuts', WHERE WHAT IT READS IS OF BULK AT MOST 1048576: true; the input reads as it did. -/
def wirePutsUptoRow : OpenClaim := { program := "ytfhcaikfbfoopaa", sum := "b24974bc37c4bde5396bab4a92f336cd7a9e4f9f7f126f086e90ab7f3b0a3061", func := "bikeshare/bikesharelaw04.WirePuts", spec := "wirePuts", apart := false, narrowed := true }
def WirePutsUptoSaid : Prop := wirePutsUptoRow.holds Try.pinned (OpenSpec.upto wirePutsSpec)

/-- 'bikesharelaw12.LinkSends', WHERE WHAT IT READS IS OF BULK AT MOST 1048576: true; the input reads as it did. -/
def linkSendsUptoRow : OpenClaim := { program := "ytfhcaikfbfoopaa", sum := "b24974bc37c4bde5396bab4a92f336cd7a9e4f9f7f126f086e90ab7f3b0a3061", func := "bikeshare/bikesharelaw12.LinkSends", spec := "linkSends", apart := false, narrowed := true }
def LinkSendsUptoSaid : Prop := linkSendsUptoRow.holds Try.pinned (OpenSpec.upto linkSendsSpec)

/-- 'bikesharelaw12.LinkTakes', WHERE WHAT IT READS IS OF BULK AT MOST 1048576: true; the input reads as it did. -/
def linkTakesUptoRow : OpenClaim := { program := "ytfhcaikfbfoopaa", sum := "b24974bc37c4bde5396bab4a92f336cd7a9e4f9f7f126f086e90ab7f3b0a3061", func := "bikeshare/bikesharelaw12.LinkTakes", spec := "linkTakes", apart := false, narrowed := true }
def LinkTakesUptoSaid : Prop := linkTakesUptoRow.holds Try.pinned (OpenSpec.upto linkTakesSpec)

/-- 'bikesharelaw12.LinkOnce', WHERE WHAT IT READS IS OF BULK AT MOST 1048576: true; the input reads as it did. -/
def linkOnceUptoRow : OpenClaim := { program := "ytfhcaikfbfoopaa", sum := "b24974bc37c4bde5396bab4a92f336cd7a9e4f9f7f126f086e90ab7f3b0a3061", func := "bikeshare/bikesharelaw12.LinkOnce", spec := "linkOnce", apart := false, narrowed := true }
def LinkOnceUptoSaid : Prop := linkOnceUptoRow.holds Try.pinned (OpenSpec.upto linkOnceSpec)

/-- 'bikesharelaw12.LinkArrives', WHERE WHAT IT READS IS OF BULK AT MOST 1048576: true; the input reads as it did. -/
def linkArrivesUptoRow : OpenClaim := { program := "ytfhcaikfbfoopaa", sum := "b24974bc37c4bde5396bab4a92f336cd7a9e4f9f7f126f086e90ab7f3b0a3061", func := "bikeshare/bikesharelaw12.LinkArrives", spec := "linkArrives", apart := false, narrowed := true }
def LinkArrivesUptoSaid : Prop := linkArrivesUptoRow.holds Try.pinned (OpenSpec.upto linkArrivesSpec)

/-- 'bikesharelaw12.LinkOrders', WHERE WHAT IT READS IS OF BULK AT MOST 1048576: true; the input reads as it did. -/
def linkOrdersUptoRow : OpenClaim := { program := "ytfhcaikfbfoopaa", sum := "b24974bc37c4bde5396bab4a92f336cd7a9e4f9f7f126f086e90ab7f3b0a3061", func := "bikeshare/bikesharelaw12.LinkOrders", spec := "linkOrders", apart := false, narrowed := true }
def LinkOrdersUptoSaid : Prop := linkOrdersUptoRow.holds Try.pinned (OpenSpec.upto linkOrdersSpec)

/-- 'bikesharelaw12.LinkBodies', WHERE WHAT IT READS IS OF BULK AT MOST 1048576: true; the input reads as it did. -/
def linkBodiesUptoRow : OpenClaim := { program := "ytfhcaikfbfoopaa", sum := "b24974bc37c4bde5396bab4a92f336cd7a9e4f9f7f126f086e90ab7f3b0a3061", func := "bikeshare/bikesharelaw12.LinkBodies", spec := "linkBodies", apart := false, narrowed := true }
def LinkBodiesUptoSaid : Prop := linkBodiesUptoRow.holds Try.pinned (OpenSpec.upto linkBodiesSpec)

/-- 'bikesharelaw12.LinkNil', WHERE WHAT IT READS IS OF BULK AT MOST 1048576: true; the input reads as it did. -/
def linkNilUptoRow : OpenClaim := { program := "ytfhcaikfbfoopaa", sum := "b24974bc37c4bde5396bab4a92f336cd7a9e4f9f7f126f086e90ab7f3b0a3061", func := "bikeshare/bikesharelaw12.LinkNil", spec := "linkNil", apart := false, narrowed := true }
def LinkNilUptoSaid : Prop := linkNilUptoRow.holds Try.pinned (OpenSpec.upto linkNilSpec)

end Rows
end Go.Proofs.Ytfhcaikfbfoopaa
