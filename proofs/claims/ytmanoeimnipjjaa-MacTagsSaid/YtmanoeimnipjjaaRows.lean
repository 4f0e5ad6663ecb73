/-
  No cell of these rows narrows 'for every input' (looked for: loops, veiled, ifaces, maps, wideKeys, modest, calm, conditions, laid).
  DERIVED. THE GIVEN ROWS OF THIS SEAT. 17 by the template 'for every input the law returns true; each argument reads behind the call as it read before'; 0 by the template 'total and deterministic' (their statements: YtmanoeimnipjjaaTotals.lean).
  GIVEN WITH THE SEED: the statements are not yours to turn. If you find one false, say at which input.
  Laid BY PROGRAM, IN A SANDBOX (cutbox-rows.mjs): the forced cells as the released guide's own fill.sh prints them over the translation 0e6744e144f22405… (all of the seat's roots in one cut). By AI agents, Wed Nov 11 2026. No macro, syntax, notation, axiom, sorry.
-/
import Derived.Test.YtmanoeimnipjjaaChecked
import GoSem.Claim
import GoSem.ClaimJoined
import GoSem.ClaimMapViews
import Derived.JoinedTies
import Derived.KernelRfl
namespace Go.Proofs.Ytmanoeimnipjjaa
/- THE CELL 'sum', in the pinned program and in every row, IS THE sha256 OF THE DUMP (.gsa) THAT YtmanoeimnipjjaaProg.lean LOADS. Nothing in Lean hashes anything: it is a label: what it is worth is what the hold of that sum in a sandbox is worth. -/
noncomputable def Try.pinned : Pinned := { name := "ytmanoeimnipjjaa", sum := "0e6744e144f22405044433762d96aab55cb4714fd22787a3627258ed62253216", checked := Try.checked }
namespace Rows
def none {H : Type} : Left H := { results := [], args := [] }

/-- 'bikesharelaw04.WirePuts': WHATEVER THE INPUT: true; the input reads as it did. -/
def wirePutsSpec : ChangeSpec := { name := "wirePuts", fn := fun _ => fun
  | [d1, d2, d3, d4] => { results := [.lit (.bool true)], args := [d1, d2, d3, d4] }
  | _ => none }
def wirePutsRow : OpenClaim := { program := "ytmanoeimnipjjaa", sum := "0e6744e144f22405044433762d96aab55cb4714fd22787a3627258ed62253216", func := "bikeshare/bikesharelaw04.WirePuts", spec := "wirePuts", apart := false }
def WirePutsSaid : Prop := wirePutsRow.holds Try.pinned (OpenSpec.ofChange wirePutsSpec)

/-- ITS FALSE NEIGHBOUR: 'it returns false'. Refute it at one input. -/
def wirePutsWrong : ChangeSpec := { name := "wirePuts", fn := fun _ => fun
  | [d1, d2, d3, d4] => { results := [.lit (.bool false)], args := [d1, d2, d3, d4] }
  | _ => none }
def WirePutsWrongFalsely : Prop := wirePutsRow.holds Try.pinned (OpenSpec.ofChange wirePutsWrong)

/-- 'bikesharelaw06.MacTags': WHATEVER THE INPUT: true; the input reads as it did. -/
def macTagsSpec : ChangeSpec := { name := "macTags", fn := fun _ => fun
  | [d1, d2, d3] => { results := [.lit (.bool true)], args := [d1, d2, d3] }
  | _ => none }
def macTagsRow : OpenClaim := { program := "ytmanoeimnipjjaa", sum := "0e6744e144f22405044433762d96aab55cb4714fd22787a3627258ed62253216", func := "bikeshare/bikesharelaw06.MacTags", spec := "macTags", apart := false }
def MacTagsSaid : Prop := macTagsRow.holds Try.pinned (OpenSpec.ofChange macTagsSpec)

/-- ITS FALSE NEIGHBOUR: 'it returns false'. Refute it at one input. -/
def macTagsWrong : ChangeSpec := { name := "macTags", fn := fun _ => fun
  | [d1, d2, d3] => { results := [.lit (.bool false)], args := [d1, d2, d3] }
  | _ => none }
def MacTagsWrongFalsely : Prop := macTagsRow.holds Try.pinned (OpenSpec.ofChange macTagsWrong)

/-- 'bikesharelaw06.MacPlaces': WHATEVER THE INPUT: true; the input reads as it did. -/
def macPlacesSpec : ChangeSpec := { name := "macPlaces", fn := fun _ => fun
  | [d1, d2, d3, d4, d5] => { results := [.lit (.bool true)], args := [d1, d2, d3, d4, d5] }
  | _ => none }
def macPlacesRow : OpenClaim := { program := "ytmanoeimnipjjaa", sum := "0e6744e144f22405044433762d96aab55cb4714fd22787a3627258ed62253216", func := "bikeshare/bikesharelaw06.MacPlaces", spec := "macPlaces", apart := false }
def MacPlacesSaid : Prop := macPlacesRow.holds Try.pinned (OpenSpec.ofChange macPlacesSpec)

/-- ITS FALSE NEIGHBOUR: 'it returns false'. Refute it at one input. -/
def macPlacesWrong : ChangeSpec := { name := "macPlaces", fn := fun _ => fun
  | [d1, d2, d3, d4, d5] => { results := [.lit (.bool false)], args := [d1, d2, d3, d4, d5] }
  | _ => none }
def MacPlacesWrongFalsely : Prop := macPlacesRow.holds Try.pinned (OpenSpec.ofChange macPlacesWrong)

/-- 'bikesharelaw12.LinkSends': WHATEVER THE INPUT: true; the input reads as it did. -/
def linkSendsSpec : ChangeSpec := { name := "linkSends", fn := fun _ => fun
  | [d] => { results := [.lit (.bool true)], args := [d] }
  | _ => none }
def linkSendsRow : OpenClaim := { program := "ytmanoeimnipjjaa", sum := "0e6744e144f22405044433762d96aab55cb4714fd22787a3627258ed62253216", func := "bikeshare/bikesharelaw12.LinkSends", spec := "linkSends", apart := false }
def LinkSendsSaid : Prop := linkSendsRow.holds Try.pinned (OpenSpec.ofChange linkSendsSpec)

/-- ITS FALSE NEIGHBOUR: 'it returns false'. Refute it at one input. -/
def linkSendsWrong : ChangeSpec := { name := "linkSends", fn := fun _ => fun
  | [d] => { results := [.lit (.bool false)], args := [d] }
  | _ => none }
def LinkSendsWrongFalsely : Prop := linkSendsRow.holds Try.pinned (OpenSpec.ofChange linkSendsWrong)

/-- 'bikesharelaw12.LinkTakes': WHATEVER THE INPUT: true; the input reads as it did. -/
def linkTakesSpec : ChangeSpec := { name := "linkTakes", fn := fun _ => fun
  | [d] => { results := [.lit (.bool true)], args := [d] }
  | _ => none }
def linkTakesRow : OpenClaim := { program := "ytmanoeimnipjjaa", sum := "0e6744e144f22405044433762d96aab55cb4714fd22787a3627258ed62253216", func := "bikeshare/bikesharelaw12.LinkTakes", spec := "linkTakes", apart := false }
def LinkTakesSaid : Prop := linkTakesRow.holds Try.pinned (OpenSpec.ofChange linkTakesSpec)

/-- ITS FALSE NEIGHBOUR: 'it returns false'. Refute it at one input. -/
def linkTakesWrong : ChangeSpec := { name := "linkTakes", fn := fun _ => fun
  | [d] => { results := [.lit (.bool false)], args := [d] }
  | _ => none }
def LinkTakesWrongFalsely : Prop := linkTakesRow.holds Try.pinned (OpenSpec.ofChange linkTakesWrong)

/-- 'bikesharelaw12.LinkOnce': WHATEVER THE INPUT: true; the input reads as it did. -/
def linkOnceSpec : ChangeSpec := { name := "linkOnce", fn := fun _ => fun
  | [d] => { results := [.lit (.bool true)], args := [d] }
  | _ => none }
def linkOnceRow : OpenClaim := { program := "ytmanoeimnipjjaa", sum := "0e6744e144f22405044433762d96aab55cb4714fd22787a3627258ed62253216", func := "bikeshare/bikesharelaw12.LinkOnce", spec := "linkOnce", apart := false }
def LinkOnceSaid : Prop := linkOnceRow.holds Try.pinned (OpenSpec.ofChange linkOnceSpec)

/-- ITS FALSE NEIGHBOUR: 'it returns false'. Refute it at one input. -/
def linkOnceWrong : ChangeSpec := { name := "linkOnce", fn := fun _ => fun
  | [d] => { results := [.lit (.bool false)], args := [d] }
  | _ => none }
def LinkOnceWrongFalsely : Prop := linkOnceRow.holds Try.pinned (OpenSpec.ofChange linkOnceWrong)

/-- 'bikesharelaw12.LinkArrives': WHATEVER THE INPUT: true; the input reads as it did. -/
def linkArrivesSpec : ChangeSpec := { name := "linkArrives", fn := fun _ => fun
  | [d1, d2] => { results := [.lit (.bool true)], args := [d1, d2] }
  | _ => none }
def linkArrivesRow : OpenClaim := { program := "ytmanoeimnipjjaa", sum := "0e6744e144f22405044433762d96aab55cb4714fd22787a3627258ed62253216", func := "bikeshare/bikesharelaw12.LinkArrives", spec := "linkArrives", apart := false }
def LinkArrivesSaid : Prop := linkArrivesRow.holds Try.pinned (OpenSpec.ofChange linkArrivesSpec)

/-- ITS FALSE NEIGHBOUR: 'it returns false'. Refute it at one input. -/
def linkArrivesWrong : ChangeSpec := { name := "linkArrives", fn := fun _ => fun
  | [d1, d2] => { results := [.lit (.bool false)], args := [d1, d2] }
  | _ => none }
def LinkArrivesWrongFalsely : Prop := linkArrivesRow.holds Try.pinned (OpenSpec.ofChange linkArrivesWrong)

/-- 'bikesharelaw12.LinkOrders': WHATEVER THE INPUT: true; the input reads as it did. -/
def linkOrdersSpec : ChangeSpec := { name := "linkOrders", fn := fun _ => fun
  | [d1, d2] => { results := [.lit (.bool true)], args := [d1, d2] }
  | _ => none }
def linkOrdersRow : OpenClaim := { program := "ytmanoeimnipjjaa", sum := "0e6744e144f22405044433762d96aab55cb4714fd22787a3627258ed62253216", func := "bikeshare/bikesharelaw12.LinkOrders", spec := "linkOrders", apart := false }
def LinkOrdersSaid : Prop := linkOrdersRow.holds Try.pinned (OpenSpec.ofChange linkOrdersSpec)

/-- ITS FALSE NEIGHBOUR: 'it returns false'. Refute it at one input. -/
def linkOrdersWrong : ChangeSpec := { name := "linkOrders", fn := fun _ => fun
  | [d1, d2] => { results := [.lit (.bool false)], args := [d1, d2] }
  | _ => none }
def LinkOrdersWrongFalsely : Prop := linkOrdersRow.holds Try.pinned (OpenSpec.ofChange linkOrdersWrong)

/-- 'bikesharelaw12.LinkBodies': WHATEVER THE INPUT: true; the input reads as it did. -/
def linkBodiesSpec : ChangeSpec := { name := "linkBodies", fn := fun _ => fun
  | [d] => { results := [.lit (.bool true)], args := [d] }
  | _ => none }
def linkBodiesRow : OpenClaim := { program := "ytmanoeimnipjjaa", sum := "0e6744e144f22405044433762d96aab55cb4714fd22787a3627258ed62253216", func := "bikeshare/bikesharelaw12.LinkBodies", spec := "linkBodies", apart := false }
def LinkBodiesSaid : Prop := linkBodiesRow.holds Try.pinned (OpenSpec.ofChange linkBodiesSpec)

/-- ITS FALSE NEIGHBOUR: 'it returns false'. Refute it at one input. -/
def linkBodiesWrong : ChangeSpec := { name := "linkBodies", fn := fun _ => fun
  | [d] => { results := [.lit (.bool false)], args := [d] }
  | _ => none }
def LinkBodiesWrongFalsely : Prop := linkBodiesRow.holds Try.pinned (OpenSpec.ofChange linkBodiesWrong)

/-- 'bikesharelaw12.LinkNil': WHATEVER THE INPUT: true; the input reads as it did. -/
def linkNilSpec : ChangeSpec := { name := "linkNil", fn := fun _ => fun
  | [d1, d2] => { results := [.lit (.bool true)], args := [d1, d2] }
  | _ => none }
def linkNilRow : OpenClaim := { program := "ytmanoeimnipjjaa", sum := "0e6744e144f22405044433762d96aab55cb4714fd22787a3627258ed62253216", func := "bikeshare/bikesharelaw12.LinkNil", spec := "linkNil", apart := false }
def LinkNilSaid : Prop := linkNilRow.holds Try.pinned (OpenSpec.ofChange linkNilSpec)

/-- ITS FALSE NEIGHBOUR: 'it returns false'. Refute it at one input. -/
def linkNilWrong : ChangeSpec := { name := "linkNil", fn := fun _ => fun
  | [d1, d2] => { results := [.lit (.bool false)], args := [d1, d2] }
  | _ => none }
def LinkNilWrongFalsely : Prop := linkNilRow.holds Try.pinned (OpenSpec.ofChange linkNilWrong)

/-- 'bikesharelaw05.CrcSums': WHATEVER THE INPUT: true; the input reads as it did. -/
def crcSumsSpec : ChangeSpec := { name := "crcSums", fn := fun _ => fun
  | [d] => { results := [.lit (.bool true)], args := [d] }
  | _ => none }
def crcSumsRow : OpenClaim := { program := "ytmanoeimnipjjaa", sum := "0e6744e144f22405044433762d96aab55cb4714fd22787a3627258ed62253216", func := "bikeshare/bikesharelaw05.CrcSums", spec := "crcSums", apart := false }
def CrcSumsSaid : Prop := crcSumsRow.holds Try.pinned (OpenSpec.ofChange crcSumsSpec)

/-- ITS FALSE NEIGHBOUR: 'it returns false'. Refute it at one input. -/
def crcSumsWrong : ChangeSpec := { name := "crcSums", fn := fun _ => fun
  | [d] => { results := [.lit (.bool false)], args := [d] }
  | _ => none }
def CrcSumsWrongFalsely : Prop := crcSumsRow.holds Try.pinned (OpenSpec.ofChange crcSumsWrong)

/-- 'bikesharelaw05.CrcSeals': WHATEVER THE INPUT: true; the input reads as it did. -/
def crcSealsSpec : ChangeSpec := { name := "crcSeals", fn := fun _ => fun
  | [d1, d2] => { results := [.lit (.bool true)], args := [d1, d2] }
  | _ => none }
def crcSealsRow : OpenClaim := { program := "ytmanoeimnipjjaa", sum := "0e6744e144f22405044433762d96aab55cb4714fd22787a3627258ed62253216", func := "bikeshare/bikesharelaw05.CrcSeals", spec := "crcSeals", apart := false }
def CrcSealsSaid : Prop := crcSealsRow.holds Try.pinned (OpenSpec.ofChange crcSealsSpec)

/-- ITS FALSE NEIGHBOUR: 'it returns false'. Refute it at one input. -/
def crcSealsWrong : ChangeSpec := { name := "crcSeals", fn := fun _ => fun
  | [d1, d2] => { results := [.lit (.bool false)], args := [d1, d2] }
  | _ => none }
def CrcSealsWrongFalsely : Prop := crcSealsRow.holds Try.pinned (OpenSpec.ofChange crcSealsWrong)

/-- 'bikesharelaw05.CrcOpens': WHATEVER THE INPUT: true; the input reads as it did. -/
def crcOpensSpec : ChangeSpec := { name := "crcOpens", fn := fun _ => fun
  | [d1, d2] => { results := [.lit (.bool true)], args := [d1, d2] }
  | _ => none }
def crcOpensRow : OpenClaim := { program := "ytmanoeimnipjjaa", sum := "0e6744e144f22405044433762d96aab55cb4714fd22787a3627258ed62253216", func := "bikeshare/bikesharelaw05.CrcOpens", spec := "crcOpens", apart := false }
def CrcOpensSaid : Prop := crcOpensRow.holds Try.pinned (OpenSpec.ofChange crcOpensSpec)

/-- ITS FALSE NEIGHBOUR: 'it returns false'. Refute it at one input. -/
def crcOpensWrong : ChangeSpec := { name := "crcOpens", fn := fun _ => fun
  | [d1, d2] => { results := [.lit (.bool false)], args := [d1, d2] }
  | _ => none }
def CrcOpensWrongFalsely : Prop := crcOpensRow.holds Try.pinned (OpenSpec.ofChange crcOpensWrong)

/-- 'bikesharelaw05.CrcRecovers': WHATEVER THE INPUT: true; the input reads as it did. -/
def crcRecoversSpec : ChangeSpec := { name := "crcRecovers", fn := fun _ => fun
  | [d1, d2] => { results := [.lit (.bool true)], args := [d1, d2] }
  | _ => none }
def crcRecoversRow : OpenClaim := { program := "ytmanoeimnipjjaa", sum := "0e6744e144f22405044433762d96aab55cb4714fd22787a3627258ed62253216", func := "bikeshare/bikesharelaw05.CrcRecovers", spec := "crcRecovers", apart := false }
def CrcRecoversSaid : Prop := crcRecoversRow.holds Try.pinned (OpenSpec.ofChange crcRecoversSpec)

/-- ITS FALSE NEIGHBOUR: 'it returns false'. Refute it at one input. -/
def crcRecoversWrong : ChangeSpec := { name := "crcRecovers", fn := fun _ => fun
  | [d1, d2] => { results := [.lit (.bool false)], args := [d1, d2] }
  | _ => none }
def CrcRecoversWrongFalsely : Prop := crcRecoversRow.holds Try.pinned (OpenSpec.ofChange crcRecoversWrong)

/-- 'bikesharelaw05.CrcRoundTrip': WHATEVER THE INPUT: true; the input reads as it did. -/
def crcRoundTripSpec : ChangeSpec := { name := "crcRoundTrip", fn := fun _ => fun
  | [d1, d2, d3] => { results := [.lit (.bool true)], args := [d1, d2, d3] }
  | _ => none }
def crcRoundTripRow : OpenClaim := { program := "ytmanoeimnipjjaa", sum := "0e6744e144f22405044433762d96aab55cb4714fd22787a3627258ed62253216", func := "bikeshare/bikesharelaw05.CrcRoundTrip", spec := "crcRoundTrip", apart := false }
def CrcRoundTripSaid : Prop := crcRoundTripRow.holds Try.pinned (OpenSpec.ofChange crcRoundTripSpec)

/-- ITS FALSE NEIGHBOUR: 'it returns false'. Refute it at one input. -/
def crcRoundTripWrong : ChangeSpec := { name := "crcRoundTrip", fn := fun _ => fun
  | [d1, d2, d3] => { results := [.lit (.bool false)], args := [d1, d2, d3] }
  | _ => none }
def CrcRoundTripWrongFalsely : Prop := crcRoundTripRow.holds Try.pinned (OpenSpec.ofChange crcRoundTripWrong)

/-- 'bikesharelaw05.CrcFinds': WHATEVER THE INPUT: true; the input reads as it did. -/
def crcFindsSpec : ChangeSpec := { name := "crcFinds", fn := fun _ => fun
  | [d1, d2, d3] => { results := [.lit (.bool true)], args := [d1, d2, d3] }
  | _ => none }
def crcFindsRow : OpenClaim := { program := "ytmanoeimnipjjaa", sum := "0e6744e144f22405044433762d96aab55cb4714fd22787a3627258ed62253216", func := "bikeshare/bikesharelaw05.CrcFinds", spec := "crcFinds", apart := false }
def CrcFindsSaid : Prop := crcFindsRow.holds Try.pinned (OpenSpec.ofChange crcFindsSpec)

/-- ITS FALSE NEIGHBOUR: 'it returns false'. Refute it at one input. -/
def crcFindsWrong : ChangeSpec := { name := "crcFinds", fn := fun _ => fun
  | [d1, d2, d3] => { results := [.lit (.bool false)], args := [d1, d2, d3] }
  | _ => none }
def CrcFindsWrongFalsely : Prop := crcFindsRow.holds Try.pinned (OpenSpec.ofChange crcFindsWrong)

/-- 'bikesharelaw05.CrcLinear': WHATEVER THE INPUT: true; the input reads as it did. -/
def crcLinearSpec : ChangeSpec := { name := "crcLinear", fn := fun _ => fun
  | [d1, d2, d3] => { results := [.lit (.bool true)], args := [d1, d2, d3] }
  | _ => none }
def crcLinearRow : OpenClaim := { program := "ytmanoeimnipjjaa", sum := "0e6744e144f22405044433762d96aab55cb4714fd22787a3627258ed62253216", func := "bikeshare/bikesharelaw05.CrcLinear", spec := "crcLinear", apart := false }
def CrcLinearSaid : Prop := crcLinearRow.holds Try.pinned (OpenSpec.ofChange crcLinearSpec)

/-- ITS FALSE NEIGHBOUR: 'it returns false'. Refute it at one input. -/
def crcLinearWrong : ChangeSpec := { name := "crcLinear", fn := fun _ => fun
  | [d1, d2, d3] => { results := [.lit (.bool false)], args := [d1, d2, d3] }
  | _ => none }
def CrcLinearWrongFalsely : Prop := crcLinearRow.holds Try.pinned (OpenSpec.ofChange crcLinearWrong)

/- THE SECOND FORM. 'bulk': how many values and letters a reading holds, each counted each time it is reached (what is shared counts as often as it is met; a slice's spare places count too). A statement '..UptoSaid' is the law's where the arguments, and the package variables that the reading takes, are together of bulk at most 1048576: NARROWER than '..Said'. Prove '..Said' where nothing that the law and all that it calls make is longer than what came in: it says more and counts as full. Else prove '..UptoSaid'. A law counts once. -/
mutual
def uptoBulk {H : Type} : DataW H → Nat
  | .lit (.string bytes) => bytes.length + 1
  | .lit _ => 1
  | .nil => 1
  | .ptr d => uptoBulk d + 1
  | .slice elems spare => uptoBulkAll elems + uptoBulkAll spare + 1
  | .agg parts => uptoBulkAll parts + 1
  | .iface _ d => uptoBulk d + 1
  | .map entries => uptoBulkEntries entries + 1
  | .held _ => 1
def uptoBulkAll {H : Type} : List (DataW H) → Nat
  | [] => 0
  | d :: r => uptoBulk d + uptoBulkAll r
def uptoBulkEntries {H : Type} : List (Lit × DataW H) → Nat
  | [] => 0
  | x :: r => uptoBulkEntry x + uptoBulkEntries r
def uptoBulkEntry {H : Type} : Lit × DataW H → Nat
  | (.string bytes, d) => bytes.length + uptoBulk d + 1
  | (_, d) => uptoBulk d + 1
 end
def uptoSmall : (H : Type) → List (DataW H) → Bool := fun _ ds => decide (uptoBulkAll ds ≤ 1048576)
def OpenSpec.upto (s : _root_.Go.ChangeSpec) : _root_.Go.OpenSpec := { _root_.Go.OpenSpec.ofChange s with cond := some uptoSmall }

/-- 'bikesharelaw04.WirePuts', WHERE WHAT IT READS IS OF BULK AT MOST 1048576: true; the input reads as it did. -/
def wirePutsUptoRow : OpenClaim := { program := "ytmanoeimnipjjaa", sum := "0e6744e144f22405044433762d96aab55cb4714fd22787a3627258ed62253216", func := "bikeshare/bikesharelaw04.WirePuts", spec := "wirePuts", apart := false, narrowed := true }
def WirePutsUptoSaid : Prop := wirePutsUptoRow.holds Try.pinned (OpenSpec.upto wirePutsSpec)

/-- 'bikesharelaw06.MacTags', WHERE WHAT IT READS IS OF BULK AT MOST 1048576: true; the input reads as it did. -/
def macTagsUptoRow : OpenClaim := { program := "ytmanoeimnipjjaa", sum := "0e6744e144f22405044433762d96aab55cb4714fd22787a3627258ed62253216", func := "bikeshare/bikesharelaw06.MacTags", spec := "macTags", apart := false, narrowed := true }
def MacTagsUptoSaid : Prop := macTagsUptoRow.holds Try.pinned (OpenSpec.upto macTagsSpec)

/-- 'bikesharelaw06.MacPlaces', WHERE WHAT IT READS IS OF BULK AT MOST 1048576: true; the input reads as it did. -/
def macPlacesUptoRow : OpenClaim := { program := "ytmanoeimnipjjaa", sum := "0e6744e144f22405044433762d96aab55cb4714fd22787a3627258ed62253216", func := "bikeshare/bikesharelaw06.MacPlaces", spec := "macPlaces", apart := false, narrowed := true }
def MacPlacesUptoSaid : Prop := macPlacesUptoRow.holds Try.pinned (OpenSpec.upto macPlacesSpec)

/-- 'bikesharelaw12.LinkSends', WHERE WHAT IT READS IS OF BULK AT MOST 1048576: true; the input reads as it did. -/
def linkSendsUptoRow : OpenClaim := { program := "ytmanoeimnipjjaa", sum := "0e6744e144f22405044433762d96aab55cb4714fd22787a3627258ed62253216", func := "bikeshare/bikesharelaw12.LinkSends", spec := "linkSends", apart := false, narrowed := true }
def LinkSendsUptoSaid : Prop := linkSendsUptoRow.holds Try.pinned (OpenSpec.upto linkSendsSpec)

/-- 'bikesharelaw12.LinkTakes', WHERE WHAT IT READS IS OF BULK AT MOST 1048576: true; the input reads as it did. -/
def linkTakesUptoRow : OpenClaim := { program := "ytmanoeimnipjjaa", sum := "0e6744e144f22405044433762d96aab55cb4714fd22787a3627258ed62253216", func := "bikeshare/bikesharelaw12.LinkTakes", spec := "linkTakes", apart := false, narrowed := true }
def LinkTakesUptoSaid : Prop := linkTakesUptoRow.holds Try.pinned (OpenSpec.upto linkTakesSpec)

/-- 'bikesharelaw12.LinkOnce', WHERE WHAT IT READS IS OF BULK AT MOST 1048576: true; the input reads as it did. -/
def linkOnceUptoRow : OpenClaim := { program := "ytmanoeimnipjjaa", sum := "0e6744e144f22405044433762d96aab55cb4714fd22787a3627258ed62253216", func := "bikeshare/bikesharelaw12.LinkOnce", spec := "linkOnce", apart := false, narrowed := true }
def LinkOnceUptoSaid : Prop := linkOnceUptoRow.holds Try.pinned (OpenSpec.upto linkOnceSpec)

/-- 'bikesharelaw12.LinkArrives', WHERE WHAT IT READS IS OF BULK AT MOST 1048576: true; the input reads as it did. -/
def linkArrivesUptoRow : OpenClaim := { program := "ytmanoeimnipjjaa", sum := "0e6744e144f22405044433762d96aab55cb4714fd22787a3627258ed62253216", func := "bikeshare/bikesharelaw12.LinkArrives", spec := "linkArrives", apart := false, narrowed := true }
def LinkArrivesUptoSaid : Prop := linkArrivesUptoRow.holds Try.pinned (OpenSpec.upto linkArrivesSpec)

/-- 'bikesharelaw12.LinkOrders', WHERE WHAT IT READS IS OF BULK AT MOST 1048576: true; the input reads as it did. -/
def linkOrdersUptoRow : OpenClaim := { program := "ytmanoeimnipjjaa", sum := "0e6744e144f22405044433762d96aab55cb4714fd22787a3627258ed62253216", func := "bikeshare/bikesharelaw12.LinkOrders", spec := "linkOrders", apart := false, narrowed := true }
def LinkOrdersUptoSaid : Prop := linkOrdersUptoRow.holds Try.pinned (OpenSpec.upto linkOrdersSpec)

/-- 'bikesharelaw12.LinkBodies', WHERE WHAT IT READS IS OF BULK AT MOST 1048576: true; the input reads as it did. -/
def linkBodiesUptoRow : OpenClaim := { program := "ytmanoeimnipjjaa", sum := "0e6744e144f22405044433762d96aab55cb4714fd22787a3627258ed62253216", func := "bikeshare/bikesharelaw12.LinkBodies", spec := "linkBodies", apart := false, narrowed := true }
def LinkBodiesUptoSaid : Prop := linkBodiesUptoRow.holds Try.pinned (OpenSpec.upto linkBodiesSpec)

/-- 'bikesharelaw12.LinkNil', WHERE WHAT IT READS IS OF BULK AT MOST 1048576: true; the input reads as it did. -/
def linkNilUptoRow : OpenClaim := { program := "ytmanoeimnipjjaa", sum := "0e6744e144f22405044433762d96aab55cb4714fd22787a3627258ed62253216", func := "bikeshare/bikesharelaw12.LinkNil", spec := "linkNil", apart := false, narrowed := true }
def LinkNilUptoSaid : Prop := linkNilUptoRow.holds Try.pinned (OpenSpec.upto linkNilSpec)

/-- 'bikesharelaw05.CrcSums', WHERE WHAT IT READS IS OF BULK AT MOST 1048576: true; the input reads as it did. -/
def crcSumsUptoRow : OpenClaim := { program := "ytmanoeimnipjjaa", sum := "0e6744e144f22405044433762d96aab55cb4714fd22787a3627258ed62253216", func := "bikeshare/bikesharelaw05.CrcSums", spec := "crcSums", apart := false, narrowed := true }
def CrcSumsUptoSaid : Prop := crcSumsUptoRow.holds Try.pinned (OpenSpec.upto crcSumsSpec)

/-- 'bikesharelaw05.CrcSeals', WHERE WHAT IT READS IS OF BULK AT MOST 1048576: true; the input reads as it did. -/
def crcSealsUptoRow : OpenClaim := { program := "ytmanoeimnipjjaa", sum := "0e6744e144f22405044433762d96aab55cb4714fd22787a3627258ed62253216", func := "bikeshare/bikesharelaw05.CrcSeals", spec := "crcSeals", apart := false, narrowed := true }
def CrcSealsUptoSaid : Prop := crcSealsUptoRow.holds Try.pinned (OpenSpec.upto crcSealsSpec)

/-- 'bikesharelaw05.CrcOpens', WHERE WHAT IT READS IS OF BULK AT MOST 1048576: true; the input reads as it did. -/
def crcOpensUptoRow : OpenClaim := { program := "ytmanoeimnipjjaa", sum := "0e6744e144f22405044433762d96aab55cb4714fd22787a3627258ed62253216", func := "bikeshare/bikesharelaw05.CrcOpens", spec := "crcOpens", apart := false, narrowed := true }
def CrcOpensUptoSaid : Prop := crcOpensUptoRow.holds Try.pinned (OpenSpec.upto crcOpensSpec)

/-- 'bikesharelaw05.CrcRecovers', WHERE WHAT IT READS IS OF BULK AT MOST 1048576: true; the input reads as it did. -/
def crcRecoversUptoRow : OpenClaim := { program := "ytmanoeimnipjjaa", sum := "0e6744e144f22405044433762d96aab55cb4714fd22787a3627258ed62253216", func := "bikeshare/bikesharelaw05.CrcRecovers", spec := "crcRecovers", apart := false, narrowed := true }
def CrcRecoversUptoSaid : Prop := crcRecoversUptoRow.holds Try.pinned (OpenSpec.upto crcRecoversSpec)

/-- 'bikesharelaw05.CrcRoundTrip', WHERE WHAT IT READS IS OF BULK AT MOST 1048576: true; the input reads as it did. -/
def crcRoundTripUptoRow : OpenClaim := { program := "ytmanoeimnipjjaa", sum := "0e6744e144f22405044433762d96aab55cb4714fd22787a3627258ed62253216", func := "bikeshare/bikesharelaw05.CrcRoundTrip", spec := "crcRoundTrip", apart := false, narrowed := true }
def CrcRoundTripUptoSaid : Prop := crcRoundTripUptoRow.holds Try.pinned (OpenSpec.upto crcRoundTripSpec)

/-- 'bikesharelaw05.CrcFinds', WHERE WHAT IT READS IS OF BULK AT MOST 1048576: true; the input reads as it did. -/
def crcFindsUptoRow : OpenClaim := { program := "ytmanoeimnipjjaa", sum := "0e6744e144f22405044433762d96aab55cb4714fd22787a3627258ed62253216", func := "bikeshare/bikesharelaw05.CrcFinds", spec := "crcFinds", apart := false, narrowed := true }
def CrcFindsUptoSaid : Prop := crcFindsUptoRow.holds Try.pinned (OpenSpec.upto crcFindsSpec)

/-- 'bikesharelaw05.CrcLinear', WHERE WHAT IT READS IS OF BULK AT MOST 1048576: true; the input reads as it did. -/
def crcLinearUptoRow : OpenClaim := { program := "ytmanoeimnipjjaa", sum := "0e6744e144f22405044433762d96aab55cb4714fd22787a3627258ed62253216", func := "bikeshare/bikesharelaw05.CrcLinear", spec := "crcLinear", apart := false, narrowed := true }
def CrcLinearUptoSaid : Prop := crcLinearUptoRow.holds Try.pinned (OpenSpec.upto crcLinearSpec)

end Rows
end Go.Proofs.Ytmanoeimnipjjaa
