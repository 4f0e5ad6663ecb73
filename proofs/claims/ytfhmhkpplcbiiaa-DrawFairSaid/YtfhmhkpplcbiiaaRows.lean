/-
  No cell of these rows narrows 'for every input' (looked for: loops, veiled, ifaces, maps, wideKeys, modest, calm, conditions, laid).
  DERIVED. THE GIVEN ROWS OF THIS SEAT. 16 by the template 'for every input the law returns true; each argument reads behind the call as it read before'; 0 by the template 'total and deterministic' (their statements: YtfhmhkpplcbiiaaTotals.lean).
  GIVEN WITH THE SEED: the statements are not yours to turn. If you find one false, say at which input.
  Laid BY PROGRAM, IN A SANDBOX (cutbox-rows.mjs): the forced cells as the released guide's own fill.sh prints them over the translation b30d6a2e8c81f856… (all of the seat's roots in one cut). By AI agents, Wed Nov 11 2026. No macro, syntax, notation, axiom, sorry.
-/
import Derived.Test.YtfhmhkpplcbiiaaChecked
import GoSem.Claim
import GoSem.ClaimJoined
import GoSem.ClaimMapViews
import Derived.JoinedTies
import Derived.KernelRfl
namespace Go.Proofs.Ytfhmhkpplcbiiaa
/- THE CELL 'sum', in the pinned program and in every row, IS THE sha256 OF THE DUMP (.gsa) THAT YtfhmhkpplcbiiaaProg.lean LOADS. Nothing in Lean hashes anything: it is a label: what it is worth is what the hold of that sum in a sandbox is worth. -/
noncomputable def Try.pinned : Pinned := { name := "ytfhmhkpplcbiiaa", sum := "b30d6a2e8c81f856a1eff9074a04beb758b73e1c9b5c966222855017cd8517e4", checked := Try.checked }
namespace Rows
def none {H : Type} : Left H := { results := [], args := [] }

/-- 'bikesharelaw04.WirePuts': WHATEVER THE INPUT: true; the input reads as it did. -/
def wirePutsSpec : ChangeSpec := { name := "wirePuts", fn := fun _ => fun
  | [d1, d2, d3, d4] => { results := [.lit (.bool true)], args := [d1, d2, d3, d4] }
  | _ => none }
def wirePutsRow : OpenClaim := { program := "ytfhmhkpplcbiiaa", sum := "b30d6a2e8c81f856a1eff9074a04beb758b73e1c9b5c966222855017cd8517e4", func := "bikeshare/bikesharelaw04.WirePuts", spec := "wirePuts", apart := false }
def WirePutsSaid : Prop := wirePutsRow.holds Try.pinned (OpenSpec.ofChange wirePutsSpec)

/-- ITS FALSE NEIGHBOUR: 'it returns false'. Refute it at one input. -/
def wirePutsWrong : ChangeSpec := { name := "wirePuts", fn := fun _ => fun
  | [d1, d2, d3, d4] => { results := [.lit (.bool false)], args := [d1, d2, d3, d4] }
  | _ => none }
def WirePutsWrongFalsely : Prop := wirePutsRow.holds Try.pinned (OpenSpec.ofChange wirePutsWrong)

/-- 'bikesharelaw11.DrawPicks': WHATEVER THE INPUT: true; the input reads as it did. -/
def drawPicksSpec : ChangeSpec := { name := "drawPicks", fn := fun _ => fun
  | [d1, d2] => { results := [.lit (.bool true)], args := [d1, d2] }
  | _ => none }
def drawPicksRow : OpenClaim := { program := "ytfhmhkpplcbiiaa", sum := "b30d6a2e8c81f856a1eff9074a04beb758b73e1c9b5c966222855017cd8517e4", func := "bikeshare/bikesharelaw11.DrawPicks", spec := "drawPicks", apart := false }
def DrawPicksSaid : Prop := drawPicksRow.holds Try.pinned (OpenSpec.ofChange drawPicksSpec)

/-- ITS FALSE NEIGHBOUR: 'it returns false'. Refute it at one input. -/
def drawPicksWrong : ChangeSpec := { name := "drawPicks", fn := fun _ => fun
  | [d1, d2] => { results := [.lit (.bool false)], args := [d1, d2] }
  | _ => none }
def DrawPicksWrongFalsely : Prop := drawPicksRow.holds Try.pinned (OpenSpec.ofChange drawPicksWrong)

/-- 'bikesharelaw11.DrawWords': WHATEVER THE INPUT: true; the input reads as it did. -/
def drawWordsSpec : ChangeSpec := { name := "drawWords", fn := fun _ => fun
  | [d1, d2, d3] => { results := [.lit (.bool true)], args := [d1, d2, d3] }
  | _ => none }
def drawWordsRow : OpenClaim := { program := "ytfhmhkpplcbiiaa", sum := "b30d6a2e8c81f856a1eff9074a04beb758b73e1c9b5c966222855017cd8517e4", func := "bikeshare/bikesharelaw11.DrawWords", spec := "drawWords", apart := false }
def DrawWordsSaid : Prop := drawWordsRow.holds Try.pinned (OpenSpec.ofChange drawWordsSpec)

/-- ITS FALSE NEIGHBOUR: 'it returns false'. Refute it at one input. -/
def drawWordsWrong : ChangeSpec := { name := "drawWords", fn := fun _ => fun
  | [d1, d2, d3] => { results := [.lit (.bool false)], args := [d1, d2, d3] }
  | _ => none }
def DrawWordsWrongFalsely : Prop := drawWordsRow.holds Try.pinned (OpenSpec.ofChange drawWordsWrong)

/-- 'bikesharelaw11.DrawBelow': WHATEVER THE INPUT: true; the input reads as it did. -/
def drawBelowSpec : ChangeSpec := { name := "drawBelow", fn := fun _ => fun
  | [d1, d2] => { results := [.lit (.bool true)], args := [d1, d2] }
  | _ => none }
def drawBelowRow : OpenClaim := { program := "ytfhmhkpplcbiiaa", sum := "b30d6a2e8c81f856a1eff9074a04beb758b73e1c9b5c966222855017cd8517e4", func := "bikeshare/bikesharelaw11.DrawBelow", spec := "drawBelow", apart := false }
def DrawBelowSaid : Prop := drawBelowRow.holds Try.pinned (OpenSpec.ofChange drawBelowSpec)

/-- ITS FALSE NEIGHBOUR: 'it returns false'. Refute it at one input. -/
def drawBelowWrong : ChangeSpec := { name := "drawBelow", fn := fun _ => fun
  | [d1, d2] => { results := [.lit (.bool false)], args := [d1, d2] }
  | _ => none }
def DrawBelowWrongFalsely : Prop := drawBelowRow.holds Try.pinned (OpenSpec.ofChange drawBelowWrong)

/-- 'bikesharelaw11.DrawShuffles': WHATEVER THE INPUT: true; the input reads as it did. -/
def drawShufflesSpec : ChangeSpec := { name := "drawShuffles", fn := fun _ => fun
  | [d1, d2] => { results := [.lit (.bool true)], args := [d1, d2] }
  | _ => none }
def drawShufflesRow : OpenClaim := { program := "ytfhmhkpplcbiiaa", sum := "b30d6a2e8c81f856a1eff9074a04beb758b73e1c9b5c966222855017cd8517e4", func := "bikeshare/bikesharelaw11.DrawShuffles", spec := "drawShuffles", apart := false }
def DrawShufflesSaid : Prop := drawShufflesRow.holds Try.pinned (OpenSpec.ofChange drawShufflesSpec)

/-- ITS FALSE NEIGHBOUR: 'it returns false'. Refute it at one input. -/
def drawShufflesWrong : ChangeSpec := { name := "drawShuffles", fn := fun _ => fun
  | [d1, d2] => { results := [.lit (.bool false)], args := [d1, d2] }
  | _ => none }
def DrawShufflesWrongFalsely : Prop := drawShufflesRow.holds Try.pinned (OpenSpec.ofChange drawShufflesWrong)

/-- 'bikesharelaw11.DrawExact': WHATEVER THE INPUT: true; the input reads as it did. -/
def drawExactSpec : ChangeSpec := { name := "drawExact", fn := fun _ => fun
  | [d] => { results := [.lit (.bool true)], args := [d] }
  | _ => none }
def drawExactRow : OpenClaim := { program := "ytfhmhkpplcbiiaa", sum := "b30d6a2e8c81f856a1eff9074a04beb758b73e1c9b5c966222855017cd8517e4", func := "bikeshare/bikesharelaw11.DrawExact", spec := "drawExact", apart := false }
def DrawExactSaid : Prop := drawExactRow.holds Try.pinned (OpenSpec.ofChange drawExactSpec)

/-- ITS FALSE NEIGHBOUR: 'it returns false'. Refute it at one input. -/
def drawExactWrong : ChangeSpec := { name := "drawExact", fn := fun _ => fun
  | [d] => { results := [.lit (.bool false)], args := [d] }
  | _ => none }
def DrawExactWrongFalsely : Prop := drawExactRow.holds Try.pinned (OpenSpec.ofChange drawExactWrong)

/-- 'bikesharelaw11.DrawFair': WHATEVER THE INPUT: true; the input reads as it did. -/
def drawFairSpec : ChangeSpec := { name := "drawFair", fn := fun _ => fun
  | [d1, d2, d3] => { results := [.lit (.bool true)], args := [d1, d2, d3] }
  | _ => none }
def drawFairRow : OpenClaim := { program := "ytfhmhkpplcbiiaa", sum := "b30d6a2e8c81f856a1eff9074a04beb758b73e1c9b5c966222855017cd8517e4", func := "bikeshare/bikesharelaw11.DrawFair", spec := "drawFair", apart := false }
def DrawFairSaid : Prop := drawFairRow.holds Try.pinned (OpenSpec.ofChange drawFairSpec)

/-- ITS FALSE NEIGHBOUR: 'it returns false'. Refute it at one input. -/
def drawFairWrong : ChangeSpec := { name := "drawFair", fn := fun _ => fun
  | [d1, d2, d3] => { results := [.lit (.bool false)], args := [d1, d2, d3] }
  | _ => none }
def DrawFairWrongFalsely : Prop := drawFairRow.holds Try.pinned (OpenSpec.ofChange drawFairWrong)

/-- 'bikesharelaw11.DrawOrders': WHATEVER THE INPUT: true; the input reads as it did. -/
def drawOrdersSpec : ChangeSpec := { name := "drawOrders", fn := fun _ => fun
  | [d1, d2, d3] => { results := [.lit (.bool true)], args := [d1, d2, d3] }
  | _ => none }
def drawOrdersRow : OpenClaim := { program := "ytfhmhkpplcbiiaa", sum := "b30d6a2e8c81f856a1eff9074a04beb758b73e1c9b5c966222855017cd8517e4", func := "bikeshare/bikesharelaw11.DrawOrders", spec := "drawOrders", apart := false }
def DrawOrdersSaid : Prop := drawOrdersRow.holds Try.pinned (OpenSpec.ofChange drawOrdersSpec)

/-- ITS FALSE NEIGHBOUR: 'it returns false'. Refute it at one input. -/
def drawOrdersWrong : ChangeSpec := { name := "drawOrders", fn := fun _ => fun
  | [d1, d2, d3] => { results := [.lit (.bool false)], args := [d1, d2, d3] }
  | _ => none }
def DrawOrdersWrongFalsely : Prop := drawOrdersRow.holds Try.pinned (OpenSpec.ofChange drawOrdersWrong)

/-- 'bikesharelaw11.DrawParts': WHATEVER THE INPUT: true; the input reads as it did. -/
def drawPartsSpec : ChangeSpec := { name := "drawParts", fn := fun _ => fun
  | [d1, d2, d3] => { results := [.lit (.bool true)], args := [d1, d2, d3] }
  | _ => none }
def drawPartsRow : OpenClaim := { program := "ytfhmhkpplcbiiaa", sum := "b30d6a2e8c81f856a1eff9074a04beb758b73e1c9b5c966222855017cd8517e4", func := "bikeshare/bikesharelaw11.DrawParts", spec := "drawParts", apart := false }
def DrawPartsSaid : Prop := drawPartsRow.holds Try.pinned (OpenSpec.ofChange drawPartsSpec)

/-- ITS FALSE NEIGHBOUR: 'it returns false'. Refute it at one input. -/
def drawPartsWrong : ChangeSpec := { name := "drawParts", fn := fun _ => fun
  | [d1, d2, d3] => { results := [.lit (.bool false)], args := [d1, d2, d3] }
  | _ => none }
def DrawPartsWrongFalsely : Prop := drawPartsRow.holds Try.pinned (OpenSpec.ofChange drawPartsWrong)

/-- 'bikesharelaw40.ForecastRates': WHATEVER THE INPUT: true; the input reads as it did. -/
def forecastRatesSpec : ChangeSpec := { name := "forecastRates", fn := fun _ => fun
  | [d1, d2, d3] => { results := [.lit (.bool true)], args := [d1, d2, d3] }
  | _ => none }
def forecastRatesRow : OpenClaim := { program := "ytfhmhkpplcbiiaa", sum := "b30d6a2e8c81f856a1eff9074a04beb758b73e1c9b5c966222855017cd8517e4", func := "bikeshare/bikesharelaw40.ForecastRates", spec := "forecastRates", unfollowed := true, recurses := true, apart := false }
def ForecastRatesSaid : Prop := forecastRatesRow.holds Try.pinned (OpenSpec.ofChange forecastRatesSpec)

/-- ITS FALSE NEIGHBOUR: 'it returns false'. Refute it at one input. -/
def forecastRatesWrong : ChangeSpec := { name := "forecastRates", fn := fun _ => fun
  | [d1, d2, d3] => { results := [.lit (.bool false)], args := [d1, d2, d3] }
  | _ => none }
def ForecastRatesWrongFalsely : Prop := forecastRatesRow.holds Try.pinned (OpenSpec.ofChange forecastRatesWrong)

/-- 'bikesharelaw40.ForecastExpects': WHATEVER THE INPUT: true; the input reads as it did. -/
def forecastExpectsSpec : ChangeSpec := { name := "forecastExpects", fn := fun _ => fun
  | [d1, d2] => { results := [.lit (.bool true)], args := [d1, d2] }
  | _ => none }
def forecastExpectsRow : OpenClaim := { program := "ytfhmhkpplcbiiaa", sum := "b30d6a2e8c81f856a1eff9074a04beb758b73e1c9b5c966222855017cd8517e4", func := "bikeshare/bikesharelaw40.ForecastExpects", spec := "forecastExpects", unfollowed := true, recurses := true, apart := false }
def ForecastExpectsSaid : Prop := forecastExpectsRow.holds Try.pinned (OpenSpec.ofChange forecastExpectsSpec)

/-- ITS FALSE NEIGHBOUR: 'it returns false'. Refute it at one input. -/
def forecastExpectsWrong : ChangeSpec := { name := "forecastExpects", fn := fun _ => fun
  | [d1, d2] => { results := [.lit (.bool false)], args := [d1, d2] }
  | _ => none }
def ForecastExpectsWrongFalsely : Prop := forecastExpectsRow.holds Try.pinned (OpenSpec.ofChange forecastExpectsWrong)

/-- 'bikesharelaw40.ForecastCases': WHATEVER THE INPUT: true; the input reads as it did. -/
def forecastCasesSpec : ChangeSpec := { name := "forecastCases", fn := fun _ => fun
  | [d1, d2, d3] => { results := [.lit (.bool true)], args := [d1, d2, d3] }
  | _ => none }
def forecastCasesRow : OpenClaim := { program := "ytfhmhkpplcbiiaa", sum := "b30d6a2e8c81f856a1eff9074a04beb758b73e1c9b5c966222855017cd8517e4", func := "bikeshare/bikesharelaw40.ForecastCases", spec := "forecastCases", unfollowed := true, recurses := true, apart := false }
def ForecastCasesSaid : Prop := forecastCasesRow.holds Try.pinned (OpenSpec.ofChange forecastCasesSpec)

/-- ITS FALSE NEIGHBOUR: 'it returns false'. Refute it at one input. -/
def forecastCasesWrong : ChangeSpec := { name := "forecastCases", fn := fun _ => fun
  | [d1, d2, d3] => { results := [.lit (.bool false)], args := [d1, d2, d3] }
  | _ => none }
def ForecastCasesWrongFalsely : Prop := forecastCasesRow.holds Try.pinned (OpenSpec.ofChange forecastCasesWrong)

/-- 'bikesharelaw40.ForecastMean': WHATEVER THE INPUT: true; the input reads as it did. -/
def forecastMeanSpec : ChangeSpec := { name := "forecastMean", fn := fun _ => fun
  | [d1, d2, d3] => { results := [.lit (.bool true)], args := [d1, d2, d3] }
  | _ => none }
def forecastMeanRow : OpenClaim := { program := "ytfhmhkpplcbiiaa", sum := "b30d6a2e8c81f856a1eff9074a04beb758b73e1c9b5c966222855017cd8517e4", func := "bikeshare/bikesharelaw40.ForecastMean", spec := "forecastMean", unfollowed := true, recurses := true, apart := false }
def ForecastMeanSaid : Prop := forecastMeanRow.holds Try.pinned (OpenSpec.ofChange forecastMeanSpec)

/-- ITS FALSE NEIGHBOUR: 'it returns false'. Refute it at one input. -/
def forecastMeanWrong : ChangeSpec := { name := "forecastMean", fn := fun _ => fun
  | [d1, d2, d3] => { results := [.lit (.bool false)], args := [d1, d2, d3] }
  | _ => none }
def ForecastMeanWrongFalsely : Prop := forecastMeanRow.holds Try.pinned (OpenSpec.ofChange forecastMeanWrong)

/-- 'bikesharelaw40.ForecastExact': WHATEVER THE INPUT: true; the input reads as it did. -/
def forecastExactSpec : ChangeSpec := { name := "forecastExact", fn := fun _ => fun
  | [d1, d2] => { results := [.lit (.bool true)], args := [d1, d2] }
  | _ => none }
def forecastExactRow : OpenClaim := { program := "ytfhmhkpplcbiiaa", sum := "b30d6a2e8c81f856a1eff9074a04beb758b73e1c9b5c966222855017cd8517e4", func := "bikeshare/bikesharelaw40.ForecastExact", spec := "forecastExact", unfollowed := true, recurses := true, apart := false }
def ForecastExactSaid : Prop := forecastExactRow.holds Try.pinned (OpenSpec.ofChange forecastExactSpec)

/-- ITS FALSE NEIGHBOUR: 'it returns false'. Refute it at one input. -/
def forecastExactWrong : ChangeSpec := { name := "forecastExact", fn := fun _ => fun
  | [d1, d2] => { results := [.lit (.bool false)], args := [d1, d2] }
  | _ => none }
def ForecastExactWrongFalsely : Prop := forecastExactRow.holds Try.pinned (OpenSpec.ofChange forecastExactWrong)

/-- 'bikesharelaw40.ForecastGrows': WHATEVER THE INPUT: true; the input reads as it did. -/
def forecastGrowsSpec : ChangeSpec := { name := "forecastGrows", fn := fun _ => fun
  | [d1, d2] => { results := [.lit (.bool true)], args := [d1, d2] }
  | _ => none }
def forecastGrowsRow : OpenClaim := { program := "ytfhmhkpplcbiiaa", sum := "b30d6a2e8c81f856a1eff9074a04beb758b73e1c9b5c966222855017cd8517e4", func := "bikeshare/bikesharelaw40.ForecastGrows", spec := "forecastGrows", unfollowed := true, recurses := true, apart := false }
def ForecastGrowsSaid : Prop := forecastGrowsRow.holds Try.pinned (OpenSpec.ofChange forecastGrowsSpec)

/-- ITS FALSE NEIGHBOUR: 'it returns false'. Refute it at one input. -/
def forecastGrowsWrong : ChangeSpec := { name := "forecastGrows", fn := fun _ => fun
  | [d1, d2] => { results := [.lit (.bool false)], args := [d1, d2] }
  | _ => none }
def ForecastGrowsWrongFalsely : Prop := forecastGrowsRow.holds Try.pinned (OpenSpec.ofChange forecastGrowsWrong)

/-- 'bikesharelaw40.ForecastKeeps': WHATEVER THE INPUT: true; the input reads as it did. -/
def forecastKeepsSpec : ChangeSpec := { name := "forecastKeeps", fn := fun _ => fun
  | [d1, d2, d3] => { results := [.lit (.bool true)], args := [d1, d2, d3] }
  | _ => none }
def forecastKeepsRow : OpenClaim := { program := "ytfhmhkpplcbiiaa", sum := "b30d6a2e8c81f856a1eff9074a04beb758b73e1c9b5c966222855017cd8517e4", func := "bikeshare/bikesharelaw40.ForecastKeeps", spec := "forecastKeeps", unfollowed := true, recurses := true, apart := false }
def ForecastKeepsSaid : Prop := forecastKeepsRow.holds Try.pinned (OpenSpec.ofChange forecastKeepsSpec)

/-- ITS FALSE NEIGHBOUR: 'it returns false'. Refute it at one input. -/
def forecastKeepsWrong : ChangeSpec := { name := "forecastKeeps", fn := fun _ => fun
  | [d1, d2, d3] => { results := [.lit (.bool false)], args := [d1, d2, d3] }
  | _ => none }
def ForecastKeepsWrongFalsely : Prop := forecastKeepsRow.holds Try.pinned (OpenSpec.ofChange forecastKeepsWrong)

/- THE SECOND FORM. 'bulk': how many values and letters a reading holds, each counted each time it is reached (what is shared counts as often as it is met; a slice's spare places count too). A statement '..UptoSaid' is the law's where the arguments, and the package variables that the reading takes, are together of bulk at most 1048576: NARROWER than '..Said'. Prove '..Said' where nothing that the law and all that it calls make is longer than what came in: it says more and counts as full. Else prove '..UptoSaid'. A law counts once. -/
mutual
def uptoBulk {H : Type} : DataW H → Nat
  | .lit (.string bytes) => bytes.length + 1
  | .lit _ => 1
  | .nil => 1
  | .ptr d => uptoBulk d + 1
  | .slice elems spare => uptoBulkAll elems + uptoBulkAll spare + 1
  | .agg parts => uptoBulkAll parts + 1
  | .iface _ d => uptoBulk d + 1
  | .map entries => uptoBulkEntries entries + 1
  | .held _ => 1
def uptoBulkAll {H : Type} : List (DataW H) → Nat
  | [] => 0
  | d :: r => uptoBulk d + uptoBulkAll r
def uptoBulkEntries {H : Type} : List (Lit × DataW H) → Nat
  | [] => 0
  | x :: r => uptoBulkEntry x + uptoBulkEntries r
def uptoBulkEntry {H : Type} : Lit × DataW H → Nat
  | (.string bytes, d) => bytes.length + uptoBulk d + 1
  | (_, d) => uptoBulk d + 1
 end
def uptoSmall : (H : Type) → List (DataW H) → Bool := fun _ ds => decide (uptoBulkAll ds ≤ 1048576)
def OpenSpec.upto (s : _root_.Go.ChangeSpec) : _root_.Go.OpenSpec := { _root_.Go.OpenSpec.ofChange s with cond := some uptoSmall }

/-- 'bikesharelaw04.WirePuts', WHERE WHAT IT READS IS OF BULK AT MOST 1048576: true; the input reads as it did. -/
def wirePutsUptoRow : OpenClaim := { program := "ytfhmhkpplcbiiaa", sum := "b30d6a2e8c81f856a1eff9074a04beb758b73e1c9b5c966222855017cd8517e4", func := "bikeshare/bikesharelaw04.WirePuts", spec := "wirePuts", apart := false, narrowed := true }
def WirePutsUptoSaid : Prop := wirePutsUptoRow.holds Try.pinned (OpenSpec.upto wirePutsSpec)

/-- 'bikesharelaw11.DrawPicks', WHERE WHAT IT READS IS OF BULK AT MOST 1048576: true; the input reads as it did. -/
def drawPicksUptoRow : OpenClaim := { program := "ytfhmhkpplcbiiaa", sum := "b30d6a2e8c81f856a1eff9074a04beb758b73e1c9b5c966222855017cd8517e4", func := "bikeshare/bikesharelaw11.DrawPicks", spec := "drawPicks", apart := false, narrowed := true }
def DrawPicksUptoSaid : Prop := drawPicksUptoRow.holds Try.pinned (OpenSpec.upto drawPicksSpec)

/-- 'bikesharelaw11.DrawWords', WHERE WHAT IT READS IS OF BULK AT MOST 1048576: true; the input reads as it did. -/
def drawWordsUptoRow : OpenClaim := { program := "ytfhmhkpplcbiiaa", sum := "b30d6a2e8c81f856a1eff9074a04beb758b73e1c9b5c966222855017cd8517e4", func := "bikeshare/bikesharelaw11.DrawWords", spec := "drawWords", apart := false, narrowed := true }
def DrawWordsUptoSaid : Prop := drawWordsUptoRow.holds Try.pinned (OpenSpec.upto drawWordsSpec)

/-- 'bikesharelaw11.DrawBelow', WHERE WHAT IT READS IS OF BULK AT MOST 1048576: true; the input reads as it did. -/
def drawBelowUptoRow : OpenClaim := { program := "ytfhmhkpplcbiiaa", sum := "b30d6a2e8c81f856a1eff9074a04beb758b73e1c9b5c966222855017cd8517e4", func := "bikeshare/bikesharelaw11.DrawBelow", spec := "drawBelow", apart := false, narrowed := true }
def DrawBelowUptoSaid : Prop := drawBelowUptoRow.holds Try.pinned (OpenSpec.upto drawBelowSpec)

/-- 'bikesharelaw11.DrawShuffles', WHERE WHAT IT READS IS OF BULK AT MOST 1048576: true; the input reads as it did. -/
def drawShufflesUptoRow : OpenClaim := { program := "ytfhmhkpplcbiiaa", sum := "b30d6a2e8c81f856a1eff9074a04beb758b73e1c9b5c966222855017cd8517e4", func := "bikeshare/bikesharelaw11.DrawShuffles", spec := "drawShuffles", apart := false, narrowed := true }
def DrawShufflesUptoSaid : Prop := drawShufflesUptoRow.holds Try.pinned (OpenSpec.upto drawShufflesSpec)

/-- 'bikesharelaw11.DrawExact', WHERE WHAT IT READS IS OF BULK AT MOST 1048576: true; the input reads as it did. -/
def drawExactUptoRow : OpenClaim := { program := "ytfhmhkpplcbiiaa", sum := "b30d6a2e8c81f856a1eff9074a04beb758b73e1c9b5c966222855017cd8517e4", func := "bikeshare/bikesharelaw11.DrawExact", spec := "drawExact", apart := false, narrowed := true }
def DrawExactUptoSaid : Prop := drawExactUptoRow.holds Try.pinned (OpenSpec.upto drawExactSpec)

/-- 'bikesharelaw11.DrawFair', WHERE WHAT IT READS IS OF BULK AT MOST 1048576: true; the input reads as it did. -/
def drawFairUptoRow : OpenClaim := { program := "ytfhmhkpplcbiiaa", sum := "b30d6a2e8c81f856a1eff9074a04beb758b73e1c9b5c966222855017cd8517e4", func := "bikeshare/bikesharelaw11.DrawFair", spec := "drawFair", apart := false, narrowed := true }
def DrawFairUptoSaid : Prop := drawFairUptoRow.holds Try.pinned (OpenSpec.upto drawFairSpec)

/-- 'bikesharelaw11.DrawOrders', WHERE WHAT IT READS IS OF BULK AT MOST 1048576: true; the input reads as it did. -/
def drawOrdersUptoRow : OpenClaim := { program := "ytfhmhkpplcbiiaa", sum := "b30d6a2e8c81f856a1eff9074a04beb758b73e1c9b5c966222855017cd8517e4", func := "bikeshare/bikesharelaw11.DrawOrders", spec := "drawOrders", apart := false, narrowed := true }
def DrawOrdersUptoSaid : Prop := drawOrdersUptoRow.holds Try.pinned (OpenSpec.upto drawOrdersSpec)

/-- 'bikesharelaw11.DrawParts', WHERE WHAT IT READS IS OF BULK AT MOST 1048576: true; the input reads as it did. -/
def drawPartsUptoRow : OpenClaim := { program := "ytfhmhkpplcbiiaa", sum := "b30d6a2e8c81f856a1eff9074a04beb758b73e1c9b5c966222855017cd8517e4", func := "bikeshare/bikesharelaw11.DrawParts", spec := "drawParts", apart := false, narrowed := true }
def DrawPartsUptoSaid : Prop := drawPartsUptoRow.holds Try.pinned (OpenSpec.upto drawPartsSpec)

/-- 'bikesharelaw40.ForecastRates', WHERE WHAT IT READS IS OF BULK AT MOST 1048576: true; the input reads as it did. -/
def forecastRatesUptoRow : OpenClaim := { program := "ytfhmhkpplcbiiaa", sum := "b30d6a2e8c81f856a1eff9074a04beb758b73e1c9b5c966222855017cd8517e4", func := "bikeshare/bikesharelaw40.ForecastRates", spec := "forecastRates", unfollowed := true, recurses := true, apart := false, narrowed := true }
def ForecastRatesUptoSaid : Prop := forecastRatesUptoRow.holds Try.pinned (OpenSpec.upto forecastRatesSpec)

/-- 'bikesharelaw40.ForecastExpects', WHERE WHAT IT READS IS OF BULK AT MOST 1048576: true; the input reads as it did. -/
def forecastExpectsUptoRow : OpenClaim := { program := "ytfhmhkpplcbiiaa", sum := "b30d6a2e8c81f856a1eff9074a04beb758b73e1c9b5c966222855017cd8517e4", func := "bikeshare/bikesharelaw40.ForecastExpects", spec := "forecastExpects", unfollowed := true, recurses := true, apart := false, narrowed := true }
def ForecastExpectsUptoSaid : Prop := forecastExpectsUptoRow.holds Try.pinned (OpenSpec.upto forecastExpectsSpec)

/-- 'bikesharelaw40.ForecastCases', WHERE WHAT IT READS IS OF BULK AT MOST 1048576: true; the input reads as it did. -/
def forecastCasesUptoRow : OpenClaim := { program := "ytfhmhkpplcbiiaa", sum := "b30d6a2e8c81f856a1eff9074a04beb758b73e1c9b5c966222855017cd8517e4", func := "bikeshare/bikesharelaw40.ForecastCases", spec := "forecastCases", unfollowed := true, recurses := true, apart := false, narrowed := true }
def ForecastCasesUptoSaid : Prop := forecastCasesUptoRow.holds Try.pinned (OpenSpec.upto forecastCasesSpec)

/-- 'bikesharelaw40.ForecastMean', WHERE WHAT IT READS IS OF BULK AT MOST 1048576: true; the input reads as it did. -/
def forecastMeanUptoRow : OpenClaim := { program := "ytfhmhkpplcbiiaa", sum := "b30d6a2e8c81f856a1eff9074a04beb758b73e1c9b5c966222855017cd8517e4", func := "bikeshare/bikesharelaw40.ForecastMean", spec := "forecastMean", unfollowed := true, recurses := true, apart := false, narrowed := true }
def ForecastMeanUptoSaid : Prop := forecastMeanUptoRow.holds Try.pinned (OpenSpec.upto forecastMeanSpec)

/-- 'bikesharelaw40.ForecastExact', WHERE WHAT IT READS IS OF BULK AT MOST 1048576: true; the input reads as it did. -/
def forecastExactUptoRow : OpenClaim := { program := "ytfhmhkpplcbiiaa", sum := "b30d6a2e8c81f856a1eff9074a04beb758b73e1c9b5c966222855017cd8517e4", func := "bikeshare/bikesharelaw40.ForecastExact", spec := "forecastExact", unfollowed := true, recurses := true, apart := false, narrowed := true }
def ForecastExactUptoSaid : Prop := forecastExactUptoRow.holds Try.pinned (OpenSpec.upto forecastExactSpec)

/-- 'bikesharelaw40.ForecastGrows', WHERE WHAT IT READS IS OF BULK AT MOST 1048576: true; the input reads as it did. -/
def forecastGrowsUptoRow : OpenClaim := { program := "ytfhmhkpplcbiiaa", sum := "b30d6a2e8c81f856a1eff9074a04beb758b73e1c9b5c966222855017cd8517e4", func := "bikeshare/bikesharelaw40.ForecastGrows", spec := "forecastGrows", unfollowed := true, recurses := true, apart := false, narrowed := true }
def ForecastGrowsUptoSaid : Prop := forecastGrowsUptoRow.holds Try.pinned (OpenSpec.upto forecastGrowsSpec)

/-- 'bikesharelaw40.ForecastKeeps', WHERE WHAT IT READS IS OF BULK AT MOST 1048576: true; the input reads as it did. -/
def forecastKeepsUptoRow : OpenClaim := { program := "ytfhmhkpplcbiiaa", sum := "b30d6a2e8c81f856a1eff9074a04beb758b73e1c9b5c966222855017cd8517e4", func := "bikeshare/bikesharelaw40.ForecastKeeps", spec := "forecastKeeps", unfollowed := true, recurses := true, apart := false, narrowed := true }
def ForecastKeepsUptoSaid : Prop := forecastKeepsUptoRow.holds Try.pinned (OpenSpec.upto forecastKeepsSpec)

end Rows
end Go.Proofs.Ytfhmhkpplcbiiaa
