/-
  No cell of these rows narrows 'for every input' (looked for: loops, veiled, ifaces, maps, wideKeys, modest, calm, conditions, laid).
  DERIVED. THE GIVEN ROWS OF THIS SEAT. 11 by the template 'for every input the law returns true; each argument reads behind the call as it read before'; 0 by the template 'total and deterministic' (their statements: YtbclbcldplmppaaTotals.lean).
  GIVEN WITH THE SEED: the statements are not yours to turn. If you find one false, say at which input.
  Laid BY PROGRAM, IN A SANDBOX (cutbox-rows.mjs): the forced cells as the released guide's own fill.sh prints them over the translation 3050484b42f9f009… (all of the seat's roots in one cut). By AI agents, Wed Nov 11 2026. No macro, syntax, notation, axiom, sorry.
-/
import Derived.Test.YtbclbcldplmppaaChecked
import GoSem.Claim
import GoSem.ClaimJoined
import GoSem.ClaimMapViews
import Derived.JoinedTies
import Derived.KernelRfl
namespace Go.Proofs.Ytbclbcldplmppaa
/- THE CELL 'sum', in the pinned program and in every row, IS THE sha256 OF THE DUMP (.gsa) THAT YtbclbcldplmppaaProg.lean LOADS. Nothing in Lean hashes anything: it is a label: what it is worth is what the hold of that sum in a sandbox is worth. -/
noncomputable def Try.pinned : Pinned := { name := "ytbclbcldplmppaa", sum := "3050484b42f9f009ee071317039abc3888f0d61e32c4731bf37121b07a8d40e2", checked := Try.checked }
namespace Rows
def none {H : Type} : Left H := { results := [], args := [] }

/-- 'studworklaw04.GearPistons': WHATEVER THE INPUT: true; the input reads as it did. -/
def gearPistonsSpec : ChangeSpec := { name := "gearPistons", fn := fun _ => fun
  | [d1, d2, d3] => { results := [.lit (.bool true)], args := [d1, d2, d3] }
  | _ => none }
def gearPistonsRow : OpenClaim := { program := "ytbclbcldplmppaa", sum := "3050484b42f9f009ee071317039abc3888f0d61e32c4731bf37121b07a8d40e2", func := "studwork/studworklaw04.GearPistons", spec := "gearPistons", apart := false }
def GearPistonsSaid : Prop := gearPistonsRow.holds Try.pinned (OpenSpec.ofChange gearPistonsSpec)

/-- ITS FALSE NEIGHBOUR: 'it returns false'. Refute it at one input. -/
def gearPistonsWrong : ChangeSpec := { name := "gearPistons", fn := fun _ => fun
  | [d1, d2, d3] => { results := [.lit (.bool false)], args := [d1, d2, d3] }
  | _ => none }
def GearPistonsWrongFalsely : Prop := gearPistonsRow.holds Try.pinned (OpenSpec.ofChange gearPistonsWrong)

/-- 'studworklaw04.GearTrains': WHATEVER THE INPUT: true; the input reads as it did. -/
def gearTrainsSpec : ChangeSpec := { name := "gearTrains", fn := fun _ => fun
  | [d1, d2, d3, d4] => { results := [.lit (.bool true)], args := [d1, d2, d3, d4] }
  | _ => none }
def gearTrainsRow : OpenClaim := { program := "ytbclbcldplmppaa", sum := "3050484b42f9f009ee071317039abc3888f0d61e32c4731bf37121b07a8d40e2", func := "studwork/studworklaw04.GearTrains", spec := "gearTrains", inPlace := ["math/bits.Sub64", "math/bits.Add64"], unfollowed := true, recurses := true, named := ["math/bits.divideError", "math/bits.overflowError"], apart := false }
def GearTrainsSaid : Prop := gearTrainsRow.holds Try.pinned (OpenSpec.ofChange gearTrainsSpec)

/-- ITS FALSE NEIGHBOUR: 'it returns false'. Refute it at one input. -/
def gearTrainsWrong : ChangeSpec := { name := "gearTrains", fn := fun _ => fun
  | [d1, d2, d3, d4] => { results := [.lit (.bool false)], args := [d1, d2, d3, d4] }
  | _ => none }
def GearTrainsWrongFalsely : Prop := gearTrainsRow.holds Try.pinned (OpenSpec.ofChange gearTrainsWrong)

/-- 'studworklaw04.GearVerdicts': WHATEVER THE INPUT: true; the input reads as it did. -/
def gearVerdictsSpec : ChangeSpec := { name := "gearVerdicts", fn := fun _ => fun
  | [d1, d2, d3, d4, d5, d6] => { results := [.lit (.bool true)], args := [d1, d2, d3, d4, d5, d6] }
  | _ => none }
def gearVerdictsRow : OpenClaim := { program := "ytbclbcldplmppaa", sum := "3050484b42f9f009ee071317039abc3888f0d61e32c4731bf37121b07a8d40e2", func := "studwork/studworklaw04.GearVerdicts", spec := "gearVerdicts", inPlace := ["math/bits.Sub64", "math/bits.Add64"], unfollowed := true, recurses := true, named := ["math/bits.divideError", "math/bits.overflowError"], apart := false }
def GearVerdictsSaid : Prop := gearVerdictsRow.holds Try.pinned (OpenSpec.ofChange gearVerdictsSpec)

/-- ITS FALSE NEIGHBOUR: 'it returns false'. Refute it at one input. -/
def gearVerdictsWrong : ChangeSpec := { name := "gearVerdicts", fn := fun _ => fun
  | [d1, d2, d3, d4, d5, d6] => { results := [.lit (.bool false)], args := [d1, d2, d3, d4, d5, d6] }
  | _ => none }
def GearVerdictsWrongFalsely : Prop := gearVerdictsRow.holds Try.pinned (OpenSpec.ofChange gearVerdictsWrong)

/-- 'studworklaw04.GearProved': WHATEVER THE INPUT: true; the input reads as it did. -/
def gearProvedSpec : ChangeSpec := { name := "gearProved", fn := fun _ => fun
  | [d1, d2, d3, d4, d5, d6] => { results := [.lit (.bool true)], args := [d1, d2, d3, d4, d5, d6] }
  | _ => none }
def gearProvedRow : OpenClaim := { program := "ytbclbcldplmppaa", sum := "3050484b42f9f009ee071317039abc3888f0d61e32c4731bf37121b07a8d40e2", func := "studwork/studworklaw04.GearProved", spec := "gearProved", inPlace := ["math/bits.Sub64", "math/bits.Add64"], unfollowed := true, recurses := true, named := ["math/bits.divideError", "math/bits.overflowError"], apart := false }
def GearProvedSaid : Prop := gearProvedRow.holds Try.pinned (OpenSpec.ofChange gearProvedSpec)

/-- ITS FALSE NEIGHBOUR: 'it returns false'. Refute it at one input. -/
def gearProvedWrong : ChangeSpec := { name := "gearProved", fn := fun _ => fun
  | [d1, d2, d3, d4, d5, d6] => { results := [.lit (.bool false)], args := [d1, d2, d3, d4, d5, d6] }
  | _ => none }
def GearProvedWrongFalsely : Prop := gearProvedRow.holds Try.pinned (OpenSpec.ofChange gearProvedWrong)

/-- 'studworklaw04.GearChain': WHATEVER THE INPUT: true; the input reads as it did. -/
def gearChainSpec : ChangeSpec := { name := "gearChain", fn := fun _ => fun
  | [d1, d2, d3, d4] => { results := [.lit (.bool true)], args := [d1, d2, d3, d4] }
  | _ => none }
def gearChainRow : OpenClaim := { program := "ytbclbcldplmppaa", sum := "3050484b42f9f009ee071317039abc3888f0d61e32c4731bf37121b07a8d40e2", func := "studwork/studworklaw04.GearChain", spec := "gearChain", inPlace := ["math/bits.Sub64", "math/bits.Add64"], unfollowed := true, recurses := true, named := ["math/bits.divideError", "math/bits.overflowError"], apart := false }
def GearChainSaid : Prop := gearChainRow.holds Try.pinned (OpenSpec.ofChange gearChainSpec)

/-- ITS FALSE NEIGHBOUR: 'it returns false'. Refute it at one input. -/
def gearChainWrong : ChangeSpec := { name := "gearChain", fn := fun _ => fun
  | [d1, d2, d3, d4] => { results := [.lit (.bool false)], args := [d1, d2, d3, d4] }
  | _ => none }
def GearChainWrongFalsely : Prop := gearChainRow.holds Try.pinned (OpenSpec.ofChange gearChainWrong)

/-- 'studworklaw04.GearMore': WHATEVER THE INPUT: true; the input reads as it did. -/
def gearMoreSpec : ChangeSpec := { name := "gearMore", fn := fun _ => fun
  | [d1, d2, d3, d4] => { results := [.lit (.bool true)], args := [d1, d2, d3, d4] }
  | _ => none }
def gearMoreRow : OpenClaim := { program := "ytbclbcldplmppaa", sum := "3050484b42f9f009ee071317039abc3888f0d61e32c4731bf37121b07a8d40e2", func := "studwork/studworklaw04.GearMore", spec := "gearMore", inPlace := ["math/bits.Sub64", "math/bits.Add64"], unfollowed := true, recurses := true, named := ["math/bits.divideError", "math/bits.overflowError"], apart := false }
def GearMoreSaid : Prop := gearMoreRow.holds Try.pinned (OpenSpec.ofChange gearMoreSpec)

/-- ITS FALSE NEIGHBOUR: 'it returns false'. Refute it at one input. -/
def gearMoreWrong : ChangeSpec := { name := "gearMore", fn := fun _ => fun
  | [d1, d2, d3, d4] => { results := [.lit (.bool false)], args := [d1, d2, d3, d4] }
  | _ => none }
def GearMoreWrongFalsely : Prop := gearMoreRow.holds Try.pinned (OpenSpec.ofChange gearMoreWrong)

/-- 'studworklaw04.GearTicks': WHATEVER THE INPUT: true; the input reads as it did. -/
def gearTicksSpec : ChangeSpec := { name := "gearTicks", fn := fun _ => fun
  | [d1, d2] => { results := [.lit (.bool true)], args := [d1, d2] }
  | _ => none }
def gearTicksRow : OpenClaim := { program := "ytbclbcldplmppaa", sum := "3050484b42f9f009ee071317039abc3888f0d61e32c4731bf37121b07a8d40e2", func := "studwork/studworklaw04.GearTicks", spec := "gearTicks", inPlace := ["math/bits.Sub64", "math/bits.Add64"], unfollowed := true, recurses := true, named := ["math/bits.divideError", "math/bits.overflowError"], apart := false }
def GearTicksSaid : Prop := gearTicksRow.holds Try.pinned (OpenSpec.ofChange gearTicksSpec)

/-- ITS FALSE NEIGHBOUR: 'it returns false'. Refute it at one input. -/
def gearTicksWrong : ChangeSpec := { name := "gearTicks", fn := fun _ => fun
  | [d1, d2] => { results := [.lit (.bool false)], args := [d1, d2] }
  | _ => none }
def GearTicksWrongFalsely : Prop := gearTicksRow.holds Try.pinned (OpenSpec.ofChange gearTicksWrong)

/-- 'studworklaw04.GearMoves': WHATEVER THE INPUT: true; the input reads as it did. -/
def gearMovesSpec : ChangeSpec := { name := "gearMoves", fn := fun _ => fun
  | [d1, d2, d3, d4] => { results := [.lit (.bool true)], args := [d1, d2, d3, d4] }
  | _ => none }
def gearMovesRow : OpenClaim := { program := "ytbclbcldplmppaa", sum := "3050484b42f9f009ee071317039abc3888f0d61e32c4731bf37121b07a8d40e2", func := "studwork/studworklaw04.GearMoves", spec := "gearMoves", inPlace := ["math/bits.Sub64", "math/bits.Add64"], unfollowed := true, recurses := true, named := ["math/bits.divideError", "math/bits.overflowError"], apart := false }
def GearMovesSaid : Prop := gearMovesRow.holds Try.pinned (OpenSpec.ofChange gearMovesSpec)

/-- ITS FALSE NEIGHBOUR: 'it returns false'. Refute it at one input. -/
def gearMovesWrong : ChangeSpec := { name := "gearMoves", fn := fun _ => fun
  | [d1, d2, d3, d4] => { results := [.lit (.bool false)], args := [d1, d2, d3, d4] }
  | _ => none }
def GearMovesWrongFalsely : Prop := gearMovesRow.holds Try.pinned (OpenSpec.ofChange gearMovesWrong)

/-- 'studworklaw04.GearSlips': WHATEVER THE INPUT: true; the input reads as it did. -/
def gearSlipsSpec : ChangeSpec := { name := "gearSlips", fn := fun _ => fun
  | [d1, d2, d3] => { results := [.lit (.bool true)], args := [d1, d2, d3] }
  | _ => none }
def gearSlipsRow : OpenClaim := { program := "ytbclbcldplmppaa", sum := "3050484b42f9f009ee071317039abc3888f0d61e32c4731bf37121b07a8d40e2", func := "studwork/studworklaw04.GearSlips", spec := "gearSlips", inPlace := ["math/bits.Sub64", "math/bits.Add64"], unfollowed := true, recurses := true, named := ["math/bits.divideError", "math/bits.overflowError"], apart := false }
def GearSlipsSaid : Prop := gearSlipsRow.holds Try.pinned (OpenSpec.ofChange gearSlipsSpec)

/-- ITS FALSE NEIGHBOUR: 'it returns false'. Refute it at one input. -/
def gearSlipsWrong : ChangeSpec := { name := "gearSlips", fn := fun _ => fun
  | [d1, d2, d3] => { results := [.lit (.bool false)], args := [d1, d2, d3] }
  | _ => none }
def GearSlipsWrongFalsely : Prop := gearSlipsRow.holds Try.pinned (OpenSpec.ofChange gearSlipsWrong)

/-- 'studworklaw04.GearCycle': WHATEVER THE INPUT: true; the input reads as it did. -/
def gearCycleSpec : ChangeSpec := { name := "gearCycle", fn := fun _ => fun
  | [d] => { results := [.lit (.bool true)], args := [d] }
  | _ => none }
def gearCycleRow : OpenClaim := { program := "ytbclbcldplmppaa", sum := "3050484b42f9f009ee071317039abc3888f0d61e32c4731bf37121b07a8d40e2", func := "studwork/studworklaw04.GearCycle", spec := "gearCycle", inPlace := ["math/bits.Sub64", "math/bits.Add64"], unfollowed := true, recurses := true, named := ["math/bits.divideError", "math/bits.overflowError"], apart := false }
def GearCycleSaid : Prop := gearCycleRow.holds Try.pinned (OpenSpec.ofChange gearCycleSpec)

/-- ITS FALSE NEIGHBOUR: 'it returns false'. Refute it at one input. -/
def gearCycleWrong : ChangeSpec := { name := "gearCycle", fn := fun _ => fun
  | [d] => { results := [.lit (.bool false)], args := [d] }
  | _ => none }
def GearCycleWrongFalsely : Prop := gearCycleRow.holds Try.pinned (OpenSpec.ofChange gearCycleWrong)

/-- 'studworklaw04.GearExamples': WHATEVER THE INPUT: true; the input reads as it did. -/
def gearExamplesSpec : ChangeSpec := { name := "gearExamples", fn := fun _ => fun
  | [] => { results := [.lit (.bool true)], args := [] }
  | _ => none }
def gearExamplesRow : OpenClaim := { program := "ytbclbcldplmppaa", sum := "3050484b42f9f009ee071317039abc3888f0d61e32c4731bf37121b07a8d40e2", func := "studwork/studworklaw04.GearExamples", spec := "gearExamples", inPlace := ["math/bits.Sub64", "math/bits.Add64"], unfollowed := true, recurses := true, named := ["math/bits.divideError", "math/bits.overflowError"], apart := false }
def GearExamplesSaid : Prop := gearExamplesRow.holds Try.pinned (OpenSpec.ofChange gearExamplesSpec)

/-- ITS FALSE NEIGHBOUR: 'it returns false'. Refute it at one input. -/
def gearExamplesWrong : ChangeSpec := { name := "gearExamples", fn := fun _ => fun
  | [] => { results := [.lit (.bool false)], args := [] }
  | _ => none }
def GearExamplesWrongFalsely : Prop := gearExamplesRow.holds Try.pinned (OpenSpec.ofChange gearExamplesWrong)

/- THE SECOND FORM. 'bulk': how many values and letters a reading holds, each counted each time it is reached (what is shared counts as often as it is met; a slice's spare places count too). A statement '..UptoSaid' is the law's where the arguments, and the package variables that the reading takes, are together of bulk at most 1048576: NARROWER than '..Said'. Prove '..Said' where nothing that the law and all that it calls make is longer than what came in: it says more and counts as full. Else prove '..UptoSaid'. A law counts once. -/
mutual
def uptoBulk {H : Type} : DataW H → Nat
  | .lit (.string bytes) => bytes.length + 1
  | .lit _ => 1
  | .nil => 1
  | .ptr d => uptoBulk d + 1
  | .slice elems spare => uptoBulkAll elems + uptoBulkAll spare + 1
  | .agg parts => uptoBulkAll parts + 1
  | .iface _ d => uptoBulk d + 1
  | .map entries => uptoBulkEntries entries + 1
  | .held _ => 1
def uptoBulkAll {H : Type} : List (DataW H) → Nat
  | [] => 0
  | d :: r => uptoBulk d + uptoBulkAll r
def uptoBulkEntries {H : Type} : List (Lit × DataW H) → Nat
  | [] => 0
  | x :: r => uptoBulkEntry x + uptoBulkEntries r
def uptoBulkEntry {H : Type} : Lit × DataW H → Nat
  | (.string bytes, d) => bytes.length + uptoBulk d + 1
  | (_, d) => uptoBulk d + 1
 end
def uptoSmall : (H : Type) → List (DataW H) → Bool := fun _ ds => decide (uptoBulkAll ds ≤ 1048576)
def OpenSpec.upto (s : _root_.Go.ChangeSpec) : _root_.Go.OpenSpec := { _root_.Go.OpenSpec.ofChange s with cond := some uptoSmall }

/-- 'studworklaw04.GearPistons', WHERE WHAT IT READS IS OF BULK AT MOST 1048576: true; the input reads as it did. -/
def gearPistonsUptoRow : OpenClaim := { program := "ytbclbcldplmppaa", sum := "3050484b42f9f009ee071317039abc3888f0d61e32c4731bf37121b07a8d40e2", func := "studwork/studworklaw04.GearPistons", spec := "gearPistons", apart := false, narrowed := true }
def GearPistonsUptoSaid : Prop := gearPistonsUptoRow.holds Try.pinned (OpenSpec.upto gearPistonsSpec)

/-- 'studworklaw04.GearTrains', WHERE WHAT IT READS IS OF BULK AT MOST 1048576: true; the input reads as it did. -/
def gearTrainsUptoRow : OpenClaim := { program := "ytbclbcldplmppaa", sum := "3050484b42f9f009ee071317039abc3888f0d61e32c4731bf37121b07a8d40e2", func := "studwork/studworklaw04.GearTrains", spec := "gearTrains", inPlace := ["math/bits.Sub64", "math/bits.Add64"], unfollowed := true, recurses := true, named := ["math/bits.divideError", "math/bits.overflowError"], apart := false, narrowed := true }
def GearTrainsUptoSaid : Prop := gearTrainsUptoRow.holds Try.pinned (OpenSpec.upto gearTrainsSpec)

/-- 'studworklaw04.GearVerdicts', WHERE WHAT IT READS IS OF BULK AT MOST 1048576: true; the input reads as it did. -/
def gearVerdictsUptoRow : OpenClaim := { program := "ytbclbcldplmppaa", sum := "3050484b42f9f009ee071317039abc3888f0d61e32c4731bf37121b07a8d40e2", func := "studwork/studworklaw04.GearVerdicts", spec := "gearVerdicts", inPlace := ["math/bits.Sub64", "math/bits.Add64"], unfollowed := true, recurses := true, named := ["math/bits.divideError", "math/bits.overflowError"], apart := false, narrowed := true }
def GearVerdictsUptoSaid : Prop := gearVerdictsUptoRow.holds Try.pinned (OpenSpec.upto gearVerdictsSpec)

/-- 'studworklaw04.GearProved', WHERE WHAT IT READS IS OF BULK AT MOST 1048576: true; the input reads as it did. -/
def gearProvedUptoRow : OpenClaim := { program := "ytbclbcldplmppaa", sum := "3050484b42f9f009ee071317039abc3888f0d61e32c4731bf37121b07a8d40e2", func := "studwork/studworklaw04.GearProved", spec := "gearProved", inPlace := ["math/bits.Sub64", "math/bits.Add64"], unfollowed := true, recurses := true, named := ["math/bits.divideError", "math/bits.overflowError"], apart := false, narrowed := true }
def GearProvedUptoSaid : Prop := gearProvedUptoRow.holds Try.pinned (OpenSpec.upto gearProvedSpec)

/-- 'studworklaw04.GearChain', WHERE WHAT IT READS IS OF BULK AT MOST 1048576: true; the input reads as it did. -/
def gearChainUptoRow : OpenClaim := { program := "ytbclbcldplmppaa", sum := "3050484b42f9f009ee071317039abc3888f0d61e32c4731bf37121b07a8d40e2", func := "studwork/studworklaw04.GearChain", spec := "gearChain", inPlace := ["math/bits.Sub64", "math/bits.Add64"], unfollowed := true, recurses := true, named := ["math/bits.divideError", "math/bits.overflowError"], apart := false, narrowed := true }
def GearChainUptoSaid : Prop := gearChainUptoRow.holds Try.pinned (OpenSpec.upto gearChainSpec)

/-- 'studworklaw04.GearMore', WHERE WHAT IT READS IS OF BULK AT MOST 1048576: true; the input reads as it did. -/
def gearMoreUptoRow : OpenClaim := { program := "ytbclbcldplmppaa", sum := "3050484b42f9f009ee071317039abc3888f0d61e32c4731bf37121b07a8d40e2", func := "studwork/studworklaw04.GearMore", spec := "gearMore", inPlace := ["math/bits.Sub64", "math/bits.Add64"], unfollowed := true, recurses := true, named := ["math/bits.divideError", "math/bits.overflowError"], apart := false, narrowed := true }
def GearMoreUptoSaid : Prop := gearMoreUptoRow.holds Try.pinned (OpenSpec.upto gearMoreSpec)

/-- 'studworklaw04.GearTicks', WHERE WHAT IT READS IS OF BULK AT MOST 1048576: true; the input reads as it did. -/
def gearTicksUptoRow : OpenClaim := { program := "ytbclbcldplmppaa", sum := "3050484b42f9f009ee071317039abc3888f0d61e32c4731bf37121b07a8d40e2", func := "studwork/studworklaw04.GearTicks", spec := "gearTicks", inPlace := ["math/bits.Sub64", "math/bits.Add64"], unfollowed := true, recurses := true, named := ["math/bits.divideError", "math/bits.overflowError"], apart := false, narrowed := true }
def GearTicksUptoSaid : Prop := gearTicksUptoRow.holds Try.pinned (OpenSpec.upto gearTicksSpec)

/-- 'studworklaw04.GearMoves', WHERE WHAT IT READS IS OF BULK AT MOST 1048576: true; the input reads as it did. -/
def gearMovesUptoRow : OpenClaim := { program := "ytbclbcldplmppaa", sum := "3050484b42f9f009ee071317039abc3888f0d61e32c4731bf37121b07a8d40e2", func := "studwork/studworklaw04.GearMoves", spec := "gearMoves", inPlace := ["math/bits.Sub64", "math/bits.Add64"], unfollowed := true, recurses := true, named := ["math/bits.divideError", "math/bits.overflowError"], apart := false, narrowed := true }
def GearMovesUptoSaid : Prop := gearMovesUptoRow.holds Try.pinned (OpenSpec.upto gearMovesSpec)

/-- 'studworklaw04.GearSlips', WHERE WHAT IT READS IS OF BULK AT MOST 1048576: true; the input reads as it did. -/
def gearSlipsUptoRow : OpenClaim := { program := "ytbclbcldplmppaa", sum := "3050484b42f9f009ee071317039abc3888f0d61e32c4731bf37121b07a8d40e2", func := "studwork/studworklaw04.GearSlips", spec := "gearSlips", inPlace := ["math/bits.Sub64", "math/bits.Add64"], unfollowed := true, recurses := true, named := ["math/bits.divideError", "math/bits.overflowError"], apart := false, narrowed := true }
def GearSlipsUptoSaid : Prop := gearSlipsUptoRow.holds Try.pinned (OpenSpec.upto gearSlipsSpec)

/-- 'studworklaw04.GearCycle', WHERE WHAT IT READS IS OF BULK AT MOST 1048576: true; the input reads as it did. -/
def gearCycleUptoRow : OpenClaim := { program := "ytbclbcldplmppaa", sum := "3050484b42f9f009ee071317039abc3888f0d61e32c4731bf37121b07a8d40e2", func := "studwork/studworklaw04.GearCycle", spec := "gearCycle", inPlace := ["math/bits.Sub64", "math/bits.Add64"], unfollowed := true, recurses := true, named := ["math/bits.divideError", "math/bits.overflowError"], apart := false, narrowed := true }
def GearCycleUptoSaid : Prop := gearCycleUptoRow.holds Try.pinned (OpenSpec.upto gearCycleSpec)

/-- 'studworklaw04.GearExamples', WHERE WHAT IT READS IS OF BULK AT MOST 1048576: true; the input reads as it did. -/
def gearExamplesUptoRow : OpenClaim := { program := "ytbclbcldplmppaa", sum := "3050484b42f9f009ee071317039abc3888f0d61e32c4731bf37121b07a8d40e2", func := "studwork/studworklaw04.GearExamples", spec := "gearExamples", inPlace := ["math/bits.Sub64", "math/bits.Add64"], unfollowed := true, recurses := true, named := ["math/bits.divideError", "math/bits.overflowError"], apart := false, narrowed := true }
def GearExamplesUptoSaid : Prop := gearExamplesUptoRow.holds Try.pinned (OpenSpec.upto gearExamplesSpec)

end Rows
end Go.Proofs.Ytbclbcldplmppaa
