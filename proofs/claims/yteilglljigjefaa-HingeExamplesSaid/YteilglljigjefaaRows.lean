/-
  No cell of these rows narrows 'for every input' (looked for: loops, veiled, ifaces, maps, wideKeys, modest, calm, conditions, laid).
  DERIVED. THE GIVEN ROWS OF THIS SEAT. 14 by the template 'for every input the law returns true; each argument reads behind the call as it read before'; 0 by the template 'total and deterministic' (their statements: YteilglljigjefaaTotals.lean).
  GIVEN WITH THE SEED: the statements are not yours to turn. If you find one false, say at which input.
  Laid BY PROGRAM, IN A SANDBOX (cutbox-rows.mjs): the forced cells as the released guide's own fill.sh prints them over the translation a58b053d34d2d6a7… (all of the seat's roots in one cut). By AI agents, Wed Nov 11 2026. No macro, syntax, notation, axiom, sorry.
-/
import Derived.Test.YteilglljigjefaaChecked
import GoSem.Claim
import GoSem.ClaimJoined
import GoSem.ClaimMapViews
import Derived.JoinedTies
import Derived.KernelRfl
namespace Go.Proofs.Yteilglljigjefaa
/- THE CELL 'sum', in the pinned program and in every row, IS THE sha256 OF THE DUMP (.gsa) THAT YteilglljigjefaaProg.lean LOADS. Nothing in Lean hashes anything: it is a label: what it is worth is what the hold of that sum in a sandbox is worth. -/
noncomputable def Try.pinned : Pinned := { name := "yteilglljigjefaa", sum := "a58b053d34d2d6a72bee0c4bd3e7dc2f16295e55748386ed821fd52c5e2b59d9", checked := Try.checked }
namespace Rows
def none {H : Type} : Left H := { results := [], args := [] }

/-- 'studworklaw05.HingeCloses': WHATEVER THE INPUT: true; the input reads as it did. -/
def hingeClosesSpec : ChangeSpec := { name := "hingeCloses", fn := fun _ => fun
  | [d1, d2, d3] => { results := [.lit (.bool true)], args := [d1, d2, d3] }
  | _ => none }
def hingeClosesRow : OpenClaim := { program := "yteilglljigjefaa", sum := "a58b053d34d2d6a72bee0c4bd3e7dc2f16295e55748386ed821fd52c5e2b59d9", func := "studwork/studworklaw05.HingeCloses", spec := "hingeCloses", unfollowed := true, recurses := true, plainKeys := false, apart := false }
def HingeClosesSaid : Prop := hingeClosesRow.holds Try.pinned (OpenSpec.ofChange hingeClosesSpec)

/-- ITS FALSE NEIGHBOUR: 'it returns false'. Refute it at one input. -/
def hingeClosesWrong : ChangeSpec := { name := "hingeCloses", fn := fun _ => fun
  | [d1, d2, d3] => { results := [.lit (.bool false)], args := [d1, d2, d3] }
  | _ => none }
def HingeClosesWrongFalsely : Prop := hingeClosesRow.holds Try.pinned (OpenSpec.ofChange hingeClosesWrong)

/-- 'studworklaw05.HingePoses': WHATEVER THE INPUT: true; the input reads as it did. -/
def hingePosesSpec : ChangeSpec := { name := "hingePoses", fn := fun _ => fun
  | [d1, d2, d3, d4, d5, d6] => { results := [.lit (.bool true)], args := [d1, d2, d3, d4, d5, d6] }
  | _ => none }
def hingePosesRow : OpenClaim := { program := "yteilglljigjefaa", sum := "a58b053d34d2d6a72bee0c4bd3e7dc2f16295e55748386ed821fd52c5e2b59d9", func := "studwork/studworklaw05.HingePoses", spec := "hingePoses", unfollowed := true, recurses := true, plainKeys := false, apart := false }
def HingePosesSaid : Prop := hingePosesRow.holds Try.pinned (OpenSpec.ofChange hingePosesSpec)

/-- ITS FALSE NEIGHBOUR: 'it returns false'. Refute it at one input. -/
def hingePosesWrong : ChangeSpec := { name := "hingePoses", fn := fun _ => fun
  | [d1, d2, d3, d4, d5, d6] => { results := [.lit (.bool false)], args := [d1, d2, d3, d4, d5, d6] }
  | _ => none }
def HingePosesWrongFalsely : Prop := hingePosesRow.holds Try.pinned (OpenSpec.ofChange hingePosesWrong)

/-- 'studworklaw05.HingeSwings': WHATEVER THE INPUT: true; the input reads as it did. -/
def hingeSwingsSpec : ChangeSpec := { name := "hingeSwings", fn := fun _ => fun
  | [d1, d2] => { results := [.lit (.bool true)], args := [d1, d2] }
  | _ => none }
def hingeSwingsRow : OpenClaim := { program := "yteilglljigjefaa", sum := "a58b053d34d2d6a72bee0c4bd3e7dc2f16295e55748386ed821fd52c5e2b59d9", func := "studwork/studworklaw05.HingeSwings", spec := "hingeSwings", unfollowed := true, recurses := true, plainKeys := false, apart := false }
def HingeSwingsSaid : Prop := hingeSwingsRow.holds Try.pinned (OpenSpec.ofChange hingeSwingsSpec)

/-- ITS FALSE NEIGHBOUR: 'it returns false'. Refute it at one input. -/
def hingeSwingsWrong : ChangeSpec := { name := "hingeSwings", fn := fun _ => fun
  | [d1, d2] => { results := [.lit (.bool false)], args := [d1, d2] }
  | _ => none }
def HingeSwingsWrongFalsely : Prop := hingeSwingsRow.holds Try.pinned (OpenSpec.ofChange hingeSwingsWrong)

/-- 'studworklaw05.HingeClashes': WHATEVER THE INPUT: true; the input reads as it did. -/
def hingeClashesSpec : ChangeSpec := { name := "hingeClashes", fn := fun _ => fun
  | [d1, d2, d3, d4] => { results := [.lit (.bool true)], args := [d1, d2, d3, d4] }
  | _ => none }
def hingeClashesRow : OpenClaim := { program := "yteilglljigjefaa", sum := "a58b053d34d2d6a72bee0c4bd3e7dc2f16295e55748386ed821fd52c5e2b59d9", func := "studwork/studworklaw05.HingeClashes", spec := "hingeClashes", unfollowed := true, recurses := true, plainKeys := false, apart := false }
def HingeClashesSaid : Prop := hingeClashesRow.holds Try.pinned (OpenSpec.ofChange hingeClashesSpec)

/-- ITS FALSE NEIGHBOUR: 'it returns false'. Refute it at one input. -/
def hingeClashesWrong : ChangeSpec := { name := "hingeClashes", fn := fun _ => fun
  | [d1, d2, d3, d4] => { results := [.lit (.bool false)], args := [d1, d2, d3, d4] }
  | _ => none }
def HingeClashesWrongFalsely : Prop := hingeClashesRow.holds Try.pinned (OpenSpec.ofChange hingeClashesWrong)

/-- 'studworklaw05.HingeProved': WHATEVER THE INPUT: true; the input reads as it did. -/
def hingeProvedSpec : ChangeSpec := { name := "hingeProved", fn := fun _ => fun
  | [d1, d2, d3, d4] => { results := [.lit (.bool true)], args := [d1, d2, d3, d4] }
  | _ => none }
def hingeProvedRow : OpenClaim := { program := "yteilglljigjefaa", sum := "a58b053d34d2d6a72bee0c4bd3e7dc2f16295e55748386ed821fd52c5e2b59d9", func := "studwork/studworklaw05.HingeProved", spec := "hingeProved", unfollowed := true, recurses := true, plainKeys := false, apart := false }
def HingeProvedSaid : Prop := hingeProvedRow.holds Try.pinned (OpenSpec.ofChange hingeProvedSpec)

/-- ITS FALSE NEIGHBOUR: 'it returns false'. Refute it at one input. -/
def hingeProvedWrong : ChangeSpec := { name := "hingeProved", fn := fun _ => fun
  | [d1, d2, d3, d4] => { results := [.lit (.bool false)], args := [d1, d2, d3, d4] }
  | _ => none }
def HingeProvedWrongFalsely : Prop := hingeProvedRow.holds Try.pinned (OpenSpec.ofChange hingeProvedWrong)

/-- 'studworklaw05.HingeRigid': WHATEVER THE INPUT: true; the input reads as it did. -/
def hingeRigidSpec : ChangeSpec := { name := "hingeRigid", fn := fun _ => fun
  | [d] => { results := [.lit (.bool true)], args := [d] }
  | _ => none }
def hingeRigidRow : OpenClaim := { program := "yteilglljigjefaa", sum := "a58b053d34d2d6a72bee0c4bd3e7dc2f16295e55748386ed821fd52c5e2b59d9", func := "studwork/studworklaw05.HingeRigid", spec := "hingeRigid", unfollowed := true, recurses := true, plainKeys := false, apart := false }
def HingeRigidSaid : Prop := hingeRigidRow.holds Try.pinned (OpenSpec.ofChange hingeRigidSpec)

/-- ITS FALSE NEIGHBOUR: 'it returns false'. Refute it at one input. -/
def hingeRigidWrong : ChangeSpec := { name := "hingeRigid", fn := fun _ => fun
  | [d] => { results := [.lit (.bool false)], args := [d] }
  | _ => none }
def HingeRigidWrongFalsely : Prop := hingeRigidRow.holds Try.pinned (OpenSpec.ofChange hingeRigidWrong)

/-- 'studworklaw05.HingeAngles': WHATEVER THE INPUT: true; the input reads as it did. -/
def hingeAnglesSpec : ChangeSpec := { name := "hingeAngles", fn := fun _ => fun
  | [d1, d2, d3] => { results := [.lit (.bool true)], args := [d1, d2, d3] }
  | _ => none }
def hingeAnglesRow : OpenClaim := { program := "yteilglljigjefaa", sum := "a58b053d34d2d6a72bee0c4bd3e7dc2f16295e55748386ed821fd52c5e2b59d9", func := "studwork/studworklaw05.HingeAngles", spec := "hingeAngles", unfollowed := true, recurses := true, plainKeys := false, apart := false }
def HingeAnglesSaid : Prop := hingeAnglesRow.holds Try.pinned (OpenSpec.ofChange hingeAnglesSpec)

/-- ITS FALSE NEIGHBOUR: 'it returns false'. Refute it at one input. -/
def hingeAnglesWrong : ChangeSpec := { name := "hingeAngles", fn := fun _ => fun
  | [d1, d2, d3] => { results := [.lit (.bool false)], args := [d1, d2, d3] }
  | _ => none }
def HingeAnglesWrongFalsely : Prop := hingeAnglesRow.holds Try.pinned (OpenSpec.ofChange hingeAnglesWrong)

/-- 'studworklaw05.HingePart': WHATEVER THE INPUT: true; the input reads as it did. -/
def hingePartSpec : ChangeSpec := { name := "hingePart", fn := fun _ => fun
  | [d1, d2, d3, d4] => { results := [.lit (.bool true)], args := [d1, d2, d3, d4] }
  | _ => none }
def hingePartRow : OpenClaim := { program := "yteilglljigjefaa", sum := "a58b053d34d2d6a72bee0c4bd3e7dc2f16295e55748386ed821fd52c5e2b59d9", func := "studwork/studworklaw05.HingePart", spec := "hingePart", unfollowed := true, recurses := true, plainKeys := false, apart := false }
def HingePartSaid : Prop := hingePartRow.holds Try.pinned (OpenSpec.ofChange hingePartSpec)

/-- ITS FALSE NEIGHBOUR: 'it returns false'. Refute it at one input. -/
def hingePartWrong : ChangeSpec := { name := "hingePart", fn := fun _ => fun
  | [d1, d2, d3, d4] => { results := [.lit (.bool false)], args := [d1, d2, d3, d4] }
  | _ => none }
def HingePartWrongFalsely : Prop := hingePartRow.holds Try.pinned (OpenSpec.ofChange hingePartWrong)

/-- 'studworklaw05.HingeClosed': WHATEVER THE INPUT: true; the input reads as it did. -/
def hingeClosedSpec : ChangeSpec := { name := "hingeClosed", fn := fun _ => fun
  | [d1, d2, d3, d4] => { results := [.lit (.bool true)], args := [d1, d2, d3, d4] }
  | _ => none }
def hingeClosedRow : OpenClaim := { program := "yteilglljigjefaa", sum := "a58b053d34d2d6a72bee0c4bd3e7dc2f16295e55748386ed821fd52c5e2b59d9", func := "studwork/studworklaw05.HingeClosed", spec := "hingeClosed", unfollowed := true, recurses := true, plainKeys := false, apart := false }
def HingeClosedSaid : Prop := hingeClosedRow.holds Try.pinned (OpenSpec.ofChange hingeClosedSpec)

/-- ITS FALSE NEIGHBOUR: 'it returns false'. Refute it at one input. -/
def hingeClosedWrong : ChangeSpec := { name := "hingeClosed", fn := fun _ => fun
  | [d1, d2, d3, d4] => { results := [.lit (.bool false)], args := [d1, d2, d3, d4] }
  | _ => none }
def HingeClosedWrongFalsely : Prop := hingeClosedRow.holds Try.pinned (OpenSpec.ofChange hingeClosedWrong)

/-- 'studworklaw05.HingeGap': WHATEVER THE INPUT: true; the input reads as it did. -/
def hingeGapSpec : ChangeSpec := { name := "hingeGap", fn := fun _ => fun
  | [d1, d2, d3] => { results := [.lit (.bool true)], args := [d1, d2, d3] }
  | _ => none }
def hingeGapRow : OpenClaim := { program := "yteilglljigjefaa", sum := "a58b053d34d2d6a72bee0c4bd3e7dc2f16295e55748386ed821fd52c5e2b59d9", func := "studwork/studworklaw05.HingeGap", spec := "hingeGap", unfollowed := true, recurses := true, plainKeys := false, apart := false }
def HingeGapSaid : Prop := hingeGapRow.holds Try.pinned (OpenSpec.ofChange hingeGapSpec)

/-- ITS FALSE NEIGHBOUR: 'it returns false'. Refute it at one input. -/
def hingeGapWrong : ChangeSpec := { name := "hingeGap", fn := fun _ => fun
  | [d1, d2, d3] => { results := [.lit (.bool false)], args := [d1, d2, d3] }
  | _ => none }
def HingeGapWrongFalsely : Prop := hingeGapRow.holds Try.pinned (OpenSpec.ofChange hingeGapWrong)

/-- 'studworklaw05.HingeReversed': WHATEVER THE INPUT: true; the input reads as it did. -/
def hingeReversedSpec : ChangeSpec := { name := "hingeReversed", fn := fun _ => fun
  | [d] => { results := [.lit (.bool true)], args := [d] }
  | _ => none }
def hingeReversedRow : OpenClaim := { program := "yteilglljigjefaa", sum := "a58b053d34d2d6a72bee0c4bd3e7dc2f16295e55748386ed821fd52c5e2b59d9", func := "studwork/studworklaw05.HingeReversed", spec := "hingeReversed", unfollowed := true, recurses := true, plainKeys := false, apart := false }
def HingeReversedSaid : Prop := hingeReversedRow.holds Try.pinned (OpenSpec.ofChange hingeReversedSpec)

/-- ITS FALSE NEIGHBOUR: 'it returns false'. Refute it at one input. -/
def hingeReversedWrong : ChangeSpec := { name := "hingeReversed", fn := fun _ => fun
  | [d] => { results := [.lit (.bool false)], args := [d] }
  | _ => none }
def HingeReversedWrongFalsely : Prop := hingeReversedRow.holds Try.pinned (OpenSpec.ofChange hingeReversedWrong)

/-- 'studworklaw05.HingeExamples': WHATEVER THE INPUT: true; the input reads as it did. -/
def hingeExamplesSpec : ChangeSpec := { name := "hingeExamples", fn := fun _ => fun
  | [] => { results := [.lit (.bool true)], args := [] }
  | _ => none }
def hingeExamplesRow : OpenClaim := { program := "yteilglljigjefaa", sum := "a58b053d34d2d6a72bee0c4bd3e7dc2f16295e55748386ed821fd52c5e2b59d9", func := "studwork/studworklaw05.HingeExamples", spec := "hingeExamples", unfollowed := true, recurses := true, plainKeys := false, apart := false }
def HingeExamplesSaid : Prop := hingeExamplesRow.holds Try.pinned (OpenSpec.ofChange hingeExamplesSpec)

/-- ITS FALSE NEIGHBOUR: 'it returns false'. Refute it at one input. -/
def hingeExamplesWrong : ChangeSpec := { name := "hingeExamples", fn := fun _ => fun
  | [] => { results := [.lit (.bool false)], args := [] }
  | _ => none }
def HingeExamplesWrongFalsely : Prop := hingeExamplesRow.holds Try.pinned (OpenSpec.ofChange hingeExamplesWrong)

/-- 'studworklaw05.HingeQuarter': WHATEVER THE INPUT: true; the input reads as it did. -/
def hingeQuarterSpec : ChangeSpec := { name := "hingeQuarter", fn := fun _ => fun
  | [d1, d2] => { results := [.lit (.bool true)], args := [d1, d2] }
  | _ => none }
def hingeQuarterRow : OpenClaim := { program := "yteilglljigjefaa", sum := "a58b053d34d2d6a72bee0c4bd3e7dc2f16295e55748386ed821fd52c5e2b59d9", func := "studwork/studworklaw05.HingeQuarter", spec := "hingeQuarter", unfollowed := true, recurses := true, plainKeys := false, apart := false }
def HingeQuarterSaid : Prop := hingeQuarterRow.holds Try.pinned (OpenSpec.ofChange hingeQuarterSpec)

/-- ITS FALSE NEIGHBOUR: 'it returns false'. Refute it at one input. -/
def hingeQuarterWrong : ChangeSpec := { name := "hingeQuarter", fn := fun _ => fun
  | [d1, d2] => { results := [.lit (.bool false)], args := [d1, d2] }
  | _ => none }
def HingeQuarterWrongFalsely : Prop := hingeQuarterRow.holds Try.pinned (OpenSpec.ofChange hingeQuarterWrong)

/-- 'studworklaw05.HingeSwung': WHATEVER THE INPUT: true; the input reads as it did. -/
def hingeSwungSpec : ChangeSpec := { name := "hingeSwung", fn := fun _ => fun
  | [d1, d2, d3] => { results := [.lit (.bool true)], args := [d1, d2, d3] }
  | _ => none }
def hingeSwungRow : OpenClaim := { program := "yteilglljigjefaa", sum := "a58b053d34d2d6a72bee0c4bd3e7dc2f16295e55748386ed821fd52c5e2b59d9", func := "studwork/studworklaw05.HingeSwung", spec := "hingeSwung", unfollowed := true, recurses := true, plainKeys := false, apart := false }
def HingeSwungSaid : Prop := hingeSwungRow.holds Try.pinned (OpenSpec.ofChange hingeSwungSpec)

/-- ITS FALSE NEIGHBOUR: 'it returns false'. Refute it at one input. -/
def hingeSwungWrong : ChangeSpec := { name := "hingeSwung", fn := fun _ => fun
  | [d1, d2, d3] => { results := [.lit (.bool false)], args := [d1, d2, d3] }
  | _ => none }
def HingeSwungWrongFalsely : Prop := hingeSwungRow.holds Try.pinned (OpenSpec.ofChange hingeSwungWrong)

/- THE SECOND FORM. 'bulk': how many values and letters a reading holds, each counted each time it is reached (what is shared counts as often as it is met; a slice's spare places count too). A statement '..UptoSaid' is the law's where the arguments, and the package variables that the reading takes, are together of bulk at most 1048576: NARROWER than '..Said'. Prove '..Said' where nothing that the law and all that it calls make is longer than what came in: it says more and counts as full. Else prove '..UptoSaid'. A law counts once. -/
mutual
def uptoBulk {H : Type} : DataW H → Nat
  | .lit (.string bytes) => bytes.length + 1
  | .lit _ => 1
  | .nil => 1
  | .ptr d => uptoBulk d + 1
  | .slice elems spare => uptoBulkAll elems + uptoBulkAll spare + 1
  | .agg parts => uptoBulkAll parts + 1
  | .iface _ d => uptoBulk d + 1
  | .map entries => uptoBulkEntries entries + 1
  | .held _ => 1
def uptoBulkAll {H : Type} : List (DataW H) → Nat
  | [] => 0
  | d :: r => uptoBulk d + uptoBulkAll r
def uptoBulkEntries {H : Type} : List (Lit × DataW H) → Nat
  | [] => 0
  | x :: r => uptoBulkEntry x + uptoBulkEntries r
def uptoBulkEntry {H : Type} : Lit × DataW H → Nat
  | (.string bytes, d) => bytes.length + uptoBulk d + 1
  | (_, d) => uptoBulk d + 1
 end
def uptoSmall : (H : Type) → List (DataW H) → Bool := fun _ ds => decide (uptoBulkAll ds ≤ 1048576)
def OpenSpec.upto (s : _root_.Go.ChangeSpec) : _root_.Go.OpenSpec := { _root_.Go.OpenSpec.ofChange s with cond := some uptoSmall }

/-- 'studworklaw05.HingeCloses', WHERE WHAT IT READS IS OF BULK AT MOST 1048576: true; the input reads as it did. -/
def hingeClosesUptoRow : OpenClaim := { program := "yteilglljigjefaa", sum := "a58b053d34d2d6a72bee0c4bd3e7dc2f16295e55748386ed821fd52c5e2b59d9", func := "studwork/studworklaw05.HingeCloses", spec := "hingeCloses", unfollowed := true, recurses := true, plainKeys := false, apart := false, narrowed := true }
def HingeClosesUptoSaid : Prop := hingeClosesUptoRow.holds Try.pinned (OpenSpec.upto hingeClosesSpec)

/-- 'studworklaw05.HingePoses', WHERE WHAT IT READS IS OF BULK AT MOST 1048576: true; the input reads as it did. -/
def hingePosesUptoRow : OpenClaim := { program := "yteilglljigjefaa", sum := "a58b053d34d2d6a72bee0c4bd3e7dc2f16295e55748386ed821fd52c5e2b59d9", func := "studwork/studworklaw05.HingePoses", spec := "hingePoses", unfollowed := true, recurses := true, plainKeys := false, apart := false, narrowed := true }
def HingePosesUptoSaid : Prop := hingePosesUptoRow.holds Try.pinned (OpenSpec.upto hingePosesSpec)

/-- 'studworklaw05.HingeSwings', WHERE WHAT IT READS IS OF BULK AT MOST 1048576: true; the input reads as it did. -/
def hingeSwingsUptoRow : OpenClaim := { program := "yteilglljigjefaa", sum := "a58b053d34d2d6a72bee0c4bd3e7dc2f16295e55748386ed821fd52c5e2b59d9", func := "studwork/studworklaw05.HingeSwings", spec := "hingeSwings", unfollowed := true, recurses := true, plainKeys := false, apart := false, narrowed := true }
def HingeSwingsUptoSaid : Prop := hingeSwingsUptoRow.holds Try.pinned (OpenSpec.upto hingeSwingsSpec)

/-- 'studworklaw05.HingeClashes', WHERE WHAT IT READS IS OF BULK AT MOST 1048576: true; the input reads as it did. -/
def hingeClashesUptoRow : OpenClaim := { program := "yteilglljigjefaa", sum := "a58b053d34d2d6a72bee0c4bd3e7dc2f16295e55748386ed821fd52c5e2b59d9", func := "studwork/studworklaw05.HingeClashes", spec := "hingeClashes", unfollowed := true, recurses := true, plainKeys := false, apart := false, narrowed := true }
def HingeClashesUptoSaid : Prop := hingeClashesUptoRow.holds Try.pinned (OpenSpec.upto hingeClashesSpec)

/-- 'studworklaw05.HingeProved', WHERE WHAT IT READS IS OF BULK AT MOST 1048576: true; the input reads as it did. -/
def hingeProvedUptoRow : OpenClaim := { program := "yteilglljigjefaa", sum := "a58b053d34d2d6a72bee0c4bd3e7dc2f16295e55748386ed821fd52c5e2b59d9", func := "studwork/studworklaw05.HingeProved", spec := "hingeProved", unfollowed := true, recurses := true, plainKeys := false, apart := false, narrowed := true }
def HingeProvedUptoSaid : Prop := hingeProvedUptoRow.holds Try.pinned (OpenSpec.upto hingeProvedSpec)

/-- 'studworklaw05.HingeRigid', WHERE WHAT IT READS IS OF BULK AT MOST 1048576: true; the input reads as it did. -/
def hingeRigidUptoRow : OpenClaim := { program := "yteilglljigjefaa", sum := "a58b053d34d2d6a72bee0c4bd3e7dc2f16295e55748386ed821fd52c5e2b59d9", func := "studwork/studworklaw05.HingeRigid", spec := "hingeRigid", unfollowed := true, recurses := true, plainKeys := false, apart := false, narrowed := true }
def HingeRigidUptoSaid : Prop := hingeRigidUptoRow.holds Try.pinned (OpenSpec.upto hingeRigidSpec)

/-- 'studworklaw05.HingeAngles', WHERE WHAT IT READS IS OF BULK AT MOST 1048576: true; the input reads as it did. -/
def hingeAnglesUptoRow : OpenClaim := { program := "yteilglljigjefaa", sum := "a58b053d34d2d6a72bee0c4bd3e7dc2f16295e55748386ed821fd52c5e2b59d9", func := "studwork/studworklaw05.HingeAngles", spec := "hingeAngles", unfollowed := true, recurses := true, plainKeys := false, apart := false, narrowed := true }
def HingeAnglesUptoSaid : Prop := hingeAnglesUptoRow.holds Try.pinned (OpenSpec.upto hingeAnglesSpec)

/-- 'studworklaw05.HingePart', WHERE WHAT IT READS IS OF BULK AT MOST 1048576: true; the input reads as it did. -/
def hingePartUptoRow : OpenClaim := { program := "yteilglljigjefaa", sum := "a58b053d34d2d6a72bee0c4bd3e7dc2f16295e55748386ed821fd52c5e2b59d9", func := "studwork/studworklaw05.HingePart", spec := "hingePart", unfollowed := true, recurses := true, plainKeys := false, apart := false, narrowed := true }
def HingePartUptoSaid : Prop := hingePartUptoRow.holds Try.pinned (OpenSpec.upto hingePartSpec)

/-- 'studworklaw05.HingeClosed', WHERE WHAT IT READS IS OF BULK AT MOST 1048576: true; the input reads as it did. -/
def hingeClosedUptoRow : OpenClaim := { program := "yteilglljigjefaa", sum := "a58b053d34d2d6a72bee0c4bd3e7dc2f16295e55748386ed821fd52c5e2b59d9", func := "studwork/studworklaw05.HingeClosed", spec := "hingeClosed", unfollowed := true, recurses := true, plainKeys := false, apart := false, narrowed := true }
def HingeClosedUptoSaid : Prop := hingeClosedUptoRow.holds Try.pinned (OpenSpec.upto hingeClosedSpec)

/-- 'studworklaw05.HingeGap', WHERE WHAT IT READS IS OF BULK AT MOST 1048576: true; the input reads as it did. -/
def hingeGapUptoRow : OpenClaim := { program := "yteilglljigjefaa", sum := "a58b053d34d2d6a72bee0c4bd3e7dc2f16295e55748386ed821fd52c5e2b59d9", func := "studwork/studworklaw05.HingeGap", spec := "hingeGap", unfollowed := true, recurses := true, plainKeys := false, apart := false, narrowed := true }
def HingeGapUptoSaid : Prop := hingeGapUptoRow.holds Try.pinned (OpenSpec.upto hingeGapSpec)

/-- 'studworklaw05.HingeReversed', WHERE WHAT IT READS IS OF BULK AT MOST 1048576: true; the input reads as it did. -/
def hingeReversedUptoRow : OpenClaim := { program := "yteilglljigjefaa", sum := "a58b053d34d2d6a72bee0c4bd3e7dc2f16295e55748386ed821fd52c5e2b59d9", func := "studwork/studworklaw05.HingeReversed", spec := "hingeReversed", unfollowed := true, recurses := true, plainKeys := false, apart := false, narrowed := true }
def HingeReversedUptoSaid : Prop := hingeReversedUptoRow.holds Try.pinned (OpenSpec.upto hingeReversedSpec)

/-- 'studworklaw05.HingeExamples', WHERE WHAT IT READS IS OF BULK AT MOST 1048576: true; the input reads as it did. -/
def hingeExamplesUptoRow : OpenClaim := { program := "yteilglljigjefaa", sum := "a58b053d34d2d6a72bee0c4bd3e7dc2f16295e55748386ed821fd52c5e2b59d9", func := "studwork/studworklaw05.HingeExamples", spec := "hingeExamples", unfollowed := true, recurses := true, plainKeys := false, apart := false, narrowed := true }
def HingeExamplesUptoSaid : Prop := hingeExamplesUptoRow.holds Try.pinned (OpenSpec.upto hingeExamplesSpec)

/-- 'studworklaw05.HingeQuarter', WHERE WHAT IT READS IS OF BULK AT MOST 1048576: true; the input reads as it did. -/
def hingeQuarterUptoRow : OpenClaim := { program := "yteilglljigjefaa", sum := "a58b053d34d2d6a72bee0c4bd3e7dc2f16295e55748386ed821fd52c5e2b59d9", func := "studwork/studworklaw05.HingeQuarter", spec := "hingeQuarter", unfollowed := true, recurses := true, plainKeys := false, apart := false, narrowed := true }
def HingeQuarterUptoSaid : Prop := hingeQuarterUptoRow.holds Try.pinned (OpenSpec.upto hingeQuarterSpec)

/-- 'studworklaw05.HingeSwung', WHERE WHAT IT READS IS OF BULK AT MOST 1048576: true; the input reads as it did. -/
def hingeSwungUptoRow : OpenClaim := { program := "yteilglljigjefaa", sum := "a58b053d34d2d6a72bee0c4bd3e7dc2f16295e55748386ed821fd52c5e2b59d9", func := "studwork/studworklaw05.HingeSwung", spec := "hingeSwung", unfollowed := true, recurses := true, plainKeys := false, apart := false, narrowed := true }
def HingeSwungUptoSaid : Prop := hingeSwungUptoRow.holds Try.pinned (OpenSpec.upto hingeSwungSpec)

end Rows
end Go.Proofs.Yteilglljigjefaa
