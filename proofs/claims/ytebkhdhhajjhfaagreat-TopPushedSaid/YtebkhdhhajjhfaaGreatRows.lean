/-
  No cell of these rows narrows 'for every input' (looked for: loops, veiled, ifaces, maps, wideKeys, modest, calm, conditions, laid).
  DERIVED. THE GIVEN ROWS OF THIS SEAT. 4 by the template 'for every input the law returns true; each argument reads behind the call as it read before'; 0 by the template 'total and deterministic' (their statements: YtebkhdhhajjhfaaGreatTotals.lean).
  GIVEN WITH THE SEED: the statements are not yours to turn. If you find one false, say at which input.
  Laid BY PROGRAM, IN A SANDBOX (cutbox-rows.mjs): the forced cells as the released guide's own fill.sh prints them over the translation 27fa6e9d705b22c8… (all of the seat's roots in one cut). By AI agents, Wed Nov 11 2026. No macro, syntax, notation, axiom, sorry.
-/
import Derived.Test.YtebkhdhhajjhfaaGreatChecked
import GoSem.Claim
import GoSem.ClaimJoined
import GoSem.ClaimMapViews
import Derived.JoinedTies
import Derived.KernelRfl
namespace Go.Proofs.YtebkhdhhajjhfaaGreat
/- THE CELL 'sum', in the pinned program and in every row, IS THE sha256 OF THE DUMP (.gsa) THAT YtebkhdhhajjhfaaGreatProg.lean LOADS. Nothing in Lean hashes anything: it is a label: what it is worth is what the hold of that sum in a sandbox is worth. -/
noncomputable def Tryz.pinned : Pinned := { name := "ytebkhdhhajjhfaagreat", sum := "27fa6e9d705b22c8d359b4b0b447399639e9677fdfb17cb92d35bd1f0437d93b", checked := Tryz.checked }
namespace Rows
def none {H : Type} : Left H := { results := [], args := [] }

/-- 'studworktop.TopPushed': WHATEVER THE INPUT: true; the input reads as it did. -/
def topPushedSpec : ChangeSpec := { name := "topPushed", fn := fun _ => fun
  | [d1, d2, d3, d4, d5, d6, d7, d8] => { results := [.lit (.bool true)], args := [d1, d2, d3, d4, d5, d6, d7, d8] }
  | _ => none }
def topPushedRow : OpenClaim := { program := "ytebkhdhhajjhfaagreat", sum := "27fa6e9d705b22c8d359b4b0b447399639e9677fdfb17cb92d35bd1f0437d93b", func := "studwork/studworktop.TopPushed", spec := "topPushed", unfollowed := true, recurses := true, plainKeys := false, apart := false }
def TopPushedSaid : Prop := topPushedRow.holds Tryz.pinned (OpenSpec.ofChange topPushedSpec)

/-- ITS FALSE NEIGHBOUR: 'it returns false'. Refute it at one input. -/
def topPushedWrong : ChangeSpec := { name := "topPushed", fn := fun _ => fun
  | [d1, d2, d3, d4, d5, d6, d7, d8] => { results := [.lit (.bool false)], args := [d1, d2, d3, d4, d5, d6, d7, d8] }
  | _ => none }
def TopPushedWrongFalsely : Prop := topPushedRow.holds Tryz.pinned (OpenSpec.ofChange topPushedWrong)

/-- 'studworktop.TopFlat': WHATEVER THE INPUT: true; the input reads as it did. -/
def topFlatSpec : ChangeSpec := { name := "topFlat", fn := fun _ => fun
  | [d1, d2, d3, d4, d5, d6, d7] => { results := [.lit (.bool true)], args := [d1, d2, d3, d4, d5, d6, d7] }
  | _ => none }
def topFlatRow : OpenClaim := { program := "ytebkhdhhajjhfaagreat", sum := "27fa6e9d705b22c8d359b4b0b447399639e9677fdfb17cb92d35bd1f0437d93b", func := "studwork/studworktop.TopFlat", spec := "topFlat", inPlace := ["math/bits.Sub64", "math/bits.Add64"], unfollowed := true, recurses := true, named := ["math/bits.divideError", "math/bits.overflowError"], plainKeys := false, apart := false }
def TopFlatSaid : Prop := topFlatRow.holds Tryz.pinned (OpenSpec.ofChange topFlatSpec)

/-- ITS FALSE NEIGHBOUR: 'it returns false'. Refute it at one input. -/
def topFlatWrong : ChangeSpec := { name := "topFlat", fn := fun _ => fun
  | [d1, d2, d3, d4, d5, d6, d7] => { results := [.lit (.bool false)], args := [d1, d2, d3, d4, d5, d6, d7] }
  | _ => none }
def TopFlatWrongFalsely : Prop := topFlatRow.holds Tryz.pinned (OpenSpec.ofChange topFlatWrong)

/-- 'studworktop.TopShaft': WHATEVER THE INPUT: true; the input reads as it did. -/
def topShaftSpec : ChangeSpec := { name := "topShaft", fn := fun _ => fun
  | [d1, d2, d3, d4, d5] => { results := [.lit (.bool true)], args := [d1, d2, d3, d4, d5] }
  | _ => none }
def topShaftRow : OpenClaim := { program := "ytebkhdhhajjhfaagreat", sum := "27fa6e9d705b22c8d359b4b0b447399639e9677fdfb17cb92d35bd1f0437d93b", func := "studwork/studworktop.TopShaft", spec := "topShaft", inPlace := ["math/bits.Sub64", "math/bits.Add64"], unfollowed := true, recurses := true, named := ["math/bits.divideError", "math/bits.overflowError"], plainKeys := false, apart := false }
def TopShaftSaid : Prop := topShaftRow.holds Tryz.pinned (OpenSpec.ofChange topShaftSpec)

/-- ITS FALSE NEIGHBOUR: 'it returns false'. Refute it at one input. -/
def topShaftWrong : ChangeSpec := { name := "topShaft", fn := fun _ => fun
  | [d1, d2, d3, d4, d5] => { results := [.lit (.bool false)], args := [d1, d2, d3, d4, d5] }
  | _ => none }
def TopShaftWrongFalsely : Prop := topShaftRow.holds Tryz.pinned (OpenSpec.ofChange topShaftWrong)

/-- 'studworktop.TopGrid': WHATEVER THE INPUT: true; the input reads as it did. -/
def topGridSpec : ChangeSpec := { name := "topGrid", fn := fun _ => fun
  | [d] => { results := [.lit (.bool true)], args := [d] }
  | _ => none }
def topGridRow : OpenClaim := { program := "ytebkhdhhajjhfaagreat", sum := "27fa6e9d705b22c8d359b4b0b447399639e9677fdfb17cb92d35bd1f0437d93b", func := "studwork/studworktop.TopGrid", spec := "topGrid", inPlace := ["math/bits.Sub64", "math/bits.Add64"], unfollowed := true, recurses := true, named := ["math/bits.divideError", "math/bits.overflowError"], plainKeys := false, apart := false }
def TopGridSaid : Prop := topGridRow.holds Tryz.pinned (OpenSpec.ofChange topGridSpec)

/-- ITS FALSE NEIGHBOUR: 'it returns false'. Refute it at one input. -/
def topGridWrong : ChangeSpec := { name := "topGrid", fn := fun _ => fun
  | [d] => { results := [.lit (.bool false)], args := [d] }
  | _ => none }
def TopGridWrongFalsely : Prop := topGridRow.holds Tryz.pinned (OpenSpec.ofChange topGridWrong)

/- THE SECOND FORM. 'bulk': how many values and letters a reading holds, each counted each time it is reached (what is shared counts as often as it is met; a slice's spare places count too). A statement '..UptoSaid' is the law's where the arguments, and the package variables that the reading takes, are together of bulk at most 1048576: NARROWER than '..Said'. Prove '..Said' where nothing that the law and all that it calls make is longer than what came in: it says more and counts as full. Else prove '..UptoSaid'. A law counts once. -/
mutual
def uptoBulk {H : Type} : DataW H → Nat
  | .lit (.string bytes) => bytes.length + 1
  | .lit _ => 1
  | .nil => 1
  | .ptr d => uptoBulk d + 1
  | .slice elems spare => uptoBulkAll elems + uptoBulkAll spare + 1
  | .agg parts => uptoBulkAll parts + 1
  | .iface _ d => uptoBulk d + 1
  | .map entries => uptoBulkEntries entries + 1
  | .held _ => 1
def uptoBulkAll {H : Type} : List (DataW H) → Nat
  | [] => 0
  | d :: r => uptoBulk d + uptoBulkAll r
def uptoBulkEntries {H : Type} : List (Lit × DataW H) → Nat
  | [] => 0
  | x :: r => uptoBulkEntry x + uptoBulkEntries r
def uptoBulkEntry {H : Type} : Lit × DataW H → Nat
  | (.string bytes, d) => bytes.length + uptoBulk d + 1
  | (_, d) => uptoBulk d + 1
 end
def uptoSmall : (H : Type) → List (DataW H) → Bool := fun _ ds => decide (uptoBulkAll ds ≤ 1048576)
def OpenSpec.upto (s : _root_.Go.ChangeSpec) : _root_.Go.OpenSpec := { _root_.Go.OpenSpec.ofChange s with cond := some uptoSmall }

/-- 'studworktop.TopPushed', WHERE WHAT IT READS IS OF BULK AT MOST 1048576: true; the input reads as it did. -/
def topPushedUptoRow : OpenClaim := { program := "ytebkhdhhajjhfaagreat", sum := "27fa6e9d705b22c8d359b4b0b447399639e9677fdfb17cb92d35bd1f0437d93b", func := "studwork/studworktop.TopPushed", spec := "topPushed", unfollowed := true, recurses := true, plainKeys := false, apart := false, narrowed := true }
def TopPushedUptoSaid : Prop := topPushedUptoRow.holds Tryz.pinned (OpenSpec.upto topPushedSpec)

/-- 'studworktop.TopFlat', WHERE WHAT IT READS IS OF BULK AT MOST 1048576: true; the input reads as it did. -/
def topFlatUptoRow : OpenClaim := { program := "ytebkhdhhajjhfaagreat", sum := "27fa6e9d705b22c8d359b4b0b447399639e9677fdfb17cb92d35bd1f0437d93b", func := "studwork/studworktop.TopFlat", spec := "topFlat", inPlace := ["math/bits.Sub64", "math/bits.Add64"], unfollowed := true, recurses := true, named := ["math/bits.divideError", "math/bits.overflowError"], plainKeys := false, apart := false, narrowed := true }
def TopFlatUptoSaid : Prop := topFlatUptoRow.holds Tryz.pinned (OpenSpec.upto topFlatSpec)

/-- 'studworktop.TopShaft', WHERE WHAT IT READS IS OF BULK AT MOST 1048576: true; the input reads as it did. -/
def topShaftUptoRow : OpenClaim := { program := "ytebkhdhhajjhfaagreat", sum := "27fa6e9d705b22c8d359b4b0b447399639e9677fdfb17cb92d35bd1f0437d93b", func := "studwork/studworktop.TopShaft", spec := "topShaft", inPlace := ["math/bits.Sub64", "math/bits.Add64"], unfollowed := true, recurses := true, named := ["math/bits.divideError", "math/bits.overflowError"], plainKeys := false, apart := false, narrowed := true }
def TopShaftUptoSaid : Prop := topShaftUptoRow.holds Tryz.pinned (OpenSpec.upto topShaftSpec)

/-- 'studworktop.TopGrid', WHERE WHAT IT READS IS OF BULK AT MOST 1048576: true; the input reads as it did. -/
def topGridUptoRow : OpenClaim := { program := "ytebkhdhhajjhfaagreat", sum := "27fa6e9d705b22c8d359b4b0b447399639e9677fdfb17cb92d35bd1f0437d93b", func := "studwork/studworktop.TopGrid", spec := "topGrid", inPlace := ["math/bits.Sub64", "math/bits.Add64"], unfollowed := true, recurses := true, named := ["math/bits.divideError", "math/bits.overflowError"], plainKeys := false, apart := false, narrowed := true }
def TopGridUptoSaid : Prop := topGridUptoRow.holds Tryz.pinned (OpenSpec.upto topGridSpec)

end Rows
end Go.Proofs.YtebkhdhhajjhfaaGreat
