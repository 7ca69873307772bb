/-
  No cell of these rows narrows 'for every input' (looked for: loops, veiled, ifaces, maps, wideKeys, modest, calm, conditions, laid).
  DERIVED. THE GIVEN ROWS OF THIS SEAT. 8 by the template 'for every input the law returns true; each argument reads behind the call as it read before'; 0 by the template 'total and deterministic' (their statements: YtaklcipdcnegbaaTotals.lean).
  GIVEN WITH THE SEED: the statements are not yours to turn. If you find one false, say at which input.
  Laid BY PROGRAM, IN A SANDBOX (cutbox-rows.mjs): the forced cells as the released guide's own fill.sh prints them over the translation cb3a1068378ca349… (all of the seat's roots in one cut). By AI agents, Wed Nov 11 2026. No macro, syntax, notation, axiom, sorry.
-/
import Derived.Test.YtaklcipdcnegbaaChecked
import GoSem.Claim
import GoSem.ClaimJoined
import GoSem.ClaimMapViews
import Derived.JoinedTies
import Derived.KernelRfl
namespace Go.Proofs.Ytaklcipdcnegbaa
/- THE CELL 'sum', in the pinned program and in every row, IS THE sha256 OF THE DUMP (.gsa) THAT YtaklcipdcnegbaaProg.lean LOADS. Nothing in Lean hashes anything: it is a label: what it is worth is what the hold of that sum in a sandbox is worth. -/
noncomputable def Try.pinned : Pinned := { name := "ytaklcipdcnegbaa", sum := "cb3a1068378ca34938902d7cb555c7b5cef82cdca8da73482cde9889c1bc5e12", checked := Try.checked }
namespace Rows
def none {H : Type} : Left H := { results := [], args := [] }

/-- 'laws.FnTurnMatrix': WHATEVER THE INPUT: true; the input reads as it did. -/
def fnTurnMatrixSpec : ChangeSpec := { name := "fnTurnMatrix", fn := fun _ => fun
  | [d] => { results := [.lit (.bool true)], args := [d] }
  | _ => none }
def fnTurnMatrixRow : OpenClaim := { program := "ytaklcipdcnegbaa", sum := "cb3a1068378ca34938902d7cb555c7b5cef82cdca8da73482cde9889c1bc5e12", func := "loop.example/vectorraster/laws.FnTurnMatrix", spec := "fnTurnMatrix", apart := false }
def FnTurnMatrixSaid : Prop := fnTurnMatrixRow.holds Try.pinned (OpenSpec.ofChange fnTurnMatrixSpec)

/-- ITS FALSE NEIGHBOUR: 'it returns false'. Refute it at one input. -/
def fnTurnMatrixWrong : ChangeSpec := { name := "fnTurnMatrix", fn := fun _ => fun
  | [d] => { results := [.lit (.bool false)], args := [d] }
  | _ => none }
def FnTurnMatrixWrongFalsely : Prop := fnTurnMatrixRow.holds Try.pinned (OpenSpec.ofChange fnTurnMatrixWrong)

/-- 'laws.FnExactMapPoint': WHATEVER THE INPUT: true; the input reads as it did. -/
def fnExactMapPointSpec : ChangeSpec := { name := "fnExactMapPoint", fn := fun _ => fun
  | [d1, d2] => { results := [.lit (.bool true)], args := [d1, d2] }
  | _ => none }
def fnExactMapPointRow : OpenClaim := { program := "ytaklcipdcnegbaa", sum := "cb3a1068378ca34938902d7cb555c7b5cef82cdca8da73482cde9889c1bc5e12", func := "loop.example/vectorraster/laws.FnExactMapPoint", spec := "fnExactMapPoint", apart := false }
def FnExactMapPointSaid : Prop := fnExactMapPointRow.holds Try.pinned (OpenSpec.ofChange fnExactMapPointSpec)

/-- ITS FALSE NEIGHBOUR: 'it returns false'. Refute it at one input. -/
def fnExactMapPointWrong : ChangeSpec := { name := "fnExactMapPoint", fn := fun _ => fun
  | [d1, d2] => { results := [.lit (.bool false)], args := [d1, d2] }
  | _ => none }
def FnExactMapPointWrongFalsely : Prop := fnExactMapPointRow.holds Try.pinned (OpenSpec.ofChange fnExactMapPointWrong)

/-- 'laws.FnMapPoint': WHATEVER THE INPUT: true; the input reads as it did. -/
def fnMapPointSpec : ChangeSpec := { name := "fnMapPoint", fn := fun _ => fun
  | [d] => { results := [.lit (.bool true)], args := [d] }
  | _ => none }
def fnMapPointRow : OpenClaim := { program := "ytaklcipdcnegbaa", sum := "cb3a1068378ca34938902d7cb555c7b5cef82cdca8da73482cde9889c1bc5e12", func := "loop.example/vectorraster/laws.FnMapPoint", spec := "fnMapPoint", apart := false }
def FnMapPointSaid : Prop := fnMapPointRow.holds Try.pinned (OpenSpec.ofChange fnMapPointSpec)

/-- ITS FALSE NEIGHBOUR: 'it returns false'. Refute it at one input. -/
def fnMapPointWrong : ChangeSpec := { name := "fnMapPoint", fn := fun _ => fun
  | [d] => { results := [.lit (.bool false)], args := [d] }
  | _ => none }
def FnMapPointWrongFalsely : Prop := fnMapPointRow.holds Try.pinned (OpenSpec.ofChange fnMapPointWrong)

/-- 'laws.FnTurnMatrixTwice': WHATEVER THE INPUT: true; the input reads as it did. -/
def fnTurnMatrixTwiceSpec : ChangeSpec := { name := "fnTurnMatrixTwice", fn := fun _ => fun
  | [d] => { results := [.lit (.bool true)], args := [d] }
  | _ => none }
def fnTurnMatrixTwiceRow : OpenClaim := { program := "ytaklcipdcnegbaa", sum := "cb3a1068378ca34938902d7cb555c7b5cef82cdca8da73482cde9889c1bc5e12", func := "loop.example/vectorraster/laws.FnTurnMatrixTwice", spec := "fnTurnMatrixTwice", apart := false }
def FnTurnMatrixTwiceSaid : Prop := fnTurnMatrixTwiceRow.holds Try.pinned (OpenSpec.ofChange fnTurnMatrixTwiceSpec)

/-- ITS FALSE NEIGHBOUR: 'it returns false'. Refute it at one input. -/
def fnTurnMatrixTwiceWrong : ChangeSpec := { name := "fnTurnMatrixTwice", fn := fun _ => fun
  | [d] => { results := [.lit (.bool false)], args := [d] }
  | _ => none }
def FnTurnMatrixTwiceWrongFalsely : Prop := fnTurnMatrixTwiceRow.holds Try.pinned (OpenSpec.ofChange fnTurnMatrixTwiceWrong)

/-- 'laws.FnLineLength': WHATEVER THE INPUT: true; the input reads as it did. -/
def fnLineLengthSpec : ChangeSpec := { name := "fnLineLength", fn := fun _ => fun
  | [d] => { results := [.lit (.bool true)], args := [d] }
  | _ => none }
def fnLineLengthRow : OpenClaim := { program := "ytaklcipdcnegbaa", sum := "cb3a1068378ca34938902d7cb555c7b5cef82cdca8da73482cde9889c1bc5e12", func := "loop.example/vectorraster/laws.FnLineLength", spec := "fnLineLength", apart := false }
def FnLineLengthSaid : Prop := fnLineLengthRow.holds Try.pinned (OpenSpec.ofChange fnLineLengthSpec)

/-- ITS FALSE NEIGHBOUR: 'it returns false'. Refute it at one input. -/
def fnLineLengthWrong : ChangeSpec := { name := "fnLineLength", fn := fun _ => fun
  | [d] => { results := [.lit (.bool false)], args := [d] }
  | _ => none }
def FnLineLengthWrongFalsely : Prop := fnLineLengthRow.holds Try.pinned (OpenSpec.ofChange fnLineLengthWrong)

/-- 'laws.FnAlongOf': WHATEVER THE INPUT: true; the input reads as it did. -/
def fnAlongOfSpec : ChangeSpec := { name := "fnAlongOf", fn := fun _ => fun
  | [d] => { results := [.lit (.bool true)], args := [d] }
  | _ => none }
def fnAlongOfRow : OpenClaim := { program := "ytaklcipdcnegbaa", sum := "cb3a1068378ca34938902d7cb555c7b5cef82cdca8da73482cde9889c1bc5e12", func := "loop.example/vectorraster/laws.FnAlongOf", spec := "fnAlongOf", apart := false }
def FnAlongOfSaid : Prop := fnAlongOfRow.holds Try.pinned (OpenSpec.ofChange fnAlongOfSpec)

/-- ITS FALSE NEIGHBOUR: 'it returns false'. Refute it at one input. -/
def fnAlongOfWrong : ChangeSpec := { name := "fnAlongOf", fn := fun _ => fun
  | [d] => { results := [.lit (.bool false)], args := [d] }
  | _ => none }
def FnAlongOfWrongFalsely : Prop := fnAlongOfRow.holds Try.pinned (OpenSpec.ofChange fnAlongOfWrong)

/-- 'laws.FnAlongOfAcross': WHATEVER THE INPUT: true; the input reads as it did. -/
def fnAlongOfAcrossSpec : ChangeSpec := { name := "fnAlongOfAcross", fn := fun _ => fun
  | [d] => { results := [.lit (.bool true)], args := [d] }
  | _ => none }
def fnAlongOfAcrossRow : OpenClaim := { program := "ytaklcipdcnegbaa", sum := "cb3a1068378ca34938902d7cb555c7b5cef82cdca8da73482cde9889c1bc5e12", func := "loop.example/vectorraster/laws.FnAlongOfAcross", spec := "fnAlongOfAcross", apart := false }
def FnAlongOfAcrossSaid : Prop := fnAlongOfAcrossRow.holds Try.pinned (OpenSpec.ofChange fnAlongOfAcrossSpec)

/-- ITS FALSE NEIGHBOUR: 'it returns false'. Refute it at one input. -/
def fnAlongOfAcrossWrong : ChangeSpec := { name := "fnAlongOfAcross", fn := fun _ => fun
  | [d] => { results := [.lit (.bool false)], args := [d] }
  | _ => none }
def FnAlongOfAcrossWrongFalsely : Prop := fnAlongOfAcrossRow.holds Try.pinned (OpenSpec.ofChange fnAlongOfAcrossWrong)

/-- 'laws.FnAlongOfReverse': WHATEVER THE INPUT: true; the input reads as it did. -/
def fnAlongOfReverseSpec : ChangeSpec := { name := "fnAlongOfReverse", fn := fun _ => fun
  | [d] => { results := [.lit (.bool true)], args := [d] }
  | _ => none }
def fnAlongOfReverseRow : OpenClaim := { program := "ytaklcipdcnegbaa", sum := "cb3a1068378ca34938902d7cb555c7b5cef82cdca8da73482cde9889c1bc5e12", func := "loop.example/vectorraster/laws.FnAlongOfReverse", spec := "fnAlongOfReverse", apart := false }
def FnAlongOfReverseSaid : Prop := fnAlongOfReverseRow.holds Try.pinned (OpenSpec.ofChange fnAlongOfReverseSpec)

/-- ITS FALSE NEIGHBOUR: 'it returns false'. Refute it at one input. -/
def fnAlongOfReverseWrong : ChangeSpec := { name := "fnAlongOfReverse", fn := fun _ => fun
  | [d] => { results := [.lit (.bool false)], args := [d] }
  | _ => none }
def FnAlongOfReverseWrongFalsely : Prop := fnAlongOfReverseRow.holds Try.pinned (OpenSpec.ofChange fnAlongOfReverseWrong)

/- THE SECOND FORM. 'bulk': how many values and letters a reading holds, each counted each time it is reached (what is shared counts as often as it is met; a slice's spare places count too). A statement '..UptoSaid' is the law's where the arguments, and the package variables that the reading takes, are together of bulk at most 1048576: NARROWER than '..Said'. Prove '..Said' where nothing that the law and all that it calls make is longer than what came in: it says more and counts as full. Else prove '..UptoSaid'. A law counts once. -/
mutual
def uptoBulk {H : Type} : DataW H → Nat
  | .lit (.string bytes) => bytes.length + 1
  | .lit _ => 1
  | .nil => 1
  | .ptr d => uptoBulk d + 1
  | .slice elems spare => uptoBulkAll elems + uptoBulkAll spare + 1
  | .agg parts => uptoBulkAll parts + 1
  | .iface _ d => uptoBulk d + 1
  | .map entries => uptoBulkEntries entries + 1
  | .held _ => 1
def uptoBulkAll {H : Type} : List (DataW H) → Nat
  | [] => 0
  | d :: r => uptoBulk d + uptoBulkAll r
def uptoBulkEntries {H : Type} : List (Lit × DataW H) → Nat
  | [] => 0
  | x :: r => uptoBulkEntry x + uptoBulkEntries r
def uptoBulkEntry {H : Type} : Lit × DataW H → Nat
  | (.string bytes, d) => bytes.length + uptoBulk d + 1
  | (_, d) => uptoBulk d + 1
 end
def uptoSmall : (H : Type) → List (DataW H) → Bool := fun _ ds => decide (uptoBulkAll ds ≤ 1048576)
def OpenSpec.upto (s : _root_.Go.ChangeSpec) : _root_.Go.OpenSpec := { _root_.Go.OpenSpec.ofChange s with cond := some uptoSmall }

/-- 'laws.FnTurnMatrix', WHERE WHAT IT READS IS OF BULK AT MOST 1048576: true; the input reads as it did. -/
def fnTurnMatrixUptoRow : OpenClaim := { program := "ytaklcipdcnegbaa", sum := "cb3a1068378ca34938902d7cb555c7b5cef82cdca8da73482cde9889c1bc5e12", func := "loop.example/vectorraster/laws.FnTurnMatrix", spec := "fnTurnMatrix", apart := false, narrowed := true }
def FnTurnMatrixUptoSaid : Prop := fnTurnMatrixUptoRow.holds Try.pinned (OpenSpec.upto fnTurnMatrixSpec)

/-- 'laws.FnExactMapPoint', WHERE WHAT IT READS IS OF BULK AT MOST 1048576: true; the input reads as it did. -/
def fnExactMapPointUptoRow : OpenClaim := { program := "ytaklcipdcnegbaa", sum := "cb3a1068378ca34938902d7cb555c7b5cef82cdca8da73482cde9889c1bc5e12", func := "loop.example/vectorraster/laws.FnExactMapPoint", spec := "fnExactMapPoint", apart := false, narrowed := true }
def FnExactMapPointUptoSaid : Prop := fnExactMapPointUptoRow.holds Try.pinned (OpenSpec.upto fnExactMapPointSpec)

/-- 'laws.FnMapPoint', WHERE WHAT IT READS IS OF BULK AT MOST 1048576: true; the input reads as it did. -/
def fnMapPointUptoRow : OpenClaim := { program := "ytaklcipdcnegbaa", sum := "cb3a1068378ca34938902d7cb555c7b5cef82cdca8da73482cde9889c1bc5e12", func := "loop.example/vectorraster/laws.FnMapPoint", spec := "fnMapPoint", apart := false, narrowed := true }
def FnMapPointUptoSaid : Prop := fnMapPointUptoRow.holds Try.pinned (OpenSpec.upto fnMapPointSpec)

/-- 'laws.FnTurnMatrixTwice', WHERE WHAT IT READS IS OF BULK AT MOST 1048576: true; the input reads as it did. -/
def fnTurnMatrixTwiceUptoRow : OpenClaim := { program := "ytaklcipdcnegbaa", sum := "cb3a1068378ca34938902d7cb555c7b5cef82cdca8da73482cde9889c1bc5e12", func := "loop.example/vectorraster/laws.FnTurnMatrixTwice", spec := "fnTurnMatrixTwice", apart := false, narrowed := true }
def FnTurnMatrixTwiceUptoSaid : Prop := fnTurnMatrixTwiceUptoRow.holds Try.pinned (OpenSpec.upto fnTurnMatrixTwiceSpec)

/-- 'laws.FnLineLength', WHERE WHAT IT READS IS OF BULK AT MOST 1048576: true; the input reads as it did. -/
def fnLineLengthUptoRow : OpenClaim := { program := "ytaklcipdcnegbaa", sum := "cb3a1068378ca34938902d7cb555c7b5cef82cdca8da73482cde9889c1bc5e12", func := "loop.example/vectorraster/laws.FnLineLength", spec := "fnLineLength", apart := false, narrowed := true }
def FnLineLengthUptoSaid : Prop := fnLineLengthUptoRow.holds Try.pinned (OpenSpec.upto fnLineLengthSpec)

/-- 'laws.FnAlongOf', WHERE WHAT IT READS IS OF BULK AT MOST 1048576: true; the input reads as it did. -/
def fnAlongOfUptoRow : OpenClaim := { program := "ytaklcipdcnegbaa", sum := "cb3a1068378ca34938902d7cb555c7b5cef82cdca8da73482cde9889c1bc5e12", func := "loop.example/vectorraster/laws.FnAlongOf", spec := "fnAlongOf", apart := false, narrowed := true }
def FnAlongOfUptoSaid : Prop := fnAlongOfUptoRow.holds Try.pinned (OpenSpec.upto fnAlongOfSpec)

/-- 'laws.FnAlongOfAcross', WHERE WHAT IT READS IS OF BULK AT MOST 1048576: true; the input reads as it did. -/
def fnAlongOfAcrossUptoRow : OpenClaim := { program := "ytaklcipdcnegbaa", sum := "cb3a1068378ca34938902d7cb555c7b5cef82cdca8da73482cde9889c1bc5e12", func := "loop.example/vectorraster/laws.FnAlongOfAcross", spec := "fnAlongOfAcross", apart := false, narrowed := true }
def FnAlongOfAcrossUptoSaid : Prop := fnAlongOfAcrossUptoRow.holds Try.pinned (OpenSpec.upto fnAlongOfAcrossSpec)

/-- 'laws.FnAlongOfReverse', WHERE WHAT IT READS IS OF BULK AT MOST 1048576: true; the input reads as it did. -/
def fnAlongOfReverseUptoRow : OpenClaim := { program := "ytaklcipdcnegbaa", sum := "cb3a1068378ca34938902d7cb555c7b5cef82cdca8da73482cde9889c1bc5e12", func := "loop.example/vectorraster/laws.FnAlongOfReverse", spec := "fnAlongOfReverse", apart := false, narrowed := true }
def FnAlongOfReverseUptoSaid : Prop := fnAlongOfReverseUptoRow.holds Try.pinned (OpenSpec.upto fnAlongOfReverseSpec)

end Rows
end Go.Proofs.Ytaklcipdcnegbaa
