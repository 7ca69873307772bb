/-
  No cell of these rows narrows 'for every input' (looked for: loops, veiled, ifaces, maps, wideKeys, modest, calm, conditions, laid).
  DERIVED. THE GIVEN ROWS OF THIS SEAT. 3 by the template 'for every input the law returns true; each argument reads behind the call as it read before'; 0 by the template 'total and deterministic' (their statements: YtbiddmimcdmnoaaTotals.lean).
  GIVEN WITH THE SEED: the statements are not yours to turn. If you find one false, say at which input.
  Laid BY PROGRAM, IN A SANDBOX (cutbox-rows.mjs): the forced cells as the released guide's own fill.sh prints them over the translation 83f4fe8d3a54cda5… (all of the seat's roots in one cut). By AI agents, Wed Nov 11 2026. No macro, syntax, notation, axiom, sorry.
-/
import Derived.Test.YtbiddmimcdmnoaaChecked
import GoSem.Claim
import GoSem.ClaimJoined
import GoSem.ClaimMapViews
import Derived.JoinedTies
import Derived.KernelRfl
namespace Go.Proofs.Ytbiddmimcdmnoaa
/- THE CELL 'sum', in the pinned program and in every row, IS THE sha256 OF THE DUMP (.gsa) THAT YtbiddmimcdmnoaaProg.lean LOADS. Nothing in Lean hashes anything: it is a label: what it is worth is what the hold of that sum in a sandbox is worth. -/
noncomputable def Try.pinned : Pinned := { name := "ytbiddmimcdmnoaa", sum := "83f4fe8d3a54cda5ae4086ed878a94aa661f30f42a83f76b5e8f240189d6cab1", checked := Try.checked }
namespace Rows
def none {H : Type} : Left H := { results := [], args := [] }

/-- 'laws.FnExactStrokeRings': WHATEVER THE INPUT: true; the input reads as it did. -/
def fnExactStrokeRingsSpec : ChangeSpec := { name := "fnExactStrokeRings", fn := fun _ => fun
  | [d1, d2] => { results := [.lit (.bool true)], args := [d1, d2] }
  | _ => none }
def fnExactStrokeRingsRow : OpenClaim := { program := "ytbiddmimcdmnoaa", sum := "83f4fe8d3a54cda5ae4086ed878a94aa661f30f42a83f76b5e8f240189d6cab1", func := "loop.example/vectorraster/laws.FnExactStrokeRings", spec := "fnExactStrokeRings", unfollowed := true, recurses := true, apart := false }
def FnExactStrokeRingsSaid : Prop := fnExactStrokeRingsRow.holds Try.pinned (OpenSpec.ofChange fnExactStrokeRingsSpec)

/-- ITS FALSE NEIGHBOUR: 'it returns false'. Refute it at one input. -/
def fnExactStrokeRingsWrong : ChangeSpec := { name := "fnExactStrokeRings", fn := fun _ => fun
  | [d1, d2] => { results := [.lit (.bool false)], args := [d1, d2] }
  | _ => none }
def FnExactStrokeRingsWrongFalsely : Prop := fnExactStrokeRingsRow.holds Try.pinned (OpenSpec.ofChange fnExactStrokeRingsWrong)

/-- 'laws.FnStrokeRings': WHATEVER THE INPUT: true; the input reads as it did. -/
def fnStrokeRingsSpec : ChangeSpec := { name := "fnStrokeRings", fn := fun _ => fun
  | [d] => { results := [.lit (.bool true)], args := [d] }
  | _ => none }
def fnStrokeRingsRow : OpenClaim := { program := "ytbiddmimcdmnoaa", sum := "83f4fe8d3a54cda5ae4086ed878a94aa661f30f42a83f76b5e8f240189d6cab1", func := "loop.example/vectorraster/laws.FnStrokeRings", spec := "fnStrokeRings", unfollowed := true, recurses := true, apart := false }
def FnStrokeRingsSaid : Prop := fnStrokeRingsRow.holds Try.pinned (OpenSpec.ofChange fnStrokeRingsSpec)

/-- ITS FALSE NEIGHBOUR: 'it returns false'. Refute it at one input. -/
def fnStrokeRingsWrong : ChangeSpec := { name := "fnStrokeRings", fn := fun _ => fun
  | [d] => { results := [.lit (.bool false)], args := [d] }
  | _ => none }
def FnStrokeRingsWrongFalsely : Prop := fnStrokeRingsRow.holds Try.pinned (OpenSpec.ofChange fnStrokeRingsWrong)

/-- 'laws.FnStrokeRingsParts': WHATEVER THE INPUT: true; the input reads as it did. -/
def fnStrokeRingsPartsSpec : ChangeSpec := { name := "fnStrokeRingsParts", fn := fun _ => fun
  | [d] => { results := [.lit (.bool true)], args := [d] }
  | _ => none }
def fnStrokeRingsPartsRow : OpenClaim := { program := "ytbiddmimcdmnoaa", sum := "83f4fe8d3a54cda5ae4086ed878a94aa661f30f42a83f76b5e8f240189d6cab1", func := "loop.example/vectorraster/laws.FnStrokeRingsParts", spec := "fnStrokeRingsParts", unfollowed := true, recurses := true, apart := false }
def FnStrokeRingsPartsSaid : Prop := fnStrokeRingsPartsRow.holds Try.pinned (OpenSpec.ofChange fnStrokeRingsPartsSpec)

/-- ITS FALSE NEIGHBOUR: 'it returns false'. Refute it at one input. -/
def fnStrokeRingsPartsWrong : ChangeSpec := { name := "fnStrokeRingsParts", fn := fun _ => fun
  | [d] => { results := [.lit (.bool false)], args := [d] }
  | _ => none }
def FnStrokeRingsPartsWrongFalsely : Prop := fnStrokeRingsPartsRow.holds Try.pinned (OpenSpec.ofChange fnStrokeRingsPartsWrong)

/- THE SECOND FORM. 'bulk': how many values and letters a reading holds, each counted each time it is reached (what is shared counts as often as it is met; a slice's spare places count too). A statement '..UptoSaid' is the law's where the arguments, and the package variables that the reading takes, are together of bulk at most 1048576: NARROWER than '..Said'. Prove '..Said' where nothing that the law and all that it calls make is longer than what came in: it says more and counts as full. Else prove '..UptoSaid'. A law counts once. -/
mutual
def uptoBulk {H : Type} : DataW H → Nat
  | .lit (.string bytes) => bytes.length + 1
  | .lit _ => 1
  | .nil => 1
  | .ptr d => uptoBulk d + 1
  | .slice elems spare => uptoBulkAll elems + uptoBulkAll spare + 1
  | .agg parts => uptoBulkAll parts + 1
  | .iface _ d => uptoBulk d + 1
  | .map entries => uptoBulkEntries entries + 1
  | .held _ => 1
def uptoBulkAll {H : Type} : List (DataW H) → Nat
  | [] => 0
  | d :: r => uptoBulk d + uptoBulkAll r
def uptoBulkEntries {H : Type} : List (Lit × DataW H) → Nat
  | [] => 0
  | x :: r => uptoBulkEntry x + uptoBulkEntries r
def uptoBulkEntry {H : Type} : Lit × DataW H → Nat
  | (.string bytes, d) => bytes.length + uptoBulk d + 1
  | (_, d) => uptoBulk d + 1
 end
def uptoSmall : (H : Type) → List (DataW H) → Bool := fun _ ds => decide (uptoBulkAll ds ≤ 1048576)
def OpenSpec.upto (s : _root_.Go.ChangeSpec) : _root_.Go.OpenSpec := { _root_.Go.OpenSpec.ofChange s with cond := some uptoSmall }

/-- 'laws.FnExactStrokeRings', WHERE WHAT IT READS IS OF BULK AT MOST 1048576: true; the input reads as it did. -/
def fnExactStrokeRingsUptoRow : OpenClaim := { program := "ytbiddmimcdmnoaa", sum := "83f4fe8d3a54cda5ae4086ed878a94aa661f30f42a83f76b5e8f240189d6cab1", func := "loop.example/vectorraster/laws.FnExactStrokeRings", spec := "fnExactStrokeRings", unfollowed := true, recurses := true, apart := false, narrowed := true }
def FnExactStrokeRingsUptoSaid : Prop := fnExactStrokeRingsUptoRow.holds Try.pinned (OpenSpec.upto fnExactStrokeRingsSpec)

/-- 'laws.FnStrokeRings', WHERE WHAT IT READS IS OF BULK AT MOST 1048576: true; the input reads as it did. -/
def fnStrokeRingsUptoRow : OpenClaim := { program := "ytbiddmimcdmnoaa", sum := "83f4fe8d3a54cda5ae4086ed878a94aa661f30f42a83f76b5e8f240189d6cab1", func := "loop.example/vectorraster/laws.FnStrokeRings", spec := "fnStrokeRings", unfollowed := true, recurses := true, apart := false, narrowed := true }
def FnStrokeRingsUptoSaid : Prop := fnStrokeRingsUptoRow.holds Try.pinned (OpenSpec.upto fnStrokeRingsSpec)

/-- 'laws.FnStrokeRingsParts', WHERE WHAT IT READS IS OF BULK AT MOST 1048576: true; the input reads as it did. -/
def fnStrokeRingsPartsUptoRow : OpenClaim := { program := "ytbiddmimcdmnoaa", sum := "83f4fe8d3a54cda5ae4086ed878a94aa661f30f42a83f76b5e8f240189d6cab1", func := "loop.example/vectorraster/laws.FnStrokeRingsParts", spec := "fnStrokeRingsParts", unfollowed := true, recurses := true, apart := false, narrowed := true }
def FnStrokeRingsPartsUptoSaid : Prop := fnStrokeRingsPartsUptoRow.holds Try.pinned (OpenSpec.upto fnStrokeRingsPartsSpec)

end Rows
end Go.Proofs.Ytbiddmimcdmnoaa
