/-
  No cell of these rows narrows 'for every input' (looked for: loops, veiled, ifaces, maps, wideKeys, modest, calm, conditions, laid).
  DERIVED. THE GIVEN ROWS OF THIS SEAT. 11 by the template 'for every input the law returns true; each argument reads behind the call as it read before'; 0 by the template 'total and deterministic' (their statements: YtmhnebkmhblhpaaTotals.lean).
  GIVEN WITH THE SEED: the statements are not yours to turn. If you find one false, say at which input.
  Laid BY PROGRAM, IN A SANDBOX (cutbox-rows.mjs): the forced cells as the released guide's own fill.sh prints them over the translation cabb6ec4adcc9c0c… (all of the seat's roots in one cut). By AI agents, Wed Nov 11 2026. No macro, syntax, notation, axiom, sorry.
-/
import Derived.Test.YtmhnebkmhblhpaaChecked
import GoSem.Claim
import GoSem.ClaimJoined
import GoSem.ClaimMapViews
import Derived.JoinedTies
import Derived.KernelRfl
namespace Go.Proofs.Ytmhnebkmhblhpaa
/- THE CELL 'sum', in the pinned program and in every row, IS THE sha256 OF THE DUMP (.gsa) THAT YtmhnebkmhblhpaaProg.lean LOADS. Nothing in Lean hashes anything: it is a label: what it is worth is what the hold of that sum in a sandbox is worth. -/
noncomputable def Try.pinned : Pinned := { name := "ytmhnebkmhblhpaa", sum := "cabb6ec4adcc9c0c7933fa422cee49be4b39d4d2f4436ad0749398f552918c94", checked := Try.checked }
namespace Rows
def none {H : Type} : Left H := { results := [], args := [] }

/-- 'laws.FnBoxHas': WHATEVER THE INPUT: true; the input reads as it did. -/
def fnBoxHasSpec : ChangeSpec := { name := "fnBoxHas", fn := fun _ => fun
  | [d] => { results := [.lit (.bool true)], args := [d] }
  | _ => none }
def fnBoxHasRow : OpenClaim := { program := "ytmhnebkmhblhpaa", sum := "cabb6ec4adcc9c0c7933fa422cee49be4b39d4d2f4436ad0749398f552918c94", func := "loop.example/vectorraster/laws.FnBoxHas", spec := "fnBoxHas", apart := false }
def FnBoxHasSaid : Prop := fnBoxHasRow.holds Try.pinned (OpenSpec.ofChange fnBoxHasSpec)

/-- ITS FALSE NEIGHBOUR: 'it returns false'. Refute it at one input. -/
def fnBoxHasWrong : ChangeSpec := { name := "fnBoxHas", fn := fun _ => fun
  | [d] => { results := [.lit (.bool false)], args := [d] }
  | _ => none }
def FnBoxHasWrongFalsely : Prop := fnBoxHasRow.holds Try.pinned (OpenSpec.ofChange fnBoxHasWrong)

/-- 'laws.FnExactJoinBox': WHATEVER THE INPUT: true; the input reads as it did. -/
def fnExactJoinBoxSpec : ChangeSpec := { name := "fnExactJoinBox", fn := fun _ => fun
  | [d1, d2] => { results := [.lit (.bool true)], args := [d1, d2] }
  | _ => none }
def fnExactJoinBoxRow : OpenClaim := { program := "ytmhnebkmhblhpaa", sum := "cabb6ec4adcc9c0c7933fa422cee49be4b39d4d2f4436ad0749398f552918c94", func := "loop.example/vectorraster/laws.FnExactJoinBox", spec := "fnExactJoinBox", apart := false }
def FnExactJoinBoxSaid : Prop := fnExactJoinBoxRow.holds Try.pinned (OpenSpec.ofChange fnExactJoinBoxSpec)

/-- ITS FALSE NEIGHBOUR: 'it returns false'. Refute it at one input. -/
def fnExactJoinBoxWrong : ChangeSpec := { name := "fnExactJoinBox", fn := fun _ => fun
  | [d1, d2] => { results := [.lit (.bool false)], args := [d1, d2] }
  | _ => none }
def FnExactJoinBoxWrongFalsely : Prop := fnExactJoinBoxRow.holds Try.pinned (OpenSpec.ofChange fnExactJoinBoxWrong)

/-- 'laws.FnTileBoxFirst': WHATEVER THE INPUT: true; the input reads as it did. -/
def fnTileBoxFirstSpec : ChangeSpec := { name := "fnTileBoxFirst", fn := fun _ => fun
  | [d] => { results := [.lit (.bool true)], args := [d] }
  | _ => none }
def fnTileBoxFirstRow : OpenClaim := { program := "ytmhnebkmhblhpaa", sum := "cabb6ec4adcc9c0c7933fa422cee49be4b39d4d2f4436ad0749398f552918c94", func := "loop.example/vectorraster/laws.FnTileBoxFirst", spec := "fnTileBoxFirst", apart := false }
def FnTileBoxFirstSaid : Prop := fnTileBoxFirstRow.holds Try.pinned (OpenSpec.ofChange fnTileBoxFirstSpec)

/-- ITS FALSE NEIGHBOUR: 'it returns false'. Refute it at one input. -/
def fnTileBoxFirstWrong : ChangeSpec := { name := "fnTileBoxFirst", fn := fun _ => fun
  | [d] => { results := [.lit (.bool false)], args := [d] }
  | _ => none }
def FnTileBoxFirstWrongFalsely : Prop := fnTileBoxFirstRow.holds Try.pinned (OpenSpec.ofChange fnTileBoxFirstWrong)

/-- 'laws.FnCutBoxThree': WHATEVER THE INPUT: true; the input reads as it did. -/
def fnCutBoxThreeSpec : ChangeSpec := { name := "fnCutBoxThree", fn := fun _ => fun
  | [d] => { results := [.lit (.bool true)], args := [d] }
  | _ => none }
def fnCutBoxThreeRow : OpenClaim := { program := "ytmhnebkmhblhpaa", sum := "cabb6ec4adcc9c0c7933fa422cee49be4b39d4d2f4436ad0749398f552918c94", func := "loop.example/vectorraster/laws.FnCutBoxThree", spec := "fnCutBoxThree", apart := false }
def FnCutBoxThreeSaid : Prop := fnCutBoxThreeRow.holds Try.pinned (OpenSpec.ofChange fnCutBoxThreeSpec)

/-- ITS FALSE NEIGHBOUR: 'it returns false'. Refute it at one input. -/
def fnCutBoxThreeWrong : ChangeSpec := { name := "fnCutBoxThree", fn := fun _ => fun
  | [d] => { results := [.lit (.bool false)], args := [d] }
  | _ => none }
def FnCutBoxThreeWrongFalsely : Prop := fnCutBoxThreeRow.holds Try.pinned (OpenSpec.ofChange fnCutBoxThreeWrong)

/-- 'laws.FnTileBox': WHATEVER THE INPUT: true; the input reads as it did. -/
def fnTileBoxSpec : ChangeSpec := { name := "fnTileBox", fn := fun _ => fun
  | [d] => { results := [.lit (.bool true)], args := [d] }
  | _ => none }
def fnTileBoxRow : OpenClaim := { program := "ytmhnebkmhblhpaa", sum := "cabb6ec4adcc9c0c7933fa422cee49be4b39d4d2f4436ad0749398f552918c94", func := "loop.example/vectorraster/laws.FnTileBox", spec := "fnTileBox", apart := false }
def FnTileBoxSaid : Prop := fnTileBoxRow.holds Try.pinned (OpenSpec.ofChange fnTileBoxSpec)

/-- ITS FALSE NEIGHBOUR: 'it returns false'. Refute it at one input. -/
def fnTileBoxWrong : ChangeSpec := { name := "fnTileBox", fn := fun _ => fun
  | [d] => { results := [.lit (.bool false)], args := [d] }
  | _ => none }
def FnTileBoxWrongFalsely : Prop := fnTileBoxRow.holds Try.pinned (OpenSpec.ofChange fnTileBoxWrong)

/-- 'laws.FnCutBox': WHATEVER THE INPUT: true; the input reads as it did. -/
def fnCutBoxSpec : ChangeSpec := { name := "fnCutBox", fn := fun _ => fun
  | [d] => { results := [.lit (.bool true)], args := [d] }
  | _ => none }
def fnCutBoxRow : OpenClaim := { program := "ytmhnebkmhblhpaa", sum := "cabb6ec4adcc9c0c7933fa422cee49be4b39d4d2f4436ad0749398f552918c94", func := "loop.example/vectorraster/laws.FnCutBox", spec := "fnCutBox", apart := false }
def FnCutBoxSaid : Prop := fnCutBoxRow.holds Try.pinned (OpenSpec.ofChange fnCutBoxSpec)

/-- ITS FALSE NEIGHBOUR: 'it returns false'. Refute it at one input. -/
def fnCutBoxWrong : ChangeSpec := { name := "fnCutBox", fn := fun _ => fun
  | [d] => { results := [.lit (.bool false)], args := [d] }
  | _ => none }
def FnCutBoxWrongFalsely : Prop := fnCutBoxRow.holds Try.pinned (OpenSpec.ofChange fnCutBoxWrong)

/-- 'laws.FnPixelBox': WHATEVER THE INPUT: true; the input reads as it did. -/
def fnPixelBoxSpec : ChangeSpec := { name := "fnPixelBox", fn := fun _ => fun
  | [d] => { results := [.lit (.bool true)], args := [d] }
  | _ => none }
def fnPixelBoxRow : OpenClaim := { program := "ytmhnebkmhblhpaa", sum := "cabb6ec4adcc9c0c7933fa422cee49be4b39d4d2f4436ad0749398f552918c94", func := "loop.example/vectorraster/laws.FnPixelBox", spec := "fnPixelBox", apart := false }
def FnPixelBoxSaid : Prop := fnPixelBoxRow.holds Try.pinned (OpenSpec.ofChange fnPixelBoxSpec)

/-- ITS FALSE NEIGHBOUR: 'it returns false'. Refute it at one input. -/
def fnPixelBoxWrong : ChangeSpec := { name := "fnPixelBox", fn := fun _ => fun
  | [d] => { results := [.lit (.bool false)], args := [d] }
  | _ => none }
def FnPixelBoxWrongFalsely : Prop := fnPixelBoxRow.holds Try.pinned (OpenSpec.ofChange fnPixelBoxWrong)

/-- 'laws.FnExactTilesIn': WHATEVER THE INPUT: true; the input reads as it did. -/
def fnExactTilesInSpec : ChangeSpec := { name := "fnExactTilesIn", fn := fun _ => fun
  | [d1, d2, d3] => { results := [.lit (.bool true)], args := [d1, d2, d3] }
  | _ => none }
def fnExactTilesInRow : OpenClaim := { program := "ytmhnebkmhblhpaa", sum := "cabb6ec4adcc9c0c7933fa422cee49be4b39d4d2f4436ad0749398f552918c94", func := "loop.example/vectorraster/laws.FnExactTilesIn", spec := "fnExactTilesIn", apart := false }
def FnExactTilesInSaid : Prop := fnExactTilesInRow.holds Try.pinned (OpenSpec.ofChange fnExactTilesInSpec)

/-- ITS FALSE NEIGHBOUR: 'it returns false'. Refute it at one input. -/
def fnExactTilesInWrong : ChangeSpec := { name := "fnExactTilesIn", fn := fun _ => fun
  | [d1, d2, d3] => { results := [.lit (.bool false)], args := [d1, d2, d3] }
  | _ => none }
def FnExactTilesInWrongFalsely : Prop := fnExactTilesInRow.holds Try.pinned (OpenSpec.ofChange fnExactTilesInWrong)

/-- 'laws.FnJoinBox': WHATEVER THE INPUT: true; the input reads as it did. -/
def fnJoinBoxSpec : ChangeSpec := { name := "fnJoinBox", fn := fun _ => fun
  | [d] => { results := [.lit (.bool true)], args := [d] }
  | _ => none }
def fnJoinBoxRow : OpenClaim := { program := "ytmhnebkmhblhpaa", sum := "cabb6ec4adcc9c0c7933fa422cee49be4b39d4d2f4436ad0749398f552918c94", func := "loop.example/vectorraster/laws.FnJoinBox", spec := "fnJoinBox", apart := false }
def FnJoinBoxSaid : Prop := fnJoinBoxRow.holds Try.pinned (OpenSpec.ofChange fnJoinBoxSpec)

/-- ITS FALSE NEIGHBOUR: 'it returns false'. Refute it at one input. -/
def fnJoinBoxWrong : ChangeSpec := { name := "fnJoinBox", fn := fun _ => fun
  | [d] => { results := [.lit (.bool false)], args := [d] }
  | _ => none }
def FnJoinBoxWrongFalsely : Prop := fnJoinBoxRow.holds Try.pinned (OpenSpec.ofChange fnJoinBoxWrong)

/-- 'laws.FnTilesInAll': WHATEVER THE INPUT: true; the input reads as it did. -/
def fnTilesInAllSpec : ChangeSpec := { name := "fnTilesInAll", fn := fun _ => fun
  | [d] => { results := [.lit (.bool true)], args := [d] }
  | _ => none }
def fnTilesInAllRow : OpenClaim := { program := "ytmhnebkmhblhpaa", sum := "cabb6ec4adcc9c0c7933fa422cee49be4b39d4d2f4436ad0749398f552918c94", func := "loop.example/vectorraster/laws.FnTilesInAll", spec := "fnTilesInAll", apart := false }
def FnTilesInAllSaid : Prop := fnTilesInAllRow.holds Try.pinned (OpenSpec.ofChange fnTilesInAllSpec)

/-- ITS FALSE NEIGHBOUR: 'it returns false'. Refute it at one input. -/
def fnTilesInAllWrong : ChangeSpec := { name := "fnTilesInAll", fn := fun _ => fun
  | [d] => { results := [.lit (.bool false)], args := [d] }
  | _ => none }
def FnTilesInAllWrongFalsely : Prop := fnTilesInAllRow.holds Try.pinned (OpenSpec.ofChange fnTilesInAllWrong)

/-- 'laws.FnTilesIn': WHATEVER THE INPUT: true; the input reads as it did. -/
def fnTilesInSpec : ChangeSpec := { name := "fnTilesIn", fn := fun _ => fun
  | [d] => { results := [.lit (.bool true)], args := [d] }
  | _ => none }
def fnTilesInRow : OpenClaim := { program := "ytmhnebkmhblhpaa", sum := "cabb6ec4adcc9c0c7933fa422cee49be4b39d4d2f4436ad0749398f552918c94", func := "loop.example/vectorraster/laws.FnTilesIn", spec := "fnTilesIn", apart := false }
def FnTilesInSaid : Prop := fnTilesInRow.holds Try.pinned (OpenSpec.ofChange fnTilesInSpec)

/-- ITS FALSE NEIGHBOUR: 'it returns false'. Refute it at one input. -/
def fnTilesInWrong : ChangeSpec := { name := "fnTilesIn", fn := fun _ => fun
  | [d] => { results := [.lit (.bool false)], args := [d] }
  | _ => none }
def FnTilesInWrongFalsely : Prop := fnTilesInRow.holds Try.pinned (OpenSpec.ofChange fnTilesInWrong)

/- THE SECOND FORM. 'bulk': how many values and letters a reading holds, each counted each time it is reached (what is shared counts as often as it is met; a slice's spare places count too). A statement '..UptoSaid' is the law's where the arguments, and the package variables that the reading takes, are together of bulk at most 1048576: NARROWER than '..Said'. Prove '..Said' where nothing that the law and all that it calls make is longer than what came in: it says more and counts as full. Else prove '..UptoSaid'. A law counts once. -/
mutual
def uptoBulk {H : Type} : DataW H → Nat
  | .lit (.string bytes) => bytes.length + 1
  | .lit _ => 1
  | .nil => 1
  | .ptr d => uptoBulk d + 1
  | .slice elems spare => uptoBulkAll elems + uptoBulkAll spare + 1
  | .agg parts => uptoBulkAll parts + 1
  | .iface _ d => uptoBulk d + 1
  | .map entries => uptoBulkEntries entries + 1
  | .held _ => 1
def uptoBulkAll {H : Type} : List (DataW H) → Nat
  | [] => 0
  | d :: r => uptoBulk d + uptoBulkAll r
def uptoBulkEntries {H : Type} : List (Lit × DataW H) → Nat
  | [] => 0
  | x :: r => uptoBulkEntry x + uptoBulkEntries r
def uptoBulkEntry {H : Type} : Lit × DataW H → Nat
  | (.string bytes, d) => bytes.length + uptoBulk d + 1
  | (_, d) => uptoBulk d + 1
 end
def uptoSmall : (H : Type) → List (DataW H) → Bool := fun _ ds => decide (uptoBulkAll ds ≤ 1048576)
def OpenSpec.upto (s : _root_.Go.ChangeSpec) : _root_.Go.OpenSpec := { _root_.Go.OpenSpec.ofChange s with cond := some uptoSmall }

/-- 'laws.FnBoxHas', WHERE WHAT IT READS IS OF BULK AT MOST 1048576: true; the input reads as it did. -/
def fnBoxHasUptoRow : OpenClaim := { program := "ytmhnebkmhblhpaa", sum := "cabb6ec4adcc9c0c7933fa422cee49be4b39d4d2f4436ad0749398f552918c94", func := "loop.example/vectorraster/laws.FnBoxHas", spec := "fnBoxHas", apart := false, narrowed := true }
def FnBoxHasUptoSaid : Prop := fnBoxHasUptoRow.holds Try.pinned (OpenSpec.upto fnBoxHasSpec)

/-- 'laws.FnExactJoinBox', WHERE WHAT IT READS IS OF BULK AT MOST 1048576: true; the input reads as it did. -/
def fnExactJoinBoxUptoRow : OpenClaim := { program := "ytmhnebkmhblhpaa", sum := "cabb6ec4adcc9c0c7933fa422cee49be4b39d4d2f4436ad0749398f552918c94", func := "loop.example/vectorraster/laws.FnExactJoinBox", spec := "fnExactJoinBox", apart := false, narrowed := true }
def FnExactJoinBoxUptoSaid : Prop := fnExactJoinBoxUptoRow.holds Try.pinned (OpenSpec.upto fnExactJoinBoxSpec)

/-- 'laws.FnTileBoxFirst', WHERE WHAT IT READS IS OF BULK AT MOST 1048576: true; the input reads as it did. -/
def fnTileBoxFirstUptoRow : OpenClaim := { program := "ytmhnebkmhblhpaa", sum := "cabb6ec4adcc9c0c7933fa422cee49be4b39d4d2f4436ad0749398f552918c94", func := "loop.example/vectorraster/laws.FnTileBoxFirst", spec := "fnTileBoxFirst", apart := false, narrowed := true }
def FnTileBoxFirstUptoSaid : Prop := fnTileBoxFirstUptoRow.holds Try.pinned (OpenSpec.upto fnTileBoxFirstSpec)

/-- 'laws.FnCutBoxThree', WHERE WHAT IT READS IS OF BULK AT MOST 1048576: true; the input reads as it did. -/
def fnCutBoxThreeUptoRow : OpenClaim := { program := "ytmhnebkmhblhpaa", sum := "cabb6ec4adcc9c0c7933fa422cee49be4b39d4d2f4436ad0749398f552918c94", func := "loop.example/vectorraster/laws.FnCutBoxThree", spec := "fnCutBoxThree", apart := false, narrowed := true }
def FnCutBoxThreeUptoSaid : Prop := fnCutBoxThreeUptoRow.holds Try.pinned (OpenSpec.upto fnCutBoxThreeSpec)

/-- 'laws.FnTileBox', WHERE WHAT IT READS IS OF BULK AT MOST 1048576: true; the input reads as it did. -/
def fnTileBoxUptoRow : OpenClaim := { program := "ytmhnebkmhblhpaa", sum := "cabb6ec4adcc9c0c7933fa422cee49be4b39d4d2f4436ad0749398f552918c94", func := "loop.example/vectorraster/laws.FnTileBox", spec := "fnTileBox", apart := false, narrowed := true }
def FnTileBoxUptoSaid : Prop := fnTileBoxUptoRow.holds Try.pinned (OpenSpec.upto fnTileBoxSpec)

/-- 'laws.FnCutBox', WHERE WHAT IT READS IS OF BULK AT MOST 1048576: true; the input reads as it did. -/
def fnCutBoxUptoRow : OpenClaim := { program := "ytmhnebkmhblhpaa", sum := "cabb6ec4adcc9c0c7933fa422cee49be4b39d4d2f4436ad0749398f552918c94", func := "loop.example/vectorraster/laws.FnCutBox", spec := "fnCutBox", apart := false, narrowed := true }
def FnCutBoxUptoSaid : Prop := fnCutBoxUptoRow.holds Try.pinned (OpenSpec.upto fnCutBoxSpec)

/-- 'laws.FnPixelBox', WHERE WHAT IT READS IS OF BULK AT MOST 1048576: true; the input reads as it did. -/
def fnPixelBoxUptoRow : OpenClaim := { program := "ytmhnebkmhblhpaa", sum := "cabb6ec4adcc9c0c7933fa422cee49be4b39d4d2f4436ad0749398f552918c94", func := "loop.example/vectorraster/laws.FnPixelBox", spec := "fnPixelBox", apart := false, narrowed := true }
def FnPixelBoxUptoSaid : Prop := fnPixelBoxUptoRow.holds Try.pinned (OpenSpec.upto fnPixelBoxSpec)

/-- 'laws.FnExactTilesIn', WHERE WHAT IT READS IS OF BULK AT MOST 1048576: true; the input reads as it did. -/
def fnExactTilesInUptoRow : OpenClaim := { program := "ytmhnebkmhblhpaa", sum := "cabb6ec4adcc9c0c7933fa422cee49be4b39d4d2f4436ad0749398f552918c94", func := "loop.example/vectorraster/laws.FnExactTilesIn", spec := "fnExactTilesIn", apart := false, narrowed := true }
def FnExactTilesInUptoSaid : Prop := fnExactTilesInUptoRow.holds Try.pinned (OpenSpec.upto fnExactTilesInSpec)

/-- 'laws.FnJoinBox', WHERE WHAT IT READS IS OF BULK AT MOST 1048576: true; the input reads as it did. -/
def fnJoinBoxUptoRow : OpenClaim := { program := "ytmhnebkmhblhpaa", sum := "cabb6ec4adcc9c0c7933fa422cee49be4b39d4d2f4436ad0749398f552918c94", func := "loop.example/vectorraster/laws.FnJoinBox", spec := "fnJoinBox", apart := false, narrowed := true }
def FnJoinBoxUptoSaid : Prop := fnJoinBoxUptoRow.holds Try.pinned (OpenSpec.upto fnJoinBoxSpec)

/-- 'laws.FnTilesInAll', WHERE WHAT IT READS IS OF BULK AT MOST 1048576: true; the input reads as it did. -/
def fnTilesInAllUptoRow : OpenClaim := { program := "ytmhnebkmhblhpaa", sum := "cabb6ec4adcc9c0c7933fa422cee49be4b39d4d2f4436ad0749398f552918c94", func := "loop.example/vectorraster/laws.FnTilesInAll", spec := "fnTilesInAll", apart := false, narrowed := true }
def FnTilesInAllUptoSaid : Prop := fnTilesInAllUptoRow.holds Try.pinned (OpenSpec.upto fnTilesInAllSpec)

/-- 'laws.FnTilesIn', WHERE WHAT IT READS IS OF BULK AT MOST 1048576: true; the input reads as it did. -/
def fnTilesInUptoRow : OpenClaim := { program := "ytmhnebkmhblhpaa", sum := "cabb6ec4adcc9c0c7933fa422cee49be4b39d4d2f4436ad0749398f552918c94", func := "loop.example/vectorraster/laws.FnTilesIn", spec := "fnTilesIn", apart := false, narrowed := true }
def FnTilesInUptoSaid : Prop := fnTilesInUptoRow.holds Try.pinned (OpenSpec.upto fnTilesInSpec)

end Rows
end Go.Proofs.Ytmhnebkmhblhpaa
