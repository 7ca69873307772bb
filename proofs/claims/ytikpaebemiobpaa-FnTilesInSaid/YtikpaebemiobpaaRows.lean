/-
  No cell of these rows narrows 'for every input' (looked for: loops, veiled, ifaces, maps, wideKeys, modest, calm, conditions, laid).
  DERIVED. THE GIVEN ROWS OF THIS SEAT. 3 by the template 'for every input the law returns true; each argument reads behind the call as it read before'; 0 by the template 'total and deterministic' (their statements: YtikpaebemiobpaaTotals.lean).
  GIVEN WITH THE SEED: the statements are not yours to turn. If you find one false, say at which input.
  Laid BY PROGRAM, IN A SANDBOX (cutbox-rows.mjs): the forced cells as the released guide's own fill.sh prints them over the translation 24edfbcb0b4eb862… (all of the seat's roots in one cut). By AI agents, Wed Nov 11 2026. No macro, syntax, notation, axiom, sorry.
-/
import Derived.Test.YtikpaebemiobpaaChecked
import GoSem.Claim
import GoSem.ClaimJoined
import GoSem.ClaimMapViews
import Derived.JoinedTies
import Derived.KernelRfl
namespace Go.Proofs.Ytikpaebemiobpaa
/- THE CELL 'sum', in the pinned program and in every row, IS THE sha256 OF THE DUMP (.gsa) THAT YtikpaebemiobpaaProg.lean LOADS. Nothing in Lean hashes anything: it is a label: what it is worth is what the hold of that sum in a sandbox is worth. -/
noncomputable def Try.pinned : Pinned := { name := "ytikpaebemiobpaa", sum := "24edfbcb0b4eb862f7256d2abb22613524b480f064b38810ecafb54839858a23", checked := Try.checked }
namespace Rows
def none {H : Type} : Left H := { results := [], args := [] }

/-- 'laws.FnExactTilesIn': WHATEVER THE INPUT: true; the input reads as it did. -/
def fnExactTilesInSpec : ChangeSpec := { name := "fnExactTilesIn", fn := fun _ => fun
  | [d1, d2, d3] => { results := [.lit (.bool true)], args := [d1, d2, d3] }
  | _ => none }
def fnExactTilesInRow : OpenClaim := { program := "ytikpaebemiobpaa", sum := "24edfbcb0b4eb862f7256d2abb22613524b480f064b38810ecafb54839858a23", func := "loop.example/vectorraster/laws.FnExactTilesIn", spec := "fnExactTilesIn", apart := false }
def FnExactTilesInSaid : Prop := fnExactTilesInRow.holds Try.pinned (OpenSpec.ofChange fnExactTilesInSpec)

/-- ITS FALSE NEIGHBOUR: 'it returns false'. Refute it at one input. -/
def fnExactTilesInWrong : ChangeSpec := { name := "fnExactTilesIn", fn := fun _ => fun
  | [d1, d2, d3] => { results := [.lit (.bool false)], args := [d1, d2, d3] }
  | _ => none }
def FnExactTilesInWrongFalsely : Prop := fnExactTilesInRow.holds Try.pinned (OpenSpec.ofChange fnExactTilesInWrong)

/-- 'laws.FnTilesInAll': WHATEVER THE INPUT: true; the input reads as it did. -/
def fnTilesInAllSpec : ChangeSpec := { name := "fnTilesInAll", fn := fun _ => fun
  | [d] => { results := [.lit (.bool true)], args := [d] }
  | _ => none }
def fnTilesInAllRow : OpenClaim := { program := "ytikpaebemiobpaa", sum := "24edfbcb0b4eb862f7256d2abb22613524b480f064b38810ecafb54839858a23", func := "loop.example/vectorraster/laws.FnTilesInAll", spec := "fnTilesInAll", apart := false }
def FnTilesInAllSaid : Prop := fnTilesInAllRow.holds Try.pinned (OpenSpec.ofChange fnTilesInAllSpec)

/-- ITS FALSE NEIGHBOUR: 'it returns false'. Refute it at one input. -/
def fnTilesInAllWrong : ChangeSpec := { name := "fnTilesInAll", fn := fun _ => fun
  | [d] => { results := [.lit (.bool false)], args := [d] }
  | _ => none }
def FnTilesInAllWrongFalsely : Prop := fnTilesInAllRow.holds Try.pinned (OpenSpec.ofChange fnTilesInAllWrong)

/-- 'laws.FnTilesIn': WHATEVER THE INPUT: true; the input reads as it did. -/
def fnTilesInSpec : ChangeSpec := { name := "fnTilesIn", fn := fun _ => fun
  | [d] => { results := [.lit (.bool true)], args := [d] }
  | _ => none }
def fnTilesInRow : OpenClaim := { program := "ytikpaebemiobpaa", sum := "24edfbcb0b4eb862f7256d2abb22613524b480f064b38810ecafb54839858a23", func := "loop.example/vectorraster/laws.FnTilesIn", spec := "fnTilesIn", apart := false }
def FnTilesInSaid : Prop := fnTilesInRow.holds Try.pinned (OpenSpec.ofChange fnTilesInSpec)

/-- ITS FALSE NEIGHBOUR: 'it returns false'. Refute it at one input. -/
def fnTilesInWrong : ChangeSpec := { name := "fnTilesIn", fn := fun _ => fun
  | [d] => { results := [.lit (.bool false)], args := [d] }
  | _ => none }
def FnTilesInWrongFalsely : Prop := fnTilesInRow.holds Try.pinned (OpenSpec.ofChange fnTilesInWrong)

/- THE SECOND FORM. 'bulk': how many values and letters a reading holds, each counted each time it is reached (what is shared counts as often as it is met; a slice's spare places count too). A statement '..UptoSaid' is the law's where the arguments, and the package variables that the reading takes, are together of bulk at most 1048576: NARROWER than '..Said'. Prove '..Said' where nothing that the law and all that it calls make is longer than what came in: it says more and counts as full. Else prove '..UptoSaid'. A law counts once. -/
mutual
def uptoBulk {H : Type} : DataW H → Nat
  | .lit (.string bytes) => bytes.length + 1
  | .lit _ => 1
  | .nil => 1
  | .ptr d => uptoBulk d + 1
  | .slice elems spare => uptoBulkAll elems + uptoBulkAll spare + 1
  | .agg parts => uptoBulkAll parts + 1
  | .iface _ d => uptoBulk d + 1
  | .map entries => uptoBulkEntries entries + 1
  | .held _ => 1
def uptoBulkAll {H : Type} : List (DataW H) → Nat
  | [] => 0
  | d :: r => uptoBulk d + uptoBulkAll r
def uptoBulkEntries {H : Type} : List (Lit × DataW H) → Nat
  | [] => 0
  | x :: r => uptoBulkEntry x + uptoBulkEntries r
def uptoBulkEntry {H : Type} : Lit × DataW H → Nat
  | (.string bytes, d) => bytes.length + uptoBulk d + 1
  | (_, d) => uptoBulk d + 1
 end
def uptoSmall : (H : Type) → List (DataW H) → Bool := fun _ ds => decide (uptoBulkAll ds ≤ 1048576)
def OpenSpec.upto (s : _root_.Go.ChangeSpec) : _root_.Go.OpenSpec := { _root_.Go.OpenSpec.ofChange s with cond := some uptoSmall }

/-- 'laws.FnExactTilesIn', WHERE WHAT IT READS IS OF BULK AT MOST 1048576: true; the input reads as it did. -/
def fnExactTilesInUptoRow : OpenClaim := { program := "ytikpaebemiobpaa", sum := "24edfbcb0b4eb862f7256d2abb22613524b480f064b38810ecafb54839858a23", func := "loop.example/vectorraster/laws.FnExactTilesIn", spec := "fnExactTilesIn", apart := false, narrowed := true }
def FnExactTilesInUptoSaid : Prop := fnExactTilesInUptoRow.holds Try.pinned (OpenSpec.upto fnExactTilesInSpec)

/-- 'laws.FnTilesInAll', WHERE WHAT IT READS IS OF BULK AT MOST 1048576: true; the input reads as it did. -/
def fnTilesInAllUptoRow : OpenClaim := { program := "ytikpaebemiobpaa", sum := "24edfbcb0b4eb862f7256d2abb22613524b480f064b38810ecafb54839858a23", func := "loop.example/vectorraster/laws.FnTilesInAll", spec := "fnTilesInAll", apart := false, narrowed := true }
def FnTilesInAllUptoSaid : Prop := fnTilesInAllUptoRow.holds Try.pinned (OpenSpec.upto fnTilesInAllSpec)

/-- 'laws.FnTilesIn', WHERE WHAT IT READS IS OF BULK AT MOST 1048576: true; the input reads as it did. -/
def fnTilesInUptoRow : OpenClaim := { program := "ytikpaebemiobpaa", sum := "24edfbcb0b4eb862f7256d2abb22613524b480f064b38810ecafb54839858a23", func := "loop.example/vectorraster/laws.FnTilesIn", spec := "fnTilesIn", apart := false, narrowed := true }
def FnTilesInUptoSaid : Prop := fnTilesInUptoRow.holds Try.pinned (OpenSpec.upto fnTilesInSpec)

end Rows
end Go.Proofs.Ytikpaebemiobpaa
