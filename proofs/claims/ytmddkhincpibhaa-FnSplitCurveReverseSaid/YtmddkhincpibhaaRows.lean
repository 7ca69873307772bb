/-
  No cell of these rows narrows 'for every input' (looked for: loops, veiled, ifaces, maps, wideKeys, modest, calm, conditions, laid).
  DERIVED. THE GIVEN ROWS OF THIS SEAT. 13 by the template 'for every input the law returns true; each argument reads behind the call as it read before'; 0 by the template 'total and deterministic' (their statements: YtmddkhincpibhaaTotals.lean).
  GIVEN WITH THE SEED: the statements are not yours to turn. If you find one false, say at which input.
  Laid BY PROGRAM, IN A SANDBOX (cutbox-rows.mjs): the forced cells as the released guide's own fill.sh prints them over the translation 6c97cd61800b0ffd… (all of the seat's roots in one cut). By AI agents, Wed Nov 11 2026. No macro, syntax, notation, axiom, sorry.
-/
import Derived.Test.YtmddkhincpibhaaChecked
import GoSem.Claim
import GoSem.ClaimJoined
import GoSem.ClaimMapViews
import Derived.JoinedTies
import Derived.KernelRfl
namespace Go.Proofs.Ytmddkhincpibhaa
/- THE CELL 'sum', in the pinned program and in every row, IS THE sha256 OF THE DUMP (.gsa) THAT YtmddkhincpibhaaProg.lean LOADS. Nothing in Lean hashes anything: it is a label: what it is worth is what the hold of that sum in a sandbox is worth. -/
noncomputable def Try.pinned : Pinned := { name := "ytmddkhincpibhaa", sum := "6c97cd61800b0ffd04988c940c50861c025e84bbea1ae5a1ebb48d765d05c4d7", checked := Try.checked }
namespace Rows
def none {H : Type} : Left H := { results := [], args := [] }

/-- 'laws.FnFlattenCurveBox': WHATEVER THE INPUT: true; the input reads as it did. -/
def fnFlattenCurveBoxSpec : ChangeSpec := { name := "fnFlattenCurveBox", fn := fun _ => fun
  | [d] => { results := [.lit (.bool true)], args := [d] }
  | _ => none }
def fnFlattenCurveBoxRow : OpenClaim := { program := "ytmddkhincpibhaa", sum := "6c97cd61800b0ffd04988c940c50861c025e84bbea1ae5a1ebb48d765d05c4d7", func := "loop.example/vectorraster/laws.FnFlattenCurveBox", spec := "fnFlattenCurveBox", unfollowed := true, recurses := true, apart := false }
def FnFlattenCurveBoxSaid : Prop := fnFlattenCurveBoxRow.holds Try.pinned (OpenSpec.ofChange fnFlattenCurveBoxSpec)

/-- ITS FALSE NEIGHBOUR: 'it returns false'. Refute it at one input. -/
def fnFlattenCurveBoxWrong : ChangeSpec := { name := "fnFlattenCurveBox", fn := fun _ => fun
  | [d] => { results := [.lit (.bool false)], args := [d] }
  | _ => none }
def FnFlattenCurveBoxWrongFalsely : Prop := fnFlattenCurveBoxRow.holds Try.pinned (OpenSpec.ofChange fnFlattenCurveBoxWrong)

/-- 'laws.FnFlattenCurveHalves': WHATEVER THE INPUT: true; the input reads as it did. -/
def fnFlattenCurveHalvesSpec : ChangeSpec := { name := "fnFlattenCurveHalves", fn := fun _ => fun
  | [d] => { results := [.lit (.bool true)], args := [d] }
  | _ => none }
def fnFlattenCurveHalvesRow : OpenClaim := { program := "ytmddkhincpibhaa", sum := "6c97cd61800b0ffd04988c940c50861c025e84bbea1ae5a1ebb48d765d05c4d7", func := "loop.example/vectorraster/laws.FnFlattenCurveHalves", spec := "fnFlattenCurveHalves", unfollowed := true, recurses := true, apart := false }
def FnFlattenCurveHalvesSaid : Prop := fnFlattenCurveHalvesRow.holds Try.pinned (OpenSpec.ofChange fnFlattenCurveHalvesSpec)

/-- ITS FALSE NEIGHBOUR: 'it returns false'. Refute it at one input. -/
def fnFlattenCurveHalvesWrong : ChangeSpec := { name := "fnFlattenCurveHalves", fn := fun _ => fun
  | [d] => { results := [.lit (.bool false)], args := [d] }
  | _ => none }
def FnFlattenCurveHalvesWrongFalsely : Prop := fnFlattenCurveHalvesRow.holds Try.pinned (OpenSpec.ofChange fnFlattenCurveHalvesWrong)

/-- 'laws.FnExactBendOf': WHATEVER THE INPUT: true; the input reads as it did. -/
def fnExactBendOfSpec : ChangeSpec := { name := "fnExactBendOf", fn := fun _ => fun
  | [d] => { results := [.lit (.bool true)], args := [d] }
  | _ => none }
def fnExactBendOfRow : OpenClaim := { program := "ytmddkhincpibhaa", sum := "6c97cd61800b0ffd04988c940c50861c025e84bbea1ae5a1ebb48d765d05c4d7", func := "loop.example/vectorraster/laws.FnExactBendOf", spec := "fnExactBendOf", unfollowed := true, recurses := true, apart := false }
def FnExactBendOfSaid : Prop := fnExactBendOfRow.holds Try.pinned (OpenSpec.ofChange fnExactBendOfSpec)

/-- ITS FALSE NEIGHBOUR: 'it returns false'. Refute it at one input. -/
def fnExactBendOfWrong : ChangeSpec := { name := "fnExactBendOf", fn := fun _ => fun
  | [d] => { results := [.lit (.bool false)], args := [d] }
  | _ => none }
def FnExactBendOfWrongFalsely : Prop := fnExactBendOfRow.holds Try.pinned (OpenSpec.ofChange fnExactBendOfWrong)

/-- 'laws.FnRaiseCurveLine': WHATEVER THE INPUT: true; the input reads as it did. -/
def fnRaiseCurveLineSpec : ChangeSpec := { name := "fnRaiseCurveLine", fn := fun _ => fun
  | [d] => { results := [.lit (.bool true)], args := [d] }
  | _ => none }
def fnRaiseCurveLineRow : OpenClaim := { program := "ytmddkhincpibhaa", sum := "6c97cd61800b0ffd04988c940c50861c025e84bbea1ae5a1ebb48d765d05c4d7", func := "loop.example/vectorraster/laws.FnRaiseCurveLine", spec := "fnRaiseCurveLine", unfollowed := true, recurses := true, apart := false }
def FnRaiseCurveLineSaid : Prop := fnRaiseCurveLineRow.holds Try.pinned (OpenSpec.ofChange fnRaiseCurveLineSpec)

/-- ITS FALSE NEIGHBOUR: 'it returns false'. Refute it at one input. -/
def fnRaiseCurveLineWrong : ChangeSpec := { name := "fnRaiseCurveLine", fn := fun _ => fun
  | [d] => { results := [.lit (.bool false)], args := [d] }
  | _ => none }
def FnRaiseCurveLineWrongFalsely : Prop := fnRaiseCurveLineRow.holds Try.pinned (OpenSpec.ofChange fnRaiseCurveLineWrong)

/-- 'laws.FnExactRaiseCurve': WHATEVER THE INPUT: true; the input reads as it did. -/
def fnExactRaiseCurveSpec : ChangeSpec := { name := "fnExactRaiseCurve", fn := fun _ => fun
  | [d] => { results := [.lit (.bool true)], args := [d] }
  | _ => none }
def fnExactRaiseCurveRow : OpenClaim := { program := "ytmddkhincpibhaa", sum := "6c97cd61800b0ffd04988c940c50861c025e84bbea1ae5a1ebb48d765d05c4d7", func := "loop.example/vectorraster/laws.FnExactRaiseCurve", spec := "fnExactRaiseCurve", unfollowed := true, recurses := true, apart := false }
def FnExactRaiseCurveSaid : Prop := fnExactRaiseCurveRow.holds Try.pinned (OpenSpec.ofChange fnExactRaiseCurveSpec)

/-- ITS FALSE NEIGHBOUR: 'it returns false'. Refute it at one input. -/
def fnExactRaiseCurveWrong : ChangeSpec := { name := "fnExactRaiseCurve", fn := fun _ => fun
  | [d] => { results := [.lit (.bool false)], args := [d] }
  | _ => none }
def FnExactRaiseCurveWrongFalsely : Prop := fnExactRaiseCurveRow.holds Try.pinned (OpenSpec.ofChange fnExactRaiseCurveWrong)

/-- 'laws.FnRaiseCurve': WHATEVER THE INPUT: true; the input reads as it did. -/
def fnRaiseCurveSpec : ChangeSpec := { name := "fnRaiseCurve", fn := fun _ => fun
  | [d] => { results := [.lit (.bool true)], args := [d] }
  | _ => none }
def fnRaiseCurveRow : OpenClaim := { program := "ytmddkhincpibhaa", sum := "6c97cd61800b0ffd04988c940c50861c025e84bbea1ae5a1ebb48d765d05c4d7", func := "loop.example/vectorraster/laws.FnRaiseCurve", spec := "fnRaiseCurve", unfollowed := true, recurses := true, apart := false }
def FnRaiseCurveSaid : Prop := fnRaiseCurveRow.holds Try.pinned (OpenSpec.ofChange fnRaiseCurveSpec)

/-- ITS FALSE NEIGHBOUR: 'it returns false'. Refute it at one input. -/
def fnRaiseCurveWrong : ChangeSpec := { name := "fnRaiseCurve", fn := fun _ => fun
  | [d] => { results := [.lit (.bool false)], args := [d] }
  | _ => none }
def FnRaiseCurveWrongFalsely : Prop := fnRaiseCurveRow.holds Try.pinned (OpenSpec.ofChange fnRaiseCurveWrong)

/-- 'laws.FnBendOf': WHATEVER THE INPUT: true; the input reads as it did. -/
def fnBendOfSpec : ChangeSpec := { name := "fnBendOf", fn := fun _ => fun
  | [d] => { results := [.lit (.bool true)], args := [d] }
  | _ => none }
def fnBendOfRow : OpenClaim := { program := "ytmddkhincpibhaa", sum := "6c97cd61800b0ffd04988c940c50861c025e84bbea1ae5a1ebb48d765d05c4d7", func := "loop.example/vectorraster/laws.FnBendOf", spec := "fnBendOf", unfollowed := true, recurses := true, apart := false }
def FnBendOfSaid : Prop := fnBendOfRow.holds Try.pinned (OpenSpec.ofChange fnBendOfSpec)

/-- ITS FALSE NEIGHBOUR: 'it returns false'. Refute it at one input. -/
def fnBendOfWrong : ChangeSpec := { name := "fnBendOf", fn := fun _ => fun
  | [d] => { results := [.lit (.bool false)], args := [d] }
  | _ => none }
def FnBendOfWrongFalsely : Prop := fnBendOfRow.holds Try.pinned (OpenSpec.ofChange fnBendOfWrong)

/-- 'laws.FnSplitCurve': WHATEVER THE INPUT: true; the input reads as it did. -/
def fnSplitCurveSpec : ChangeSpec := { name := "fnSplitCurve", fn := fun _ => fun
  | [d] => { results := [.lit (.bool true)], args := [d] }
  | _ => none }
def fnSplitCurveRow : OpenClaim := { program := "ytmddkhincpibhaa", sum := "6c97cd61800b0ffd04988c940c50861c025e84bbea1ae5a1ebb48d765d05c4d7", func := "loop.example/vectorraster/laws.FnSplitCurve", spec := "fnSplitCurve", unfollowed := true, recurses := true, apart := false }
def FnSplitCurveSaid : Prop := fnSplitCurveRow.holds Try.pinned (OpenSpec.ofChange fnSplitCurveSpec)

/-- ITS FALSE NEIGHBOUR: 'it returns false'. Refute it at one input. -/
def fnSplitCurveWrong : ChangeSpec := { name := "fnSplitCurve", fn := fun _ => fun
  | [d] => { results := [.lit (.bool false)], args := [d] }
  | _ => none }
def FnSplitCurveWrongFalsely : Prop := fnSplitCurveRow.holds Try.pinned (OpenSpec.ofChange fnSplitCurveWrong)

/-- 'laws.FnExactSplitCurve': WHATEVER THE INPUT: true; the input reads as it did. -/
def fnExactSplitCurveSpec : ChangeSpec := { name := "fnExactSplitCurve", fn := fun _ => fun
  | [d] => { results := [.lit (.bool true)], args := [d] }
  | _ => none }
def fnExactSplitCurveRow : OpenClaim := { program := "ytmddkhincpibhaa", sum := "6c97cd61800b0ffd04988c940c50861c025e84bbea1ae5a1ebb48d765d05c4d7", func := "loop.example/vectorraster/laws.FnExactSplitCurve", spec := "fnExactSplitCurve", unfollowed := true, recurses := true, apart := false }
def FnExactSplitCurveSaid : Prop := fnExactSplitCurveRow.holds Try.pinned (OpenSpec.ofChange fnExactSplitCurveSpec)

/-- ITS FALSE NEIGHBOUR: 'it returns false'. Refute it at one input. -/
def fnExactSplitCurveWrong : ChangeSpec := { name := "fnExactSplitCurve", fn := fun _ => fun
  | [d] => { results := [.lit (.bool false)], args := [d] }
  | _ => none }
def FnExactSplitCurveWrongFalsely : Prop := fnExactSplitCurveRow.holds Try.pinned (OpenSpec.ofChange fnExactSplitCurveWrong)

/-- 'laws.FnSplitCurveBox': WHATEVER THE INPUT: true; the input reads as it did. -/
def fnSplitCurveBoxSpec : ChangeSpec := { name := "fnSplitCurveBox", fn := fun _ => fun
  | [d] => { results := [.lit (.bool true)], args := [d] }
  | _ => none }
def fnSplitCurveBoxRow : OpenClaim := { program := "ytmddkhincpibhaa", sum := "6c97cd61800b0ffd04988c940c50861c025e84bbea1ae5a1ebb48d765d05c4d7", func := "loop.example/vectorraster/laws.FnSplitCurveBox", spec := "fnSplitCurveBox", unfollowed := true, recurses := true, apart := false }
def FnSplitCurveBoxSaid : Prop := fnSplitCurveBoxRow.holds Try.pinned (OpenSpec.ofChange fnSplitCurveBoxSpec)

/-- ITS FALSE NEIGHBOUR: 'it returns false'. Refute it at one input. -/
def fnSplitCurveBoxWrong : ChangeSpec := { name := "fnSplitCurveBox", fn := fun _ => fun
  | [d] => { results := [.lit (.bool false)], args := [d] }
  | _ => none }
def FnSplitCurveBoxWrongFalsely : Prop := fnSplitCurveBoxRow.holds Try.pinned (OpenSpec.ofChange fnSplitCurveBoxWrong)

/-- 'laws.FnSplitCurveReverse': WHATEVER THE INPUT: true; the input reads as it did. -/
def fnSplitCurveReverseSpec : ChangeSpec := { name := "fnSplitCurveReverse", fn := fun _ => fun
  | [d] => { results := [.lit (.bool true)], args := [d] }
  | _ => none }
def fnSplitCurveReverseRow : OpenClaim := { program := "ytmddkhincpibhaa", sum := "6c97cd61800b0ffd04988c940c50861c025e84bbea1ae5a1ebb48d765d05c4d7", func := "loop.example/vectorraster/laws.FnSplitCurveReverse", spec := "fnSplitCurveReverse", unfollowed := true, recurses := true, apart := false }
def FnSplitCurveReverseSaid : Prop := fnSplitCurveReverseRow.holds Try.pinned (OpenSpec.ofChange fnSplitCurveReverseSpec)

/-- ITS FALSE NEIGHBOUR: 'it returns false'. Refute it at one input. -/
def fnSplitCurveReverseWrong : ChangeSpec := { name := "fnSplitCurveReverse", fn := fun _ => fun
  | [d] => { results := [.lit (.bool false)], args := [d] }
  | _ => none }
def FnSplitCurveReverseWrongFalsely : Prop := fnSplitCurveReverseRow.holds Try.pinned (OpenSpec.ofChange fnSplitCurveReverseWrong)

/-- 'laws.FnFlattenCurve': WHATEVER THE INPUT: true; the input reads as it did. -/
def fnFlattenCurveSpec : ChangeSpec := { name := "fnFlattenCurve", fn := fun _ => fun
  | [d] => { results := [.lit (.bool true)], args := [d] }
  | _ => none }
def fnFlattenCurveRow : OpenClaim := { program := "ytmddkhincpibhaa", sum := "6c97cd61800b0ffd04988c940c50861c025e84bbea1ae5a1ebb48d765d05c4d7", func := "loop.example/vectorraster/laws.FnFlattenCurve", spec := "fnFlattenCurve", unfollowed := true, recurses := true, apart := false }
def FnFlattenCurveSaid : Prop := fnFlattenCurveRow.holds Try.pinned (OpenSpec.ofChange fnFlattenCurveSpec)

/-- ITS FALSE NEIGHBOUR: 'it returns false'. Refute it at one input. -/
def fnFlattenCurveWrong : ChangeSpec := { name := "fnFlattenCurve", fn := fun _ => fun
  | [d] => { results := [.lit (.bool false)], args := [d] }
  | _ => none }
def FnFlattenCurveWrongFalsely : Prop := fnFlattenCurveRow.holds Try.pinned (OpenSpec.ofChange fnFlattenCurveWrong)

/-- 'laws.FnExactFlattenCurve': WHATEVER THE INPUT: true; the input reads as it did. -/
def fnExactFlattenCurveSpec : ChangeSpec := { name := "fnExactFlattenCurve", fn := fun _ => fun
  | [d1, d2, d3] => { results := [.lit (.bool true)], args := [d1, d2, d3] }
  | _ => none }
def fnExactFlattenCurveRow : OpenClaim := { program := "ytmddkhincpibhaa", sum := "6c97cd61800b0ffd04988c940c50861c025e84bbea1ae5a1ebb48d765d05c4d7", func := "loop.example/vectorraster/laws.FnExactFlattenCurve", spec := "fnExactFlattenCurve", unfollowed := true, recurses := true, apart := false }
def FnExactFlattenCurveSaid : Prop := fnExactFlattenCurveRow.holds Try.pinned (OpenSpec.ofChange fnExactFlattenCurveSpec)

/-- ITS FALSE NEIGHBOUR: 'it returns false'. Refute it at one input. -/
def fnExactFlattenCurveWrong : ChangeSpec := { name := "fnExactFlattenCurve", fn := fun _ => fun
  | [d1, d2, d3] => { results := [.lit (.bool false)], args := [d1, d2, d3] }
  | _ => none }
def FnExactFlattenCurveWrongFalsely : Prop := fnExactFlattenCurveRow.holds Try.pinned (OpenSpec.ofChange fnExactFlattenCurveWrong)

/- THE SECOND FORM. 'bulk': how many values and letters a reading holds, each counted each time it is reached (what is shared counts as often as it is met; a slice's spare places count too). A statement '..UptoSaid' is the law's where the arguments, and the package variables that the reading takes, are together of bulk at most 1048576: NARROWER than '..Said'. Prove '..Said' where nothing that the law and all that it calls make is longer than what came in: it says more and counts as full. Else prove '..UptoSaid'. A law counts once. -/
mutual
def uptoBulk {H : Type} : DataW H → Nat
  | .lit (.string bytes) => bytes.length + 1
  | .lit _ => 1
  | .nil => 1
  | .ptr d => uptoBulk d + 1
  | .slice elems spare => uptoBulkAll elems + uptoBulkAll spare + 1
  | .agg parts => uptoBulkAll parts + 1
  | .iface _ d => uptoBulk d + 1
  | .map entries => uptoBulkEntries entries + 1
  | .held _ => 1
def uptoBulkAll {H : Type} : List (DataW H) → Nat
  | [] => 0
  | d :: r => uptoBulk d + uptoBulkAll r
def uptoBulkEntries {H : Type} : List (Lit × DataW H) → Nat
  | [] => 0
  | x :: r => uptoBulkEntry x + uptoBulkEntries r
def uptoBulkEntry {H : Type} : Lit × DataW H → Nat
  | (.string bytes, d) => bytes.length + uptoBulk d + 1
  | (_, d) => uptoBulk d + 1
 end
def uptoSmall : (H : Type) → List (DataW H) → Bool := fun _ ds => decide (uptoBulkAll ds ≤ 1048576)
def OpenSpec.upto (s : _root_.Go.ChangeSpec) : _root_.Go.OpenSpec := { _root_.Go.OpenSpec.ofChange s with cond := some uptoSmall }

/-- 'laws.FnFlattenCurveBox', WHERE WHAT IT READS IS OF BULK AT MOST 1048576: true; the input reads as it did. -/
def fnFlattenCurveBoxUptoRow : OpenClaim := { program := "ytmddkhincpibhaa", sum := "6c97cd61800b0ffd04988c940c50861c025e84bbea1ae5a1ebb48d765d05c4d7", func := "loop.example/vectorraster/laws.FnFlattenCurveBox", spec := "fnFlattenCurveBox", unfollowed := true, recurses := true, apart := false, narrowed := true }
def FnFlattenCurveBoxUptoSaid : Prop := fnFlattenCurveBoxUptoRow.holds Try.pinned (OpenSpec.upto fnFlattenCurveBoxSpec)

/-- 'laws.FnFlattenCurveHalves', WHERE WHAT IT READS IS OF BULK AT MOST 1048576: true; the input reads as it did. -/
def fnFlattenCurveHalvesUptoRow : OpenClaim := { program := "ytmddkhincpibhaa", sum := "6c97cd61800b0ffd04988c940c50861c025e84bbea1ae5a1ebb48d765d05c4d7", func := "loop.example/vectorraster/laws.FnFlattenCurveHalves", spec := "fnFlattenCurveHalves", unfollowed := true, recurses := true, apart := false, narrowed := true }
def FnFlattenCurveHalvesUptoSaid : Prop := fnFlattenCurveHalvesUptoRow.holds Try.pinned (OpenSpec.upto fnFlattenCurveHalvesSpec)

/-- 'laws.FnExactBendOf', WHERE WHAT IT READS IS OF BULK AT MOST 1048576: true; the input reads as it did. -/
def fnExactBendOfUptoRow : OpenClaim := { program := "ytmddkhincpibhaa", sum := "6c97cd61800b0ffd04988c940c50861c025e84bbea1ae5a1ebb48d765d05c4d7", func := "loop.example/vectorraster/laws.FnExactBendOf", spec := "fnExactBendOf", unfollowed := true, recurses := true, apart := false, narrowed := true }
def FnExactBendOfUptoSaid : Prop := fnExactBendOfUptoRow.holds Try.pinned (OpenSpec.upto fnExactBendOfSpec)

/-- 'laws.FnRaiseCurveLine', WHERE WHAT IT READS IS OF BULK AT MOST 1048576: true; the input reads as it did. -/
def fnRaiseCurveLineUptoRow : OpenClaim := { program := "ytmddkhincpibhaa", sum := "6c97cd61800b0ffd04988c940c50861c025e84bbea1ae5a1ebb48d765d05c4d7", func := "loop.example/vectorraster/laws.FnRaiseCurveLine", spec := "fnRaiseCurveLine", unfollowed := true, recurses := true, apart := false, narrowed := true }
def FnRaiseCurveLineUptoSaid : Prop := fnRaiseCurveLineUptoRow.holds Try.pinned (OpenSpec.upto fnRaiseCurveLineSpec)

/-- 'laws.FnExactRaiseCurve', WHERE WHAT IT READS IS OF BULK AT MOST 1048576: true; the input reads as it did. -/
def fnExactRaiseCurveUptoRow : OpenClaim := { program := "ytmddkhincpibhaa", sum := "6c97cd61800b0ffd04988c940c50861c025e84bbea1ae5a1ebb48d765d05c4d7", func := "loop.example/vectorraster/laws.FnExactRaiseCurve", spec := "fnExactRaiseCurve", unfollowed := true, recurses := true, apart := false, narrowed := true }
def FnExactRaiseCurveUptoSaid : Prop := fnExactRaiseCurveUptoRow.holds Try.pinned (OpenSpec.upto fnExactRaiseCurveSpec)

/-- 'laws.FnRaiseCurve', WHERE WHAT IT READS IS OF BULK AT MOST 1048576: true; the input reads as it did. -/
def fnRaiseCurveUptoRow : OpenClaim := { program := "ytmddkhincpibhaa", sum := "6c97cd61800b0ffd04988c940c50861c025e84bbea1ae5a1ebb48d765d05c4d7", func := "loop.example/vectorraster/laws.FnRaiseCurve", spec := "fnRaiseCurve", unfollowed := true, recurses := true, apart := false, narrowed := true }
def FnRaiseCurveUptoSaid : Prop := fnRaiseCurveUptoRow.holds Try.pinned (OpenSpec.upto fnRaiseCurveSpec)

/-- 'laws.FnBendOf', WHERE WHAT IT READS IS OF BULK AT MOST 1048576: true; the input reads as it did. -/
def fnBendOfUptoRow : OpenClaim := { program := "ytmddkhincpibhaa", sum := "6c97cd61800b0ffd04988c940c50861c025e84bbea1ae5a1ebb48d765d05c4d7", func := "loop.example/vectorraster/laws.FnBendOf", spec := "fnBendOf", unfollowed := true, recurses := true, apart := false, narrowed := true }
def FnBendOfUptoSaid : Prop := fnBendOfUptoRow.holds Try.pinned (OpenSpec.upto fnBendOfSpec)

/-- 'laws.FnSplitCurve', WHERE WHAT IT READS IS OF BULK AT MOST 1048576: true; the input reads as it did. -/
def fnSplitCurveUptoRow : OpenClaim := { program := "ytmddkhincpibhaa", sum := "6c97cd61800b0ffd04988c940c50861c025e84bbea1ae5a1ebb48d765d05c4d7", func := "loop.example/vectorraster/laws.FnSplitCurve", spec := "fnSplitCurve", unfollowed := true, recurses := true, apart := false, narrowed := true }
def FnSplitCurveUptoSaid : Prop := fnSplitCurveUptoRow.holds Try.pinned (OpenSpec.upto fnSplitCurveSpec)

/-- 'laws.FnExactSplitCurve', WHERE WHAT IT READS IS OF BULK AT MOST 1048576: true; the input reads as it did. -/
def fnExactSplitCurveUptoRow : OpenClaim := { program := "ytmddkhincpibhaa", sum := "6c97cd61800b0ffd04988c940c50861c025e84bbea1ae5a1ebb48d765d05c4d7", func := "loop.example/vectorraster/laws.FnExactSplitCurve", spec := "fnExactSplitCurve", unfollowed := true, recurses := true, apart := false, narrowed := true }
def FnExactSplitCurveUptoSaid : Prop := fnExactSplitCurveUptoRow.holds Try.pinned (OpenSpec.upto fnExactSplitCurveSpec)

/-- 'laws.FnSplitCurveBox', WHERE WHAT IT READS IS OF BULK AT MOST 1048576: true; the input reads as it did. -/
def fnSplitCurveBoxUptoRow : OpenClaim := { program := "ytmddkhincpibhaa", sum := "6c97cd61800b0ffd04988c940c50861c025e84bbea1ae5a1ebb48d765d05c4d7", func := "loop.example/vectorraster/laws.FnSplitCurveBox", spec := "fnSplitCurveBox", unfollowed := true, recurses := true, apart := false, narrowed := true }
def FnSplitCurveBoxUptoSaid : Prop := fnSplitCurveBoxUptoRow.holds Try.pinned (OpenSpec.upto fnSplitCurveBoxSpec)

/-- 'laws.FnSplitCurveReverse', WHERE WHAT IT READS IS OF BULK AT MOST 1048576: true; the input reads as it did. -/
def fnSplitCurveReverseUptoRow : OpenClaim := { program := "ytmddkhincpibhaa", sum := "6c97cd61800b0ffd04988c940c50861c025e84bbea1ae5a1ebb48d765d05c4d7", func := "loop.example/vectorraster/laws.FnSplitCurveReverse", spec := "fnSplitCurveReverse", unfollowed := true, recurses := true, apart := false, narrowed := true }
def FnSplitCurveReverseUptoSaid : Prop := fnSplitCurveReverseUptoRow.holds Try.pinned (OpenSpec.upto fnSplitCurveReverseSpec)

/-- 'laws.FnFlattenCurve', WHERE WHAT IT READS IS OF BULK AT MOST 1048576: true; the input reads as it did. -/
def fnFlattenCurveUptoRow : OpenClaim := { program := "ytmddkhincpibhaa", sum := "6c97cd61800b0ffd04988c940c50861c025e84bbea1ae5a1ebb48d765d05c4d7", func := "loop.example/vectorraster/laws.FnFlattenCurve", spec := "fnFlattenCurve", unfollowed := true, recurses := true, apart := false, narrowed := true }
def FnFlattenCurveUptoSaid : Prop := fnFlattenCurveUptoRow.holds Try.pinned (OpenSpec.upto fnFlattenCurveSpec)

/-- 'laws.FnExactFlattenCurve', WHERE WHAT IT READS IS OF BULK AT MOST 1048576: true; the input reads as it did. -/
def fnExactFlattenCurveUptoRow : OpenClaim := { program := "ytmddkhincpibhaa", sum := "6c97cd61800b0ffd04988c940c50861c025e84bbea1ae5a1ebb48d765d05c4d7", func := "loop.example/vectorraster/laws.FnExactFlattenCurve", spec := "fnExactFlattenCurve", unfollowed := true, recurses := true, apart := false, narrowed := true }
def FnExactFlattenCurveUptoSaid : Prop := fnExactFlattenCurveUptoRow.holds Try.pinned (OpenSpec.upto fnExactFlattenCurveSpec)

end Rows
end Go.Proofs.Ytmddkhincpibhaa
