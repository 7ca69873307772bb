/-
  No cell of these rows narrows 'for every input' (looked for: loops, veiled, ifaces, maps, wideKeys, modest, calm, conditions, laid).
  DERIVED. THE GIVEN ROWS OF THIS SEAT. 7 by the template 'for every input the law returns true; each argument reads behind the call as it read before'; 0 by the template 'total and deterministic' (their statements: YtnmbeocgnmnpfaaTotals.lean).
  GIVEN WITH THE SEED: the statements are not yours to turn. If you find one false, say at which input.
  Laid BY PROGRAM, IN A SANDBOX (cutbox-rows.mjs): the forced cells as the released guide's own fill.sh prints them over the translation c0d37a3e751d8cdd… (all of the seat's roots in one cut). By AI agents, Wed Nov 11 2026. No macro, syntax, notation, axiom, sorry.
-/
import Derived.Test.YtnmbeocgnmnpfaaChecked
import GoSem.Claim
import GoSem.ClaimJoined
import GoSem.ClaimMapViews
import Derived.JoinedTies
import Derived.KernelRfl
namespace Go.Proofs.Ytnmbeocgnmnpfaa
/- THE CELL 'sum', in the pinned program and in every row, IS THE sha256 OF THE DUMP (.gsa) THAT YtnmbeocgnmnpfaaProg.lean LOADS. Nothing in Lean hashes anything: it is a label: what it is worth is what the hold of that sum in a sandbox is worth. -/
noncomputable def Try.pinned : Pinned := { name := "ytnmbeocgnmnpfaa", sum := "c0d37a3e751d8cddcd79b4d9da21569dcc4ee092249f07a05981366a8ec7fbef", checked := Try.checked }
namespace Rows
def none {H : Type} : Left H := { results := [], args := [] }

/-- 'laws.FnBoxOf': WHATEVER THE INPUT: true; the input reads as it did. -/
def fnBoxOfSpec : ChangeSpec := { name := "fnBoxOf", fn := fun _ => fun
  | [d] => { results := [.lit (.bool true)], args := [d] }
  | _ => none }
def fnBoxOfRow : OpenClaim := { program := "ytnmbeocgnmnpfaa", sum := "c0d37a3e751d8cddcd79b4d9da21569dcc4ee092249f07a05981366a8ec7fbef", func := "loop.example/vectorraster/laws.FnBoxOf", spec := "fnBoxOf", unfollowed := true, recurses := true, apart := false }
def FnBoxOfSaid : Prop := fnBoxOfRow.holds Try.pinned (OpenSpec.ofChange fnBoxOfSpec)

/-- ITS FALSE NEIGHBOUR: 'it returns false'. Refute it at one input. -/
def fnBoxOfWrong : ChangeSpec := { name := "fnBoxOf", fn := fun _ => fun
  | [d] => { results := [.lit (.bool false)], args := [d] }
  | _ => none }
def FnBoxOfWrongFalsely : Prop := fnBoxOfRow.holds Try.pinned (OpenSpec.ofChange fnBoxOfWrong)

/-- 'laws.FnExactBoxOf': WHATEVER THE INPUT: true; the input reads as it did. -/
def fnExactBoxOfSpec : ChangeSpec := { name := "fnExactBoxOf", fn := fun _ => fun
  | [d] => { results := [.lit (.bool true)], args := [d] }
  | _ => none }
def fnExactBoxOfRow : OpenClaim := { program := "ytnmbeocgnmnpfaa", sum := "c0d37a3e751d8cddcd79b4d9da21569dcc4ee092249f07a05981366a8ec7fbef", func := "loop.example/vectorraster/laws.FnExactBoxOf", spec := "fnExactBoxOf", unfollowed := true, recurses := true, apart := false }
def FnExactBoxOfSaid : Prop := fnExactBoxOfRow.holds Try.pinned (OpenSpec.ofChange fnExactBoxOfSpec)

/-- ITS FALSE NEIGHBOUR: 'it returns false'. Refute it at one input. -/
def fnExactBoxOfWrong : ChangeSpec := { name := "fnExactBoxOf", fn := fun _ => fun
  | [d] => { results := [.lit (.bool false)], args := [d] }
  | _ => none }
def FnExactBoxOfWrongFalsely : Prop := fnExactBoxOfRow.holds Try.pinned (OpenSpec.ofChange fnExactBoxOfWrong)

/-- 'laws.FnExactMovePoints': WHATEVER THE INPUT: true; the input reads as it did. -/
def fnExactMovePointsSpec : ChangeSpec := { name := "fnExactMovePoints", fn := fun _ => fun
  | [d1, d2, d3] => { results := [.lit (.bool true)], args := [d1, d2, d3] }
  | _ => none }
def fnExactMovePointsRow : OpenClaim := { program := "ytnmbeocgnmnpfaa", sum := "c0d37a3e751d8cddcd79b4d9da21569dcc4ee092249f07a05981366a8ec7fbef", func := "loop.example/vectorraster/laws.FnExactMovePoints", spec := "fnExactMovePoints", unfollowed := true, recurses := true, apart := false }
def FnExactMovePointsSaid : Prop := fnExactMovePointsRow.holds Try.pinned (OpenSpec.ofChange fnExactMovePointsSpec)

/-- ITS FALSE NEIGHBOUR: 'it returns false'. Refute it at one input. -/
def fnExactMovePointsWrong : ChangeSpec := { name := "fnExactMovePoints", fn := fun _ => fun
  | [d1, d2, d3] => { results := [.lit (.bool false)], args := [d1, d2, d3] }
  | _ => none }
def FnExactMovePointsWrongFalsely : Prop := fnExactMovePointsRow.holds Try.pinned (OpenSpec.ofChange fnExactMovePointsWrong)

/-- 'laws.FnMovePoints': WHATEVER THE INPUT: true; the input reads as it did. -/
def fnMovePointsSpec : ChangeSpec := { name := "fnMovePoints", fn := fun _ => fun
  | [d] => { results := [.lit (.bool true)], args := [d] }
  | _ => none }
def fnMovePointsRow : OpenClaim := { program := "ytnmbeocgnmnpfaa", sum := "c0d37a3e751d8cddcd79b4d9da21569dcc4ee092249f07a05981366a8ec7fbef", func := "loop.example/vectorraster/laws.FnMovePoints", spec := "fnMovePoints", unfollowed := true, recurses := true, apart := false }
def FnMovePointsSaid : Prop := fnMovePointsRow.holds Try.pinned (OpenSpec.ofChange fnMovePointsSpec)

/-- ITS FALSE NEIGHBOUR: 'it returns false'. Refute it at one input. -/
def fnMovePointsWrong : ChangeSpec := { name := "fnMovePoints", fn := fun _ => fun
  | [d] => { results := [.lit (.bool false)], args := [d] }
  | _ => none }
def FnMovePointsWrongFalsely : Prop := fnMovePointsRow.holds Try.pinned (OpenSpec.ofChange fnMovePointsWrong)

/-- 'laws.FnMovePointsSum': WHATEVER THE INPUT: true; the input reads as it did. -/
def fnMovePointsSumSpec : ChangeSpec := { name := "fnMovePointsSum", fn := fun _ => fun
  | [d] => { results := [.lit (.bool true)], args := [d] }
  | _ => none }
def fnMovePointsSumRow : OpenClaim := { program := "ytnmbeocgnmnpfaa", sum := "c0d37a3e751d8cddcd79b4d9da21569dcc4ee092249f07a05981366a8ec7fbef", func := "loop.example/vectorraster/laws.FnMovePointsSum", spec := "fnMovePointsSum", unfollowed := true, recurses := true, apart := false }
def FnMovePointsSumSaid : Prop := fnMovePointsSumRow.holds Try.pinned (OpenSpec.ofChange fnMovePointsSumSpec)

/-- ITS FALSE NEIGHBOUR: 'it returns false'. Refute it at one input. -/
def fnMovePointsSumWrong : ChangeSpec := { name := "fnMovePointsSum", fn := fun _ => fun
  | [d] => { results := [.lit (.bool false)], args := [d] }
  | _ => none }
def FnMovePointsSumWrongFalsely : Prop := fnMovePointsSumRow.holds Try.pinned (OpenSpec.ofChange fnMovePointsSumWrong)

/-- 'laws.FnBoxOfMoved': WHATEVER THE INPUT: true; the input reads as it did. -/
def fnBoxOfMovedSpec : ChangeSpec := { name := "fnBoxOfMoved", fn := fun _ => fun
  | [d] => { results := [.lit (.bool true)], args := [d] }
  | _ => none }
def fnBoxOfMovedRow : OpenClaim := { program := "ytnmbeocgnmnpfaa", sum := "c0d37a3e751d8cddcd79b4d9da21569dcc4ee092249f07a05981366a8ec7fbef", func := "loop.example/vectorraster/laws.FnBoxOfMoved", spec := "fnBoxOfMoved", unfollowed := true, recurses := true, apart := false }
def FnBoxOfMovedSaid : Prop := fnBoxOfMovedRow.holds Try.pinned (OpenSpec.ofChange fnBoxOfMovedSpec)

/-- ITS FALSE NEIGHBOUR: 'it returns false'. Refute it at one input. -/
def fnBoxOfMovedWrong : ChangeSpec := { name := "fnBoxOfMoved", fn := fun _ => fun
  | [d] => { results := [.lit (.bool false)], args := [d] }
  | _ => none }
def FnBoxOfMovedWrongFalsely : Prop := fnBoxOfMovedRow.holds Try.pinned (OpenSpec.ofChange fnBoxOfMovedWrong)

/-- 'laws.FnLineLengthMove': WHATEVER THE INPUT: true; the input reads as it did. -/
def fnLineLengthMoveSpec : ChangeSpec := { name := "fnLineLengthMove", fn := fun _ => fun
  | [d] => { results := [.lit (.bool true)], args := [d] }
  | _ => none }
def fnLineLengthMoveRow : OpenClaim := { program := "ytnmbeocgnmnpfaa", sum := "c0d37a3e751d8cddcd79b4d9da21569dcc4ee092249f07a05981366a8ec7fbef", func := "loop.example/vectorraster/laws.FnLineLengthMove", spec := "fnLineLengthMove", unfollowed := true, recurses := true, apart := false }
def FnLineLengthMoveSaid : Prop := fnLineLengthMoveRow.holds Try.pinned (OpenSpec.ofChange fnLineLengthMoveSpec)

/-- ITS FALSE NEIGHBOUR: 'it returns false'. Refute it at one input. -/
def fnLineLengthMoveWrong : ChangeSpec := { name := "fnLineLengthMove", fn := fun _ => fun
  | [d] => { results := [.lit (.bool false)], args := [d] }
  | _ => none }
def FnLineLengthMoveWrongFalsely : Prop := fnLineLengthMoveRow.holds Try.pinned (OpenSpec.ofChange fnLineLengthMoveWrong)

/- THE SECOND FORM. 'bulk': how many values and letters a reading holds, each counted each time it is reached (what is shared counts as often as it is met; a slice's spare places count too). A statement '..UptoSaid' is the law's where the arguments, and the package variables that the reading takes, are together of bulk at most 1048576: NARROWER than '..Said'. Prove '..Said' where nothing that the law and all that it calls make is longer than what came in: it says more and counts as full. Else prove '..UptoSaid'. A law counts once. -/
mutual
def uptoBulk {H : Type} : DataW H → Nat
  | .lit (.string bytes) => bytes.length + 1
  | .lit _ => 1
  | .nil => 1
  | .ptr d => uptoBulk d + 1
  | .slice elems spare => uptoBulkAll elems + uptoBulkAll spare + 1
  | .agg parts => uptoBulkAll parts + 1
  | .iface _ d => uptoBulk d + 1
  | .map entries => uptoBulkEntries entries + 1
  | .held _ => 1
def uptoBulkAll {H : Type} : List (DataW H) → Nat
  | [] => 0
  | d :: r => uptoBulk d + uptoBulkAll r
def uptoBulkEntries {H : Type} : List (Lit × DataW H) → Nat
  | [] => 0
  | x :: r => uptoBulkEntry x + uptoBulkEntries r
def uptoBulkEntry {H : Type} : Lit × DataW H → Nat
  | (.string bytes, d) => bytes.length + uptoBulk d + 1
  | (_, d) => uptoBulk d + 1
 end
def uptoSmall : (H : Type) → List (DataW H) → Bool := fun _ ds => decide (uptoBulkAll ds ≤ 1048576)
def OpenSpec.upto (s : _root_.Go.ChangeSpec) : _root_.Go.OpenSpec := { _root_.Go.OpenSpec.ofChange s with cond := some uptoSmall }

/-- 'laws.FnBoxOf', WHERE WHAT IT READS IS OF BULK AT MOST 1048576: true; the input reads as it did. -/
def fnBoxOfUptoRow : OpenClaim := { program := "ytnmbeocgnmnpfaa", sum := "c0d37a3e751d8cddcd79b4d9da21569dcc4ee092249f07a05981366a8ec7fbef", func := "loop.example/vectorraster/laws.FnBoxOf", spec := "fnBoxOf", unfollowed := true, recurses := true, apart := false, narrowed := true }
def FnBoxOfUptoSaid : Prop := fnBoxOfUptoRow.holds Try.pinned (OpenSpec.upto fnBoxOfSpec)

/-- 'laws.FnExactBoxOf', WHERE WHAT IT READS IS OF BULK AT MOST 1048576: true; the input reads as it did. -/
def fnExactBoxOfUptoRow : OpenClaim := { program := "ytnmbeocgnmnpfaa", sum := "c0d37a3e751d8cddcd79b4d9da21569dcc4ee092249f07a05981366a8ec7fbef", func := "loop.example/vectorraster/laws.FnExactBoxOf", spec := "fnExactBoxOf", unfollowed := true, recurses := true, apart := false, narrowed := true }
def FnExactBoxOfUptoSaid : Prop := fnExactBoxOfUptoRow.holds Try.pinned (OpenSpec.upto fnExactBoxOfSpec)

/-- 'laws.FnExactMovePoints', WHERE WHAT IT READS IS OF BULK AT MOST 1048576: true; the input reads as it did. -/
def fnExactMovePointsUptoRow : OpenClaim := { program := "ytnmbeocgnmnpfaa", sum := "c0d37a3e751d8cddcd79b4d9da21569dcc4ee092249f07a05981366a8ec7fbef", func := "loop.example/vectorraster/laws.FnExactMovePoints", spec := "fnExactMovePoints", unfollowed := true, recurses := true, apart := false, narrowed := true }
def FnExactMovePointsUptoSaid : Prop := fnExactMovePointsUptoRow.holds Try.pinned (OpenSpec.upto fnExactMovePointsSpec)

/-- 'laws.FnMovePoints', WHERE WHAT IT READS IS OF BULK AT MOST 1048576: true; the input reads as it did. -/
def fnMovePointsUptoRow : OpenClaim := { program := "ytnmbeocgnmnpfaa", sum := "c0d37a3e751d8cddcd79b4d9da21569dcc4ee092249f07a05981366a8ec7fbef", func := "loop.example/vectorraster/laws.FnMovePoints", spec := "fnMovePoints", unfollowed := true, recurses := true, apart := false, narrowed := true }
def FnMovePointsUptoSaid : Prop := fnMovePointsUptoRow.holds Try.pinned (OpenSpec.upto fnMovePointsSpec)

/-- 'laws.FnMovePointsSum', WHERE WHAT IT READS IS OF BULK AT MOST 1048576: true; the input reads as it did. -/
def fnMovePointsSumUptoRow : OpenClaim := { program := "ytnmbeocgnmnpfaa", sum := "c0d37a3e751d8cddcd79b4d9da21569dcc4ee092249f07a05981366a8ec7fbef", func := "loop.example/vectorraster/laws.FnMovePointsSum", spec := "fnMovePointsSum", unfollowed := true, recurses := true, apart := false, narrowed := true }
def FnMovePointsSumUptoSaid : Prop := fnMovePointsSumUptoRow.holds Try.pinned (OpenSpec.upto fnMovePointsSumSpec)

/-- 'laws.FnBoxOfMoved', WHERE WHAT IT READS IS OF BULK AT MOST 1048576: true; the input reads as it did. -/
def fnBoxOfMovedUptoRow : OpenClaim := { program := "ytnmbeocgnmnpfaa", sum := "c0d37a3e751d8cddcd79b4d9da21569dcc4ee092249f07a05981366a8ec7fbef", func := "loop.example/vectorraster/laws.FnBoxOfMoved", spec := "fnBoxOfMoved", unfollowed := true, recurses := true, apart := false, narrowed := true }
def FnBoxOfMovedUptoSaid : Prop := fnBoxOfMovedUptoRow.holds Try.pinned (OpenSpec.upto fnBoxOfMovedSpec)

/-- 'laws.FnLineLengthMove', WHERE WHAT IT READS IS OF BULK AT MOST 1048576: true; the input reads as it did. -/
def fnLineLengthMoveUptoRow : OpenClaim := { program := "ytnmbeocgnmnpfaa", sum := "c0d37a3e751d8cddcd79b4d9da21569dcc4ee092249f07a05981366a8ec7fbef", func := "loop.example/vectorraster/laws.FnLineLengthMove", spec := "fnLineLengthMove", unfollowed := true, recurses := true, apart := false, narrowed := true }
def FnLineLengthMoveUptoSaid : Prop := fnLineLengthMoveUptoRow.holds Try.pinned (OpenSpec.upto fnLineLengthMoveSpec)

end Rows
end Go.Proofs.Ytnmbeocgnmnpfaa
