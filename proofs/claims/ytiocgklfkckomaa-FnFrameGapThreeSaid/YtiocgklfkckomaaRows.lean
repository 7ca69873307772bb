/-
  No cell of these rows narrows 'for every input' (looked for: loops, veiled, ifaces, maps, wideKeys, modest, calm, conditions, laid).
  DERIVED. THE GIVEN ROWS OF THIS SEAT. 4 by the template 'for every input the law returns true; each argument reads behind the call as it read before'; 0 by the template 'total and deterministic' (their statements: YtiocgklfkckomaaTotals.lean).
  GIVEN WITH THE SEED: the statements are not yours to turn. If you find one false, say at which input.
  Laid BY PROGRAM, IN A SANDBOX (cutbox-rows.mjs): the forced cells as the released guide's own fill.sh prints them over the translation b059ac1cd0c75072… (all of the seat's roots in one cut). By AI agents, Wed Nov 11 2026. No macro, syntax, notation, axiom, sorry.
-/
import Derived.Test.YtiocgklfkckomaaChecked
import GoSem.Claim
import GoSem.ClaimJoined
import GoSem.ClaimMapViews
import Derived.JoinedTies
import Derived.KernelRfl
namespace Go.Proofs.Ytiocgklfkckomaa
/- THE CELL 'sum', in the pinned program and in every row, IS THE sha256 OF THE DUMP (.gsa) THAT YtiocgklfkckomaaProg.lean LOADS. Nothing in Lean hashes anything: it is a label: what it is worth is what the hold of that sum in a sandbox is worth. -/
noncomputable def Try.pinned : Pinned := { name := "ytiocgklfkckomaa", sum := "b059ac1cd0c750725e3cce2bc9843e24fb214ee4d31f844b75af8e8530a39d3f", checked := Try.checked }
namespace Rows
def none {H : Type} : Left H := { results := [], args := [] }

/-- 'laws.FnExactFrameGap': WHATEVER THE INPUT: true; the input reads as it did. -/
def fnExactFrameGapSpec : ChangeSpec := { name := "fnExactFrameGap", fn := fun _ => fun
  | [d1, d2] => { results := [.lit (.bool true)], args := [d1, d2] }
  | _ => none }
def fnExactFrameGapRow : OpenClaim := { program := "ytiocgklfkckomaa", sum := "b059ac1cd0c750725e3cce2bc9843e24fb214ee4d31f844b75af8e8530a39d3f", func := "loop.example/vectorraster/laws.FnExactFrameGap", spec := "fnExactFrameGap", unfollowed := true, recurses := true, apart := false }
def FnExactFrameGapSaid : Prop := fnExactFrameGapRow.holds Try.pinned (OpenSpec.ofChange fnExactFrameGapSpec)

/-- ITS FALSE NEIGHBOUR: 'it returns false'. Refute it at one input. -/
def fnExactFrameGapWrong : ChangeSpec := { name := "fnExactFrameGap", fn := fun _ => fun
  | [d1, d2] => { results := [.lit (.bool false)], args := [d1, d2] }
  | _ => none }
def FnExactFrameGapWrongFalsely : Prop := fnExactFrameGapRow.holds Try.pinned (OpenSpec.ofChange fnExactFrameGapWrong)

/-- 'laws.FnFrameGap': WHATEVER THE INPUT: true; the input reads as it did. -/
def fnFrameGapSpec : ChangeSpec := { name := "fnFrameGap", fn := fun _ => fun
  | [d] => { results := [.lit (.bool true)], args := [d] }
  | _ => none }
def fnFrameGapRow : OpenClaim := { program := "ytiocgklfkckomaa", sum := "b059ac1cd0c750725e3cce2bc9843e24fb214ee4d31f844b75af8e8530a39d3f", func := "loop.example/vectorraster/laws.FnFrameGap", spec := "fnFrameGap", unfollowed := true, recurses := true, apart := false }
def FnFrameGapSaid : Prop := fnFrameGapRow.holds Try.pinned (OpenSpec.ofChange fnFrameGapSpec)

/-- ITS FALSE NEIGHBOUR: 'it returns false'. Refute it at one input. -/
def fnFrameGapWrong : ChangeSpec := { name := "fnFrameGap", fn := fun _ => fun
  | [d] => { results := [.lit (.bool false)], args := [d] }
  | _ => none }
def FnFrameGapWrongFalsely : Prop := fnFrameGapRow.holds Try.pinned (OpenSpec.ofChange fnFrameGapWrong)

/-- 'laws.FnFrameGapThree': WHATEVER THE INPUT: true; the input reads as it did. -/
def fnFrameGapThreeSpec : ChangeSpec := { name := "fnFrameGapThree", fn := fun _ => fun
  | [d] => { results := [.lit (.bool true)], args := [d] }
  | _ => none }
def fnFrameGapThreeRow : OpenClaim := { program := "ytiocgklfkckomaa", sum := "b059ac1cd0c750725e3cce2bc9843e24fb214ee4d31f844b75af8e8530a39d3f", func := "loop.example/vectorraster/laws.FnFrameGapThree", spec := "fnFrameGapThree", unfollowed := true, recurses := true, apart := false }
def FnFrameGapThreeSaid : Prop := fnFrameGapThreeRow.holds Try.pinned (OpenSpec.ofChange fnFrameGapThreeSpec)

/-- ITS FALSE NEIGHBOUR: 'it returns false'. Refute it at one input. -/
def fnFrameGapThreeWrong : ChangeSpec := { name := "fnFrameGapThree", fn := fun _ => fun
  | [d] => { results := [.lit (.bool false)], args := [d] }
  | _ => none }
def FnFrameGapThreeWrongFalsely : Prop := fnFrameGapThreeRow.holds Try.pinned (OpenSpec.ofChange fnFrameGapThreeWrong)

/-- 'laws.FnExactValidPath': WHATEVER THE INPUT: true; the input reads as it did. -/
def fnExactValidPathSpec : ChangeSpec := { name := "fnExactValidPath", fn := fun _ => fun
  | [d] => { results := [.lit (.bool true)], args := [d] }
  | _ => none }
def fnExactValidPathRow : OpenClaim := { program := "ytiocgklfkckomaa", sum := "b059ac1cd0c750725e3cce2bc9843e24fb214ee4d31f844b75af8e8530a39d3f", func := "loop.example/vectorraster/laws.FnExactValidPath", spec := "fnExactValidPath", unfollowed := true, recurses := true, apart := false }
def FnExactValidPathSaid : Prop := fnExactValidPathRow.holds Try.pinned (OpenSpec.ofChange fnExactValidPathSpec)

/-- ITS FALSE NEIGHBOUR: 'it returns false'. Refute it at one input. -/
def fnExactValidPathWrong : ChangeSpec := { name := "fnExactValidPath", fn := fun _ => fun
  | [d] => { results := [.lit (.bool false)], args := [d] }
  | _ => none }
def FnExactValidPathWrongFalsely : Prop := fnExactValidPathRow.holds Try.pinned (OpenSpec.ofChange fnExactValidPathWrong)

/- THE SECOND FORM. 'bulk': how many values and letters a reading holds, each counted each time it is reached (what is shared counts as often as it is met; a slice's spare places count too). A statement '..UptoSaid' is the law's where the arguments, and the package variables that the reading takes, are together of bulk at most 1048576: NARROWER than '..Said'. Prove '..Said' where nothing that the law and all that it calls make is longer than what came in: it says more and counts as full. Else prove '..UptoSaid'. A law counts once. -/
mutual
def uptoBulk {H : Type} : DataW H → Nat
  | .lit (.string bytes) => bytes.length + 1
  | .lit _ => 1
  | .nil => 1
  | .ptr d => uptoBulk d + 1
  | .slice elems spare => uptoBulkAll elems + uptoBulkAll spare + 1
  | .agg parts => uptoBulkAll parts + 1
  | .iface _ d => uptoBulk d + 1
  | .map entries => uptoBulkEntries entries + 1
  | .held _ => 1
def uptoBulkAll {H : Type} : List (DataW H) → Nat
  | [] => 0
  | d :: r => uptoBulk d + uptoBulkAll r
def uptoBulkEntries {H : Type} : List (Lit × DataW H) → Nat
  | [] => 0
  | x :: r => uptoBulkEntry x + uptoBulkEntries r
def uptoBulkEntry {H : Type} : Lit × DataW H → Nat
  | (.string bytes, d) => bytes.length + uptoBulk d + 1
  | (_, d) => uptoBulk d + 1
 end
def uptoSmall : (H : Type) → List (DataW H) → Bool := fun _ ds => decide (uptoBulkAll ds ≤ 1048576)
def OpenSpec.upto (s : _root_.Go.ChangeSpec) : _root_.Go.OpenSpec := { _root_.Go.OpenSpec.ofChange s with cond := some uptoSmall }

/-- 'laws.FnExactFrameGap', WHERE WHAT IT READS IS OF BULK AT MOST 1048576: true; the input reads as it did. -/
def fnExactFrameGapUptoRow : OpenClaim := { program := "ytiocgklfkckomaa", sum := "b059ac1cd0c750725e3cce2bc9843e24fb214ee4d31f844b75af8e8530a39d3f", func := "loop.example/vectorraster/laws.FnExactFrameGap", spec := "fnExactFrameGap", unfollowed := true, recurses := true, apart := false, narrowed := true }
def FnExactFrameGapUptoSaid : Prop := fnExactFrameGapUptoRow.holds Try.pinned (OpenSpec.upto fnExactFrameGapSpec)

/-- 'laws.FnFrameGap', WHERE WHAT IT READS IS OF BULK AT MOST 1048576: true; the input reads as it did. -/
def fnFrameGapUptoRow : OpenClaim := { program := "ytiocgklfkckomaa", sum := "b059ac1cd0c750725e3cce2bc9843e24fb214ee4d31f844b75af8e8530a39d3f", func := "loop.example/vectorraster/laws.FnFrameGap", spec := "fnFrameGap", unfollowed := true, recurses := true, apart := false, narrowed := true }
def FnFrameGapUptoSaid : Prop := fnFrameGapUptoRow.holds Try.pinned (OpenSpec.upto fnFrameGapSpec)

/-- 'laws.FnFrameGapThree', WHERE WHAT IT READS IS OF BULK AT MOST 1048576: true; the input reads as it did. -/
def fnFrameGapThreeUptoRow : OpenClaim := { program := "ytiocgklfkckomaa", sum := "b059ac1cd0c750725e3cce2bc9843e24fb214ee4d31f844b75af8e8530a39d3f", func := "loop.example/vectorraster/laws.FnFrameGapThree", spec := "fnFrameGapThree", unfollowed := true, recurses := true, apart := false, narrowed := true }
def FnFrameGapThreeUptoSaid : Prop := fnFrameGapThreeUptoRow.holds Try.pinned (OpenSpec.upto fnFrameGapThreeSpec)

/-- 'laws.FnExactValidPath', WHERE WHAT IT READS IS OF BULK AT MOST 1048576: true; the input reads as it did. -/
def fnExactValidPathUptoRow : OpenClaim := { program := "ytiocgklfkckomaa", sum := "b059ac1cd0c750725e3cce2bc9843e24fb214ee4d31f844b75af8e8530a39d3f", func := "loop.example/vectorraster/laws.FnExactValidPath", spec := "fnExactValidPath", unfollowed := true, recurses := true, apart := false, narrowed := true }
def FnExactValidPathUptoSaid : Prop := fnExactValidPathUptoRow.holds Try.pinned (OpenSpec.upto fnExactValidPathSpec)

end Rows
end Go.Proofs.Ytiocgklfkckomaa
