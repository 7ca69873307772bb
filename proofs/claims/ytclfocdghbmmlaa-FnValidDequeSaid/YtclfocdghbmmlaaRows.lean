/-
  No cell of these rows narrows 'for every input' (looked for: loops, veiled, ifaces, maps, wideKeys, modest, calm, conditions, laid).
  DERIVED. THE GIVEN ROWS OF THIS SEAT. 12 by the template 'for every input the law returns true; each argument reads behind the call as it read before'; 0 by the template 'total and deterministic' (their statements: YtclfocdghbmmlaaTotals.lean).
  GIVEN WITH THE SEED: the statements are not yours to turn. If you find one false, say at which input.
  Laid BY PROGRAM, IN A SANDBOX (cutbox-rows.mjs): the forced cells as the released guide's own fill.sh prints them over the translation 3bf21f08c0f63736… (all of the seat's roots in one cut). By AI agents, Wed Nov 11 2026. No macro, syntax, notation, axiom, sorry.
-/
import Derived.Test.YtclfocdghbmmlaaChecked
import GoSem.Claim
import GoSem.ClaimJoined
import GoSem.ClaimMapViews
import Derived.JoinedTies
import Derived.KernelRfl
namespace Go.Proofs.Ytclfocdghbmmlaa
/- THE CELL 'sum', in the pinned program and in every row, IS THE sha256 OF THE DUMP (.gsa) THAT YtclfocdghbmmlaaProg.lean LOADS. Nothing in Lean hashes anything: it is a label: what it is worth is what the hold of that sum in a sandbox is worth. -/
noncomputable def Try.pinned : Pinned := { name := "ytclfocdghbmmlaa", sum := "3bf21f08c0f63736c163950063433ad3476e331f68a14dd41fe486711d5c665a", checked := Try.checked }
namespace Rows
def none {H : Type} : Left H := { results := [], args := [] }

/-- 'laws.FnExactNewDeque': WHATEVER THE INPUT: true; the input reads as it did. -/
def fnExactNewDequeSpec : ChangeSpec := { name := "fnExactNewDeque", fn := fun _ => fun
  | [] => { results := [.lit (.bool true)], args := [] }
  | _ => none }
def fnExactNewDequeRow : OpenClaim := { program := "ytclfocdghbmmlaa", sum := "3bf21f08c0f63736c163950063433ad3476e331f68a14dd41fe486711d5c665a", func := "loop.example/vectorraster/laws.FnExactNewDeque", spec := "fnExactNewDeque", apart := false }
def FnExactNewDequeSaid : Prop := fnExactNewDequeRow.holds Try.pinned (OpenSpec.ofChange fnExactNewDequeSpec)

/-- ITS FALSE NEIGHBOUR: 'it returns false'. Refute it at one input. -/
def fnExactNewDequeWrong : ChangeSpec := { name := "fnExactNewDeque", fn := fun _ => fun
  | [] => { results := [.lit (.bool false)], args := [] }
  | _ => none }
def FnExactNewDequeWrongFalsely : Prop := fnExactNewDequeRow.holds Try.pinned (OpenSpec.ofChange fnExactNewDequeWrong)

/-- 'laws.FnDequeTiles': WHATEVER THE INPUT: true; the input reads as it did. -/
def fnDequeTilesSpec : ChangeSpec := { name := "fnDequeTiles", fn := fun _ => fun
  | [d] => { results := [.lit (.bool true)], args := [d] }
  | _ => none }
def fnDequeTilesRow : OpenClaim := { program := "ytclfocdghbmmlaa", sum := "3bf21f08c0f63736c163950063433ad3476e331f68a14dd41fe486711d5c665a", func := "loop.example/vectorraster/laws.FnDequeTiles", spec := "fnDequeTiles", apart := false }
def FnDequeTilesSaid : Prop := fnDequeTilesRow.holds Try.pinned (OpenSpec.ofChange fnDequeTilesSpec)

/-- ITS FALSE NEIGHBOUR: 'it returns false'. Refute it at one input. -/
def fnDequeTilesWrong : ChangeSpec := { name := "fnDequeTiles", fn := fun _ => fun
  | [d] => { results := [.lit (.bool false)], args := [d] }
  | _ => none }
def FnDequeTilesWrongFalsely : Prop := fnDequeTilesRow.holds Try.pinned (OpenSpec.ofChange fnDequeTilesWrong)

/-- 'laws.FnPopTile': WHATEVER THE INPUT: true; the input reads as it did. -/
def fnPopTileSpec : ChangeSpec := { name := "fnPopTile", fn := fun _ => fun
  | [d] => { results := [.lit (.bool true)], args := [d] }
  | _ => none }
def fnPopTileRow : OpenClaim := { program := "ytclfocdghbmmlaa", sum := "3bf21f08c0f63736c163950063433ad3476e331f68a14dd41fe486711d5c665a", func := "loop.example/vectorraster/laws.FnPopTile", spec := "fnPopTile", apart := false }
def FnPopTileSaid : Prop := fnPopTileRow.holds Try.pinned (OpenSpec.ofChange fnPopTileSpec)

/-- ITS FALSE NEIGHBOUR: 'it returns false'. Refute it at one input. -/
def fnPopTileWrong : ChangeSpec := { name := "fnPopTile", fn := fun _ => fun
  | [d] => { results := [.lit (.bool false)], args := [d] }
  | _ => none }
def FnPopTileWrongFalsely : Prop := fnPopTileRow.holds Try.pinned (OpenSpec.ofChange fnPopTileWrong)

/-- 'laws.FnStealTile': WHATEVER THE INPUT: true; the input reads as it did. -/
def fnStealTileSpec : ChangeSpec := { name := "fnStealTile", fn := fun _ => fun
  | [d] => { results := [.lit (.bool true)], args := [d] }
  | _ => none }
def fnStealTileRow : OpenClaim := { program := "ytclfocdghbmmlaa", sum := "3bf21f08c0f63736c163950063433ad3476e331f68a14dd41fe486711d5c665a", func := "loop.example/vectorraster/laws.FnStealTile", spec := "fnStealTile", apart := false }
def FnStealTileSaid : Prop := fnStealTileRow.holds Try.pinned (OpenSpec.ofChange fnStealTileSpec)

/-- ITS FALSE NEIGHBOUR: 'it returns false'. Refute it at one input. -/
def fnStealTileWrong : ChangeSpec := { name := "fnStealTile", fn := fun _ => fun
  | [d] => { results := [.lit (.bool false)], args := [d] }
  | _ => none }
def FnStealTileWrongFalsely : Prop := fnStealTileRow.holds Try.pinned (OpenSpec.ofChange fnStealTileWrong)

/-- 'laws.FnStealTilePop': WHATEVER THE INPUT: true; the input reads as it did. -/
def fnStealTilePopSpec : ChangeSpec := { name := "fnStealTilePop", fn := fun _ => fun
  | [d] => { results := [.lit (.bool true)], args := [d] }
  | _ => none }
def fnStealTilePopRow : OpenClaim := { program := "ytclfocdghbmmlaa", sum := "3bf21f08c0f63736c163950063433ad3476e331f68a14dd41fe486711d5c665a", func := "loop.example/vectorraster/laws.FnStealTilePop", spec := "fnStealTilePop", apart := false }
def FnStealTilePopSaid : Prop := fnStealTilePopRow.holds Try.pinned (OpenSpec.ofChange fnStealTilePopSpec)

/-- ITS FALSE NEIGHBOUR: 'it returns false'. Refute it at one input. -/
def fnStealTilePopWrong : ChangeSpec := { name := "fnStealTilePop", fn := fun _ => fun
  | [d] => { results := [.lit (.bool false)], args := [d] }
  | _ => none }
def FnStealTilePopWrongFalsely : Prop := fnStealTilePopRow.holds Try.pinned (OpenSpec.ofChange fnStealTilePopWrong)

/-- 'laws.FnPushTile': WHATEVER THE INPUT: true; the input reads as it did. -/
def fnPushTileSpec : ChangeSpec := { name := "fnPushTile", fn := fun _ => fun
  | [d] => { results := [.lit (.bool true)], args := [d] }
  | _ => none }
def fnPushTileRow : OpenClaim := { program := "ytclfocdghbmmlaa", sum := "3bf21f08c0f63736c163950063433ad3476e331f68a14dd41fe486711d5c665a", func := "loop.example/vectorraster/laws.FnPushTile", spec := "fnPushTile", apart := false }
def FnPushTileSaid : Prop := fnPushTileRow.holds Try.pinned (OpenSpec.ofChange fnPushTileSpec)

/-- ITS FALSE NEIGHBOUR: 'it returns false'. Refute it at one input. -/
def fnPushTileWrong : ChangeSpec := { name := "fnPushTile", fn := fun _ => fun
  | [d] => { results := [.lit (.bool false)], args := [d] }
  | _ => none }
def FnPushTileWrongFalsely : Prop := fnPushTileRow.holds Try.pinned (OpenSpec.ofChange fnPushTileWrong)

/-- 'laws.FnPushTilePop': WHATEVER THE INPUT: true; the input reads as it did. -/
def fnPushTilePopSpec : ChangeSpec := { name := "fnPushTilePop", fn := fun _ => fun
  | [d] => { results := [.lit (.bool true)], args := [d] }
  | _ => none }
def fnPushTilePopRow : OpenClaim := { program := "ytclfocdghbmmlaa", sum := "3bf21f08c0f63736c163950063433ad3476e331f68a14dd41fe486711d5c665a", func := "loop.example/vectorraster/laws.FnPushTilePop", spec := "fnPushTilePop", apart := false }
def FnPushTilePopSaid : Prop := fnPushTilePopRow.holds Try.pinned (OpenSpec.ofChange fnPushTilePopSpec)

/-- ITS FALSE NEIGHBOUR: 'it returns false'. Refute it at one input. -/
def fnPushTilePopWrong : ChangeSpec := { name := "fnPushTilePop", fn := fun _ => fun
  | [d] => { results := [.lit (.bool false)], args := [d] }
  | _ => none }
def FnPushTilePopWrongFalsely : Prop := fnPushTilePopRow.holds Try.pinned (OpenSpec.ofChange fnPushTilePopWrong)

/-- 'laws.FnDequeTilesPop': WHATEVER THE INPUT: true; the input reads as it did. -/
def fnDequeTilesPopSpec : ChangeSpec := { name := "fnDequeTilesPop", fn := fun _ => fun
  | [d] => { results := [.lit (.bool true)], args := [d] }
  | _ => none }
def fnDequeTilesPopRow : OpenClaim := { program := "ytclfocdghbmmlaa", sum := "3bf21f08c0f63736c163950063433ad3476e331f68a14dd41fe486711d5c665a", func := "loop.example/vectorraster/laws.FnDequeTilesPop", spec := "fnDequeTilesPop", apart := false }
def FnDequeTilesPopSaid : Prop := fnDequeTilesPopRow.holds Try.pinned (OpenSpec.ofChange fnDequeTilesPopSpec)

/-- ITS FALSE NEIGHBOUR: 'it returns false'. Refute it at one input. -/
def fnDequeTilesPopWrong : ChangeSpec := { name := "fnDequeTilesPop", fn := fun _ => fun
  | [d] => { results := [.lit (.bool false)], args := [d] }
  | _ => none }
def FnDequeTilesPopWrongFalsely : Prop := fnDequeTilesPopRow.holds Try.pinned (OpenSpec.ofChange fnDequeTilesPopWrong)

/-- 'laws.FnPushTileSteal': WHATEVER THE INPUT: true; the input reads as it did. -/
def fnPushTileStealSpec : ChangeSpec := { name := "fnPushTileSteal", fn := fun _ => fun
  | [d] => { results := [.lit (.bool true)], args := [d] }
  | _ => none }
def fnPushTileStealRow : OpenClaim := { program := "ytclfocdghbmmlaa", sum := "3bf21f08c0f63736c163950063433ad3476e331f68a14dd41fe486711d5c665a", func := "loop.example/vectorraster/laws.FnPushTileSteal", spec := "fnPushTileSteal", apart := false }
def FnPushTileStealSaid : Prop := fnPushTileStealRow.holds Try.pinned (OpenSpec.ofChange fnPushTileStealSpec)

/-- ITS FALSE NEIGHBOUR: 'it returns false'. Refute it at one input. -/
def fnPushTileStealWrong : ChangeSpec := { name := "fnPushTileSteal", fn := fun _ => fun
  | [d] => { results := [.lit (.bool false)], args := [d] }
  | _ => none }
def FnPushTileStealWrongFalsely : Prop := fnPushTileStealRow.holds Try.pinned (OpenSpec.ofChange fnPushTileStealWrong)

/-- 'laws.FnValidDeque': WHATEVER THE INPUT: true; the input reads as it did. -/
def fnValidDequeSpec : ChangeSpec := { name := "fnValidDeque", fn := fun _ => fun
  | [d] => { results := [.lit (.bool true)], args := [d] }
  | _ => none }
def fnValidDequeRow : OpenClaim := { program := "ytclfocdghbmmlaa", sum := "3bf21f08c0f63736c163950063433ad3476e331f68a14dd41fe486711d5c665a", func := "loop.example/vectorraster/laws.FnValidDeque", spec := "fnValidDeque", apart := false }
def FnValidDequeSaid : Prop := fnValidDequeRow.holds Try.pinned (OpenSpec.ofChange fnValidDequeSpec)

/-- ITS FALSE NEIGHBOUR: 'it returns false'. Refute it at one input. -/
def fnValidDequeWrong : ChangeSpec := { name := "fnValidDeque", fn := fun _ => fun
  | [d] => { results := [.lit (.bool false)], args := [d] }
  | _ => none }
def FnValidDequeWrongFalsely : Prop := fnValidDequeRow.holds Try.pinned (OpenSpec.ofChange fnValidDequeWrong)

/-- 'laws.FnWorkOrderOne': WHATEVER THE INPUT: true; the input reads as it did. -/
def fnWorkOrderOneSpec : ChangeSpec := { name := "fnWorkOrderOne", fn := fun _ => fun
  | [d] => { results := [.lit (.bool true)], args := [d] }
  | _ => none }
def fnWorkOrderOneRow : OpenClaim := { program := "ytclfocdghbmmlaa", sum := "3bf21f08c0f63736c163950063433ad3476e331f68a14dd41fe486711d5c665a", func := "loop.example/vectorraster/laws.FnWorkOrderOne", spec := "fnWorkOrderOne", unfollowed := true, recurses := true, apart := false }
def FnWorkOrderOneSaid : Prop := fnWorkOrderOneRow.holds Try.pinned (OpenSpec.ofChange fnWorkOrderOneSpec)

/-- ITS FALSE NEIGHBOUR: 'it returns false'. Refute it at one input. -/
def fnWorkOrderOneWrong : ChangeSpec := { name := "fnWorkOrderOne", fn := fun _ => fun
  | [d] => { results := [.lit (.bool false)], args := [d] }
  | _ => none }
def FnWorkOrderOneWrongFalsely : Prop := fnWorkOrderOneRow.holds Try.pinned (OpenSpec.ofChange fnWorkOrderOneWrong)

/-- 'laws.FnWorkOrderScript': WHATEVER THE INPUT: true; the input reads as it did. -/
def fnWorkOrderScriptSpec : ChangeSpec := { name := "fnWorkOrderScript", fn := fun _ => fun
  | [d] => { results := [.lit (.bool true)], args := [d] }
  | _ => none }
def fnWorkOrderScriptRow : OpenClaim := { program := "ytclfocdghbmmlaa", sum := "3bf21f08c0f63736c163950063433ad3476e331f68a14dd41fe486711d5c665a", func := "loop.example/vectorraster/laws.FnWorkOrderScript", spec := "fnWorkOrderScript", unfollowed := true, recurses := true, apart := false }
def FnWorkOrderScriptSaid : Prop := fnWorkOrderScriptRow.holds Try.pinned (OpenSpec.ofChange fnWorkOrderScriptSpec)

/-- ITS FALSE NEIGHBOUR: 'it returns false'. Refute it at one input. -/
def fnWorkOrderScriptWrong : ChangeSpec := { name := "fnWorkOrderScript", fn := fun _ => fun
  | [d] => { results := [.lit (.bool false)], args := [d] }
  | _ => none }
def FnWorkOrderScriptWrongFalsely : Prop := fnWorkOrderScriptRow.holds Try.pinned (OpenSpec.ofChange fnWorkOrderScriptWrong)

/- THE SECOND FORM. 'bulk': how many values and letters a reading holds, each counted each time it is reached (what is shared counts as often as it is met; a slice's spare places count too). A statement '..UptoSaid' is the law's where the arguments, and the package variables that the reading takes, are together of bulk at most 1048576: NARROWER than '..Said'. Prove '..Said' where nothing that the law and all that it calls make is longer than what came in: it says more and counts as full. Else prove '..UptoSaid'. A law counts once. -/
mutual
def uptoBulk {H : Type} : DataW H → Nat
  | .lit (.string bytes) => bytes.length + 1
  | .lit _ => 1
  | .nil => 1
  | .ptr d => uptoBulk d + 1
  | .slice elems spare => uptoBulkAll elems + uptoBulkAll spare + 1
  | .agg parts => uptoBulkAll parts + 1
  | .iface _ d => uptoBulk d + 1
  | .map entries => uptoBulkEntries entries + 1
  | .held _ => 1
def uptoBulkAll {H : Type} : List (DataW H) → Nat
  | [] => 0
  | d :: r => uptoBulk d + uptoBulkAll r
def uptoBulkEntries {H : Type} : List (Lit × DataW H) → Nat
  | [] => 0
  | x :: r => uptoBulkEntry x + uptoBulkEntries r
def uptoBulkEntry {H : Type} : Lit × DataW H → Nat
  | (.string bytes, d) => bytes.length + uptoBulk d + 1
  | (_, d) => uptoBulk d + 1
 end
def uptoSmall : (H : Type) → List (DataW H) → Bool := fun _ ds => decide (uptoBulkAll ds ≤ 1048576)
def OpenSpec.upto (s : _root_.Go.ChangeSpec) : _root_.Go.OpenSpec := { _root_.Go.OpenSpec.ofChange s with cond := some uptoSmall }

/-- 'laws.FnExactNewDeque', WHERE WHAT IT READS IS OF BULK AT MOST 1048576: true; the input reads as it did. -/
def fnExactNewDequeUptoRow : OpenClaim := { program := "ytclfocdghbmmlaa", sum := "3bf21f08c0f63736c163950063433ad3476e331f68a14dd41fe486711d5c665a", func := "loop.example/vectorraster/laws.FnExactNewDeque", spec := "fnExactNewDeque", apart := false, narrowed := true }
def FnExactNewDequeUptoSaid : Prop := fnExactNewDequeUptoRow.holds Try.pinned (OpenSpec.upto fnExactNewDequeSpec)

/-- 'laws.FnDequeTiles', WHERE WHAT IT READS IS OF BULK AT MOST 1048576: true; the input reads as it did. -/
def fnDequeTilesUptoRow : OpenClaim := { program := "ytclfocdghbmmlaa", sum := "3bf21f08c0f63736c163950063433ad3476e331f68a14dd41fe486711d5c665a", func := "loop.example/vectorraster/laws.FnDequeTiles", spec := "fnDequeTiles", apart := false, narrowed := true }
def FnDequeTilesUptoSaid : Prop := fnDequeTilesUptoRow.holds Try.pinned (OpenSpec.upto fnDequeTilesSpec)

/-- 'laws.FnPopTile', WHERE WHAT IT READS IS OF BULK AT MOST 1048576: true; the input reads as it did. -/
def fnPopTileUptoRow : OpenClaim := { program := "ytclfocdghbmmlaa", sum := "3bf21f08c0f63736c163950063433ad3476e331f68a14dd41fe486711d5c665a", func := "loop.example/vectorraster/laws.FnPopTile", spec := "fnPopTile", apart := false, narrowed := true }
def FnPopTileUptoSaid : Prop := fnPopTileUptoRow.holds Try.pinned (OpenSpec.upto fnPopTileSpec)

/-- 'laws.FnStealTile', WHERE WHAT IT READS IS OF BULK AT MOST 1048576: true; the input reads as it did. -/
def fnStealTileUptoRow : OpenClaim := { program := "ytclfocdghbmmlaa", sum := "3bf21f08c0f63736c163950063433ad3476e331f68a14dd41fe486711d5c665a", func := "loop.example/vectorraster/laws.FnStealTile", spec := "fnStealTile", apart := false, narrowed := true }
def FnStealTileUptoSaid : Prop := fnStealTileUptoRow.holds Try.pinned (OpenSpec.upto fnStealTileSpec)

/-- 'laws.FnStealTilePop', WHERE WHAT IT READS IS OF BULK AT MOST 1048576: true; the input reads as it did. -/
def fnStealTilePopUptoRow : OpenClaim := { program := "ytclfocdghbmmlaa", sum := "3bf21f08c0f63736c163950063433ad3476e331f68a14dd41fe486711d5c665a", func := "loop.example/vectorraster/laws.FnStealTilePop", spec := "fnStealTilePop", apart := false, narrowed := true }
def FnStealTilePopUptoSaid : Prop := fnStealTilePopUptoRow.holds Try.pinned (OpenSpec.upto fnStealTilePopSpec)

/-- 'laws.FnPushTile', WHERE WHAT IT READS IS OF BULK AT MOST 1048576: true; the input reads as it did. -/
def fnPushTileUptoRow : OpenClaim := { program := "ytclfocdghbmmlaa", sum := "3bf21f08c0f63736c163950063433ad3476e331f68a14dd41fe486711d5c665a", func := "loop.example/vectorraster/laws.FnPushTile", spec := "fnPushTile", apart := false, narrowed := true }
def FnPushTileUptoSaid : Prop := fnPushTileUptoRow.holds Try.pinned (OpenSpec.upto fnPushTileSpec)

/-- 'laws.FnPushTilePop', WHERE WHAT IT READS IS OF BULK AT MOST 1048576: true; the input reads as it did. -/
def fnPushTilePopUptoRow : OpenClaim := { program := "ytclfocdghbmmlaa", sum := "3bf21f08c0f63736c163950063433ad3476e331f68a14dd41fe486711d5c665a", func := "loop.example/vectorraster/laws.FnPushTilePop", spec := "fnPushTilePop", apart := false, narrowed := true }
def FnPushTilePopUptoSaid : Prop := fnPushTilePopUptoRow.holds Try.pinned (OpenSpec.upto fnPushTilePopSpec)

/-- 'laws.FnDequeTilesPop', WHERE WHAT IT READS IS OF BULK AT MOST 1048576: true; the input reads as it did. -/
def fnDequeTilesPopUptoRow : OpenClaim := { program := "ytclfocdghbmmlaa", sum := "3bf21f08c0f63736c163950063433ad3476e331f68a14dd41fe486711d5c665a", func := "loop.example/vectorraster/laws.FnDequeTilesPop", spec := "fnDequeTilesPop", apart := false, narrowed := true }
def FnDequeTilesPopUptoSaid : Prop := fnDequeTilesPopUptoRow.holds Try.pinned (OpenSpec.upto fnDequeTilesPopSpec)

/-- 'laws.FnPushTileSteal', WHERE WHAT IT READS IS OF BULK AT MOST 1048576: true; the input reads as it did. -/
def fnPushTileStealUptoRow : OpenClaim := { program := "ytclfocdghbmmlaa", sum := "3bf21f08c0f63736c163950063433ad3476e331f68a14dd41fe486711d5c665a", func := "loop.example/vectorraster/laws.FnPushTileSteal", spec := "fnPushTileSteal", apart := false, narrowed := true }
def FnPushTileStealUptoSaid : Prop := fnPushTileStealUptoRow.holds Try.pinned (OpenSpec.upto fnPushTileStealSpec)

/-- 'laws.FnValidDeque', WHERE WHAT IT READS IS OF BULK AT MOST 1048576: true; the input reads as it did. -/
def fnValidDequeUptoRow : OpenClaim := { program := "ytclfocdghbmmlaa", sum := "3bf21f08c0f63736c163950063433ad3476e331f68a14dd41fe486711d5c665a", func := "loop.example/vectorraster/laws.FnValidDeque", spec := "fnValidDeque", apart := false, narrowed := true }
def FnValidDequeUptoSaid : Prop := fnValidDequeUptoRow.holds Try.pinned (OpenSpec.upto fnValidDequeSpec)

/-- 'laws.FnWorkOrderOne', WHERE WHAT IT READS IS OF BULK AT MOST 1048576: true; the input reads as it did. -/
def fnWorkOrderOneUptoRow : OpenClaim := { program := "ytclfocdghbmmlaa", sum := "3bf21f08c0f63736c163950063433ad3476e331f68a14dd41fe486711d5c665a", func := "loop.example/vectorraster/laws.FnWorkOrderOne", spec := "fnWorkOrderOne", unfollowed := true, recurses := true, apart := false, narrowed := true }
def FnWorkOrderOneUptoSaid : Prop := fnWorkOrderOneUptoRow.holds Try.pinned (OpenSpec.upto fnWorkOrderOneSpec)

/-- 'laws.FnWorkOrderScript', WHERE WHAT IT READS IS OF BULK AT MOST 1048576: true; the input reads as it did. -/
def fnWorkOrderScriptUptoRow : OpenClaim := { program := "ytclfocdghbmmlaa", sum := "3bf21f08c0f63736c163950063433ad3476e331f68a14dd41fe486711d5c665a", func := "loop.example/vectorraster/laws.FnWorkOrderScript", spec := "fnWorkOrderScript", unfollowed := true, recurses := true, apart := false, narrowed := true }
def FnWorkOrderScriptUptoSaid : Prop := fnWorkOrderScriptUptoRow.holds Try.pinned (OpenSpec.upto fnWorkOrderScriptSpec)

end Rows
end Go.Proofs.Ytclfocdghbmmlaa
