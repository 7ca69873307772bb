/-
  Marks on lists of points.
-/
import Derived.Test.YtiocgklfkckomaaExP
namespace Go.Proofs.Ytiocgklfkckomaa
open Go.RowKit Pl

set_option linter.unusedSimpArgs false
set_option linter.unusedVariables false

/-- What marking leaves: the number behind the marks; the marks; nothing else turned. -/
def Marked (base : Nat) (v : Value) (n : Nat) (k : Int) (w : World) (e : Ending) (w' : World) : Prop := e = .returned (.int .i64 (k + 2 * (n : Int))) ∧ OwnP base w' v (marks k n) ∧ w.grownBy w' v.ownBlock

end Go.Proofs.Ytiocgklfkckomaa
