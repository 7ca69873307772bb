/-
  Blocks beside slices that grow.
-/
import Derived.Test.YtmojbcnldipdgaaPts
import Derived.Laws.AppendOwn
namespace Go.Proofs.Ytmojbcnldipdgaa
open Go.RowKit

theorem blk_own {w w' : World} {g : Nat} {o : Obj} {row : Option Nat} (h : w.heap[g]? = some o) (hg : w.grownBy w' row) (hne : row ≠ some g) : w'.heap[g]? = some o := (hg.block g (blk_lt h) (fun e => hne e.symm)).trans h

end Go.Proofs.Ytmojbcnldipdgaa
