/-
  Points in memory; the box around points.
-/
import Derived.Test.YtadpmigppjjmhaaLeaf
import Derived.Test.YtadpmigppjjmhaaReg
import Derived.BigQuiet
import Derived.Deep.QuietTactic
namespace Go.Proofs.Ytadpmigppjjmhaa
open Go.RowKit Pl

/-- The points l lie in block b from cell o on. -/
def Pts (w : World) (b o : Nat) (l : List (Int × Int)) : Prop :=
  b < w.heap.size ∧ ∀ i, i < l.length → w.cell? ⟨b, o + i * 2, none⟩ = some (.int .i64 (px l i)) ∧ w.cell? ⟨b, o + i * 2 + 1, none⟩ = some (.int .i64 (py l i))

theorem Pts.below {w w' : World} {b o : Nat} {l : List (Int × Int)} (h : Pts w b o l) (hb : Below w.heap.size w w') : Pts w' b o l :=
  ⟨Nat.lt_of_lt_of_le h.1 hb.size, fun i hi => ⟨(hb.cell (p := ⟨b, _, none⟩) h.1).trans (h.2 i hi).1, (hb.cell (p := ⟨b, _, none⟩) h.1).trans (h.2 i hi).2⟩⟩

theorem pts_new2 (w : World) (x y x' y' : Int) (T : TypeId) : Pts (w.alloc (.cells #[.int .i64 x, .int .i64 y, .int .i64 x', .int .i64 y'] T)) w.heap.size 0 [(x, y), (x', y')] := by
  have h := blk_cell (blk_new w (.cells #[.int .i64 x, .int .i64 y, .int .i64 x', .int .i64 y'] T))
  refine ⟨by simp, fun i hi => ?_⟩
  match i, hi with
  | 0, _ => exact ⟨h 0, h 1⟩
  | 1, _ => exact ⟨h 2, h 3⟩

end Go.Proofs.Ytadpmigppjjmhaa
