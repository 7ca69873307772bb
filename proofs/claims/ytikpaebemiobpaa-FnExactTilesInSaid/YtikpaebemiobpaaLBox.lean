/-
  The copies and comparisons of boxes that the exact laws make.
-/
import Derived.Test.YtikpaebemiobpaaLeaf
namespace Go.Proofs.Ytikpaebemiobpaa
open Go.RowKit Pl

set_option maxHeartbeats 400000 in
theorem toBox_eq (l t r b : Int) (w : World) : Calls Try.prog 7 #[.agg #[.int .i64 l, .int .i64 t, .int .i64 r, .int .i64 b]] w (Box ⟨l, t, r, b⟩ w) := by
  go_enter Try.func7, Try.ntmps7
  go_wp2
  ((try simp only [Exit.inBlock, Exit.then]); refine bodyPost_ret (by simp [results, Try.results7, go_sem, *]; try rfl) rfl ?_)
  exact ⟨rfl, by (repeat' (first | (with_reducible exact Below.refl _ _) | (with_reducible assumption) | (with_reducible refine Below.alloc ?_ ?_ _) | (with_reducible refine below_drewN ?_ _) | (with_reducible refine Below.drew ?_) | (with_reducible refine Below.setCell ?_ ?_ _) | (with_reducible refine below_call (by assumption) ?_ ?_) | go_size))⟩

end Go.Proofs.Ytikpaebemiobpaa
