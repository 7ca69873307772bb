/-
  The copies and comparisons of boxes that the exact laws make.
-/
import Derived.Test.YtmhnebkmhblhpaaLeaf
namespace Go.Proofs.Ytmhnebkmhblhpaa
open Go.RowKit Pl

set_option maxHeartbeats 400000 in
theorem toBox_eq (l t r b : Int) (w : World) : Calls Try.prog 18 #[.agg #[.int .i64 l, .int .i64 t, .int .i64 r, .int .i64 b]] w (Box ⟨l, t, r, b⟩ w) := by
  go_enter Try.func18, Try.ntmps18
  go_wp2
  ((try simp only [Exit.inBlock, Exit.then]); refine bodyPost_ret (by simp [results, Try.results18, go_sem, *]; try rfl) rfl ?_)
  exact ⟨rfl, by (repeat' (first | (with_reducible exact Below.refl _ _) | (with_reducible assumption) | (with_reducible refine Below.alloc ?_ ?_ _) | (with_reducible refine below_drewN ?_ _) | (with_reducible refine Below.drew ?_) | (with_reducible refine Below.setCell ?_ ?_ _) | (with_reducible refine below_call (by assumption) ?_ ?_) | go_size))⟩

set_option maxHeartbeats 400000 in
theorem eqBox_same (l t r b : Int) (w : World) : Calls Try.prog 20 #[.agg #[.int .i64 l, .int .i64 t, .int .i64 r, .int .i64 b], .agg #[.int .i64 l, .int .i64 t, .int .i64 r, .int .i64 b]] w fun e w' => e = .returned (.bool true) ∧ Below w.heap.size w w' := by
  go_enter Try.func20, Try.ntmps20
  go_wp2
  go_ret
  exact ⟨rfl, by (repeat' (first | (with_reducible exact Below.refl _ _) | (with_reducible assumption) | (with_reducible refine Below.alloc ?_ ?_ _) | (with_reducible refine below_drewN ?_ _) | (with_reducible refine Below.drew ?_) | (with_reducible refine Below.setCell ?_ ?_ _) | (with_reducible refine below_call (by assumption) ?_ ?_) | go_size))⟩

end Go.Proofs.Ytmhnebkmhblhpaa
