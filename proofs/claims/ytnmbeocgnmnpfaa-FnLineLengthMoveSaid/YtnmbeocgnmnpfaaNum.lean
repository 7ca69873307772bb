/-
  What the functions on numbers and points return: floor, round, valid.
-/
import Derived.Test.YtnmbeocgnmnpfaaLeaf
import Derived.Test.YtnmbeocgnmnpfaaReg
import Derived.Test.YtnmbeocgnmnpfaaPlB
namespace Go.Proofs.Ytnmbeocgnmnpfaa
open Go.RowKit Pl

set_option linter.unusedSimpArgs false

set_option maxHeartbeats 400000 in
theorem isUnit_eq {n : Int} {v : Bool} (h : inB n (-1000) 1000 = v) (w : World) :
    Calls Try.prog 35 #[.int .i64 n] w fun e w' => e = .returned (.bool v) ∧ w = w' := by
  have H1 := Lib.hid h
  clear h
  go_enter Try.func35, Try.ntmps35
  go_wp2_with ((go_at_call 48; (with_reducible refine (in_eq (Hid.out (by with_reducible assumption)) _).mono ?_); rintro e w1 ⟨rfl, rfl⟩))
  go_ret
  exact ⟨rfl, rfl⟩

set_option maxHeartbeats 400000 in
theorem pvalid_eq {x y : Int} {v : Bool} (h : ptB (x, y) = v) (w : World) :
    Calls Try.prog 39 #[.agg #[.int .i64 x, .int .i64 y]] w fun e w' => e = .returned (.bool v) ∧ Below w.heap.size w w' := by
  subst h
  rw [show ptB (x, y) = (inB x (-1000) 1000 && inB y (-1000) 1000) from ptB_and]
  rcases Bool.eq_false_or_eq_true (inB x (-1000) 1000) with h2 | h2 <;> rcases Bool.eq_false_or_eq_true (inB y (-1000) 1000) with h3 | h3 <;> rw [h2, h3] <;>
    have H2 := Lib.hid h2 <;> have H3 := Lib.hid h3 <;> clear h2 h3
  all_goals
    go_enter Try.func39, Try.ntmps39
    go_wp2_with ((go_at_call 35; (with_reducible refine (isUnit_eq (Hid.out (by with_reducible assumption)) _).mono ?_); rintro e w1 ⟨rfl, rfl⟩))
    go_ret
    exact ⟨rfl, by (repeat' (first | (with_reducible exact Below.refl _ _) | (with_reducible assumption) | (with_reducible refine Below.alloc ?_ ?_ _) | (with_reducible refine below_drewN ?_ _) | (with_reducible refine Below.drew ?_) | (with_reducible refine Below.setCell ?_ ?_ _) | (with_reducible refine below_call (by assumption) ?_ ?_) | go_size))⟩

set_option maxHeartbeats 400000 in
theorem validPoint_eq {x y : Int} {v : Bool} (h : ptB (x, y) = v) (w : World) :
    Calls Try.prog 41 #[.agg #[.int .i64 x, .int .i64 y]] w fun e w' => e = .returned (.bool v) ∧ Below w.heap.size w w' := by
  subst h
  rw [show ptB (x, y) = (inB x (-1000) 1000 && inB y (-1000) 1000) from ptB_and]
  rcases Bool.eq_false_or_eq_true (inB x (-1000) 1000) with h2 | h2 <;> rcases Bool.eq_false_or_eq_true (inB y (-1000) 1000) with h3 | h3 <;> rw [h2, h3] <;>
    have H2 := Lib.hid h2 <;> have H3 := Lib.hid h3 <;> clear h2 h3
  all_goals
    go_enter Try.func41, Try.ntmps41
    go_wp2_with ((go_at_call 34; (with_reducible refine (inRange_eq (Hid.out (by with_reducible assumption)) _).mono ?_); rintro e w1 ⟨rfl, rfl⟩))
    go_ret
    exact ⟨rfl, by (repeat' (first | (with_reducible exact Below.refl _ _) | (with_reducible assumption) | (with_reducible refine Below.alloc ?_ ?_ _) | (with_reducible refine below_drewN ?_ _) | (with_reducible refine Below.drew ?_) | (with_reducible refine Below.setCell ?_ ?_ _) | (with_reducible refine below_call (by assumption) ?_ ?_) | go_size))⟩

end Go.Proofs.Ytnmbeocgnmnpfaa
