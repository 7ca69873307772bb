/-
  Facts on new queues in regions.
-/
import Derived.Test.YtclfocdghbmmlaaDqX
import Derived.Test.YtclfocdghbmmlaaIntQ
import Derived.Test.YtclfocdghbmmlaaDeqS
namespace Go.Proofs.Ytclfocdghbmmlaa
open Go.RowKit Pl

set_option linter.unusedSimpArgs false
set_option linter.unusedVariables false

/-- A new queue. -/
def NQ (base : Nat) (v : Value) (w : World) : Prop := ∃ A c, v = .agg #[.slice A 16 c, .int .i64 0, .int .i64 0] ∧ OwnJ base w (.slice A 16 c) L16
theorem NQ.below {base : Nat} {v : Value} {w w' : World} (hR : Ext w w') (h : NQ base v w) : NQ base v w' := by
  obtain ⟨A, c, e, h⟩ := h; exact ⟨A, c, e, OwnW.below h hR⟩
theorem valid_L16 : validD ⟨L16, 0, 0⟩ = true := new_valid
theorem tiles_L16 : tilesD ⟨L16, 0, 0⟩ = [] := new_tiles

set_option maxHeartbeats 400000 in
theorem sValidDeque_eq {A : Option Addr} {n : Nat} {l : List Int} {t b : Int} {w : World} {v : Bool} (c : Nat) (h : IsI w A n l) (hn : n ≤ 1000000000000) (hv : validD ⟨l, t, b⟩ = v) :
    Calls Try.prog 36 #[.agg #[.slice A n c, .int .i64 t, .int .i64 b]] w fun e w' => e = .returned (.bool v) ∧ Below w.heap.size w w' := by
  have HP := Lib.hid h
  have HV := Lib.hid hv
  clear h hv
  go_enter Try.func36, Try.ntmps36
  go_wp2_with fail
  refine (validDeque_eq c (HP.out.below (by (repeat' (first | (with_reducible exact Below.refl _ _) | (with_reducible assumption) | (with_reducible refine Below.alloc ?_ ?_ _) | (with_reducible refine below_drewN ?_ _) | (with_reducible refine Below.drew ?_) | (with_reducible refine Below.setCell ?_ ?_ _) | (with_reducible refine below_call (by assumption) ?_ ?_) | (with_reducible refine below_grown (by assumption) ?_ ?_ ?_) | omega | (simp; done) | (simp; omega))))) hn HV.out).mono ?_
  rintro e w1 ⟨rfl, hb⟩
  go_wp2
  go_ret
  exact ⟨rfl, by (repeat' (first | (with_reducible exact Below.refl _ _) | (with_reducible assumption) | (with_reducible refine Below.alloc ?_ ?_ _) | (with_reducible refine below_drewN ?_ _) | (with_reducible refine Below.drew ?_) | (with_reducible refine Below.setCell ?_ ?_ _) | (with_reducible refine below_call (by assumption) ?_ ?_) | (with_reducible refine below_grown (by assumption) ?_ ?_ ?_) | omega | (simp; done) | (simp; omega)))⟩

end Go.Proofs.Ytclfocdghbmmlaa
