/-
  BoxHas, of the program and of the reference.
-/
import Derived.Test.YtikpaebemiobpaaLeaf
import Derived.Test.YtikpaebemiobpaaReg
namespace Go.Proofs.Ytikpaebemiobpaa
open Go.RowKit Pl

theorem hasB_val {l t r b x y : Int} {u v : Bool} (h : validB ⟨l, t, r, b⟩ = true) (h1 : inB x l (r - 1) = u) (h2 : inB y t (b - 1) = v) : hasB ⟨l, t, r, b⟩ x y = (u && v) := by
  subst h1; subst h2
  simp only [hasB, h, Bool.true_and, inB]
  rw [← Bool.decide_and]
  exact decide_eq_decide.2 (by omega)
theorem hasB_out {x : Bx} {p q : Int} (h : validB x = false) : hasB x p q = false := by simp [hasB, h]

end Go.Proofs.Ytikpaebemiobpaa
