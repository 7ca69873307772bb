/-
  In a region that draws its order: a call of whose result something is said in the world too.
-/
import Derived.Test.YtadpmigppjjmhaaReg2
namespace Go.Proofs.Ytadpmigppjjmhaa
open Go.RowKit

/-- Whatever is said of the value and the world. -/
def IsQ (p : Value → World → Prop) (v : Value) (w : World) : Prop := p v w
@[simp] def RS.q (use : List Nat) (p : Value → World → Prop) : RS := ⟨use, IsQ p⟩
theorem st_q {R : World → World → Prop} {use : List Nat} {p : Value → World → Prop} {S : List RS} (hp : ∀ v w w', R w w' → p v w → p v w') (h : Stable R S) : Stable R (RS.q use p :: S) := ⟨fun v w w' hR h => hp v w w' hR h, h⟩

end Go.Proofs.Ytadpmigppjjmhaa
