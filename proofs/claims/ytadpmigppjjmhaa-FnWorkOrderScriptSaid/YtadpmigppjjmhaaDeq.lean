/-
  Queues: which are valid, by the program and by the reference.
-/
import Derived.Test.YtadpmigppjjmhaaIntF
import Derived.Test.YtadpmigppjjmhaaPlD2
import Derived.Test.YtadpmigppjjmhaaRdr
namespace Go.Proofs.Ytadpmigppjjmhaa
open Go.RowKit Pl

set_option linter.unusedSimpArgs false
set_option linter.unusedVariables false

/-- The block of the slots that are used. -/
def usedC (t m : Int) : Array Value := ((usedL t m).map Value.bool).toArray
theorem usedC_zero (t : Int) : usedC t t = #[.bool false, .bool false, .bool false, .bool false, .bool false, .bool false, .bool false, .bool false, .bool false, .bool false, .bool false, .bool false, .bool false, .bool false, .bool false, .bool false] := by
  unfold usedC; rw [usedL_zero]; rfl
theorem usedC_at {t m : Int} {i : Nat} (h : i < 16) : (usedC t m)[i]? = some (.bool (usedB t m i)) := by
  unfold usedC; rw [List.getElem?_toArray, List.getElem?_map, usedL_at h]; rfl
theorem usedC_succ {t m : Int} {k : Nat} (h2 : t ≤ m) (h3 : m < t + 16) (hk : (k : Int) = m % 16) : (usedC t m).setIfInBounds k (.bool true) = usedC t (m + 1) := by
  unfold usedC
  rw [← usedL_succ h2 h3, show (m % 16).toNat = k by omega, List.setIfInBounds_toArray, List.map_set]

end Go.Proofs.Ytadpmigppjjmhaa
