/-
  Queues: a tile is popped, or stolen.
-/
import Derived.Test.YtadpmigppjjmhaaDeqP
import Derived.RegionTactic
namespace Go.Proofs.Ytadpmigppjjmhaa
open Go.RowKit Pl

set_option linter.unusedSimpArgs false
set_option linter.unusedVariables false

theorem blk_drew {w : World} {g : Nat} {o : Option Obj} (h : w.heap[g]? = o) : w.drew.heap[g]? = o := h
theorem takeR_no {d : Dq} (h : takeOkD d = false) : popR d = ⟨[], 0, 0⟩ ∧ popV d = -1 ∧ stealR d = ⟨[], 0, 0⟩ ∧ stealV d = -1 := by
  rw [popR, popV, stealR, stealV, h]; exact ⟨rfl, rfl, rfl, rfl⟩
theorem popR_ok {d : Dq} (h : takeOkD d = true) : popR d = ⟨set16 d.s (d.b - 1) (-1), d.t, d.b - 1⟩ ∧ popV d = at16 d.s (d.b - 1) := by rw [popR, popV, if_pos h, if_pos h]; exact ⟨rfl, rfl⟩
theorem stealR_ok {d : Dq} (h : takeOkD d = true) : stealR d = ⟨set16 d.s d.t (-1), d.t + 1, d.b⟩ ∧ stealV d = at16 d.s d.t := by rw [stealR, stealV, if_pos h, if_pos h]; exact ⟨rfl, rfl⟩

end Go.Proofs.Ytadpmigppjjmhaa
