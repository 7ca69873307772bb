/-
  Matrices: MapPoint and TurnMatrix, of the program and of the reference.
-/
import Derived.Test.YtbiddmimcdmnoaaNum
import Derived.Test.YtbiddmimcdmnoaaRdr
namespace Go.Proofs.Ytbiddmimcdmnoaa
open Go.RowKit Pl

set_option linter.unusedSimpArgs false
set_option linter.unusedVariables false

/-- A point that comes back, and whether there is one. -/
def PtOk (x y : Int) (v : Bool) (w : World) (e : Ending) (w' : World) : Prop := e = .returned (.tuple #[.agg #[.int .i64 x, .int .i64 y], .bool v]) ∧ Below w.heap.size w w'
/-- A point that comes back. -/
def Ret2 (x y : Int) (w : World) (e : Ending) (w' : World) : Prop := e = .returned (.agg #[.int .i64 x, .int .i64 y]) ∧ Below w.heap.size w w'
/-- A matrix that comes back. -/
def RetM (m : Mx) (w : World) (e : Ending) (w' : World) : Prop := e = .returned (.agg #[.int .i64 m.a, .int .i64 m.b, .int .i64 m.c, .int .i64 m.d, .int .i64 m.e, .int .i64 m.f]) ∧ Below w.heap.size w w'

theorem rnd256_in {k : Int} (h1 : -2048000 ≤ k) (h2 : k ≤ 2048000) : -9000 ≤ rnd k 256 ∧ rnd k 256 ≤ 9000 := by unfold rnd; omega
def all4 (a b c d lo hi : Int) : Bool := inB a lo hi && (inB b lo hi && (inB c lo hi && inB d lo hi))
theorem all4_true {a b c d lo hi : Int} : all4 a b c d lo hi = true ↔ (lo ≤ a ∧ a ≤ hi) ∧ (lo ≤ b ∧ b ≤ hi) ∧ (lo ≤ c ∧ c ≤ hi) ∧ lo ≤ d ∧ d ≤ hi := by simp [all4, inB_true]
theorem all4_scale {a b c d e f : Int} : all4 a b c d (-1024) 1024 = scaleB ⟨a, b, c, d, e, f⟩ := by rw [Bool.eq_iff_iff, all4_true, scaleB_true]; omega

/-- A number of a short list. -/
def nth (l : List Int) (k : Nat) : Int := l.getD k 0
/-- The first numbers of the list are in the range. -/
def allU (l : List Int) (lo hi : Int) : Nat → Bool
  | 0 => true
  | k + 1 => allU l lo hi k && inB (nth l k) lo hi
theorem allU_not {l : List Int} {lo hi : Int} {k : Nat} (h : inB (nth l k) lo hi = false) : ∀ m, k < m → allU l lo hi m = false
  | 0, hm => by omega
  | m + 1, hm => by
    simp only [allU]
    by_cases e : k = m
    · subst e; rw [h, Bool.and_false]
    · rw [allU_not h m (by omega), Bool.false_and]
theorem allU4 {a b c d lo hi : Int} : allU [a, b, c, d] lo hi 4 = all4 a b c d lo hi := by simp [allU, all4, nth, Bool.and_assoc]
theorem allU2 {a b lo hi : Int} : allU [a, b] lo hi 2 = (inB a lo hi && inB b lo hi) := by simp [allU, nth]

end Go.Proofs.Ytbiddmimcdmnoaa
