/-
  Tiles: TileCount, TileBox, of the program and of the reference.
-/
import Derived.Test.YtiocgklfkckomaaLeaf
import Derived.Test.YtiocgklfkckomaaReg
namespace Go.Proofs.Ytiocgklfkckomaa
open Go.RowKit Pl

theorem sizedB_true {w h : Int} : sizedB w h = true ↔ 1 ≤ w ∧ w ≤ 12 ∧ 1 ≤ h ∧ h ≤ 12 := by simp [sizedB]
theorem sized_ins {a b : Int} {u v : Bool} (h1 : inB a 1 12 = u) (h2 : inB b 1 12 = v) : sizedB a b = (u && v) := by
  subst h1; subst h2
  simp only [sizedB, inB]
  rw [← Bool.decide_and]
  exact decide_eq_decide.2 (by omega)
theorem acr_of {a : Int} (h : 1 ≤ a) (h' : a ≤ 12) : (acr a = 1 ∧ a ≤ 4) ∨ (acr a = 2 ∧ 5 ≤ a ∧ a ≤ 8) ∨ (acr a = 3 ∧ 9 ≤ a) := by unfold acr; omega
theorem acr_at {a : Int} (h : 1 ≤ a) : (a + 4 - 1).tdiv 4 = acr a := by unfold acr; rw [Int.tdiv_eq_ediv_of_nonneg (by omega)]; omega

set_option maxHeartbeats 400000 in
theorem sized_eq {a b : Int} {v : Bool} (h : sizedB a b = v) (w : World) :
    Calls Try.prog 31 #[.int .i64 a, .int .i64 b] w fun e w' => e = .returned (.bool v) ∧ Below w.heap.size w w' := by
  subst h
  rcases Bool.eq_false_or_eq_true (inB a 1 12) with h2 | h2 <;> rcases Bool.eq_false_or_eq_true (inB b 1 12) with h3 | h3 <;> rw [sized_ins h2 h3] <;>
    have H2 := Lib.hid h2 <;> have H3 := Lib.hid h3 <;> clear h2 h3
  all_goals
    go_enter Try.func31, Try.ntmps31
    go_wp2_with ((go_at_call 35; (with_reducible refine (in_eq (Hid.out (by with_reducible assumption)) _).mono ?_); rintro e w1 ⟨rfl, rfl⟩))
    go_ret
    exact ⟨rfl, by (repeat' (first | (with_reducible exact Below.refl _ _) | (with_reducible assumption) | (with_reducible refine Below.alloc ?_ ?_ _) | (with_reducible refine below_drewN ?_ _) | (with_reducible refine Below.drew ?_) | (with_reducible refine Below.setCell ?_ ?_ _) | (with_reducible refine below_call (by assumption) ?_ ?_) | go_size))⟩

set_option maxHeartbeats 400000 in
theorem validSize_eq {a b : Int} {v : Bool} (h : sizedB a b = v) (w : World) :
    Calls Try.prog 39 #[.int .i64 a, .int .i64 b] w fun e w' => e = .returned (.bool v) ∧ Below w.heap.size w w' := by
  subst h
  rcases Bool.eq_false_or_eq_true (inB a 1 12) with h2 | h2 <;> rcases Bool.eq_false_or_eq_true (inB b 1 12) with h3 | h3 <;> rw [sized_ins h2 h3] <;>
    have H2 := Lib.hid h2 <;> have H3 := Lib.hid h3 <;> clear h2 h3
  all_goals
    go_enter Try.func39, Try.ntmps39
    go_wp2_with ((go_at_call 54; (with_reducible refine (inRange_eq (Hid.out (by with_reducible assumption)) _).mono ?_); rintro e w1 ⟨rfl, rfl⟩))
    go_ret
    exact ⟨rfl, by (repeat' (first | (with_reducible exact Below.refl _ _) | (with_reducible assumption) | (with_reducible refine Below.alloc ?_ ?_ _) | (with_reducible refine below_drewN ?_ _) | (with_reducible refine Below.drew ?_) | (with_reducible refine Below.setCell ?_ ?_ _) | (with_reducible refine below_call (by assumption) ?_ ?_) | go_size))⟩

set_option linter.unusedSimpArgs false

/-- The number of tiles, or -1. -/
def tcount (a b : Int) : Int := if sizedB a b then tileN a b else -1

/-- There is such a tile. -/
def tileOk (a b k : Int) : Bool := sizedB a b && decide (0 ≤ k ∧ k < tileN a b)
theorem tileOk_true {a b k : Int} : tileOk a b k = true ↔ sizedB a b = true ∧ 0 ≤ k ∧ k < tileN a b := by simp [tileOk]
theorem tileN_le {a b : Int} (h : sizedB a b = true) : 1 ≤ tileN a b ∧ tileN a b ≤ 9 := by
  obtain ⟨a1, a2, b1, b2⟩ := sizedB_true.1 h
  rcases acr_of a1 a2 with ⟨h2, _⟩ | ⟨h2, _⟩ | ⟨h2, _⟩ <;> rcases acr_of b1 b2 with ⟨h3, _⟩ | ⟨h3, _⟩ | ⟨h3, _⟩ <;> rw [tileN, h2, h3] <;> omega
theorem tcount_le (a b : Int) : -1 ≤ tcount a b ∧ tcount a b ≤ 9 := by
  unfold tcount
  split
  · rename_i h; have := tileN_le h; omega
  · omega
theorem tileOk_in {a b k : Int} : inB k 0 (tcount a b - 1) = tileOk a b k := by
  unfold tcount tileOk inB
  cases sizedB a b with
  | true => simp only [if_true, Bool.true_and]; exact decide_eq_decide.2 (by omega)
  | false => simp; omega
theorem tileOk_ins {a b k : Int} (h : sizedB a b = true) : inB k 0 (tileN a b - 1) = tileOk a b k := by
  rw [← tileOk_in, tcount, h]; rfl

/-- A box and whether there is one. -/
def BxOk (x : Bx) (v : Bool) (w : World) (e : Ending) (w' : World) : Prop := e = .returned (.tuple #[.agg #[.int .i64 x.l, .int .i64 x.t, .int .i64 x.r, .int .i64 x.b], .bool v]) ∧ Below w.heap.size w w'
theorem BxOk.mk {x : Bx} {v : Bool} {l t r b : Int} {w w' : World} (h : x = ⟨l, t, r, b⟩) (hb : Below w.heap.size w w') : BxOk x v w (.returned (.tuple #[.agg #[.int .i64 l, .int .i64 t, .int .i64 r, .int .i64 b], .bool v])) w' := by subst h; exact ⟨rfl, hb⟩
def tileR (a b k : Int) : Bx := if tileOk a b k then tileB a b k else zero

end Go.Proofs.Ytiocgklfkckomaa
