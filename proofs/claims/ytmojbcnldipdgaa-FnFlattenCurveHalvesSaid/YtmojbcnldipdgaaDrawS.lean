/-
  Curves, drawn for the laws on halves and on flat curves.
-/
import Derived.Test.YtmojbcnldipdgaaDrawC
namespace Go.Proofs.Ytmojbcnldipdgaa
open Go.RowKit Pl

set_option linter.unusedSimpArgs false
set_option linter.unusedVariables false

/-- A curve, a limit, a depth. -/
def CurveLD (w : World) (e : Ending) (w' : World) : Prop :=
  ∃ v l x y, e = .returned (.tuple #[v, .int .i64 x, .int .i64 y]) ∧ l.length ≤ 5 ∧ (-1 ≤ x ∧ x ≤ 1001) ∧ (-1 ≤ y ∧ y ≤ 5) ∧ OwnP w.heap.size w' v l ∧ Below w.heap.size w w'

set_option maxHeartbeats 1000000 in
theorem DrawFlattenCurve_any {A : Option Addr} {n c : Nat} {w : World} (h : Code w A n c) : Calls Try.prog 4 #[.slice A n c] w (CurveLD w) := by
  go_enter Try.func4, Try.ntmps4
  go_wp2_with fail
  refine (newReader_any (h.below (by (repeat' (first | (with_reducible exact Below.refl _ _) | (with_reducible assumption) | (with_reducible refine Below.alloc ?_ ?_ _) | (with_reducible refine below_drewN ?_ _) | (with_reducible refine Below.drew ?_) | (with_reducible refine Below.setCell ?_ ?_ _) | (with_reducible refine below_call (by assumption) ?_ ?_) | go_size))))).mono ?_
  rintro e w1 ⟨g, A', n', c', z, rfl, hg0, hr, hb⟩
  have hz := hb.size
  have hg1 := hr.lt
  go_wp2_with fail
  refine (anyCurve_any hr (by omega)).mono ?_
  rintro e w2 ⟨v, l, rfl, hl, hv, hr, hg⟩
  have hgl := hr.lt
  have hz2 := hg.size
  go_wp2_with fail
  refine (one_lit (l := [_, _, _, _, _, _, _]) (by repeat' (first | (with_reducible assumption) | (with_reducible apply Rd.alloc) | (with_reducible apply Rd.drewN) | (with_reducible apply rd_below (by assumption)) | (with_reducible apply Rd.setFar) | omega | (simp; omega))) (by omega) (by simp) rfl (by simp) (by simp) _).mono ?_
  rintro e w3 ⟨x, rfl, hx, hr3, hg3⟩
  have hz3 := hg3.size
  simp at hz3
  go_wp2_with fail
  refine (one_lit (l := [_, _, _, _, _, _, _]) (by repeat' (first | (with_reducible assumption) | (with_reducible apply Rd.alloc) | (with_reducible apply Rd.drewN) | (with_reducible apply rd_below (by assumption)) | (with_reducible apply Rd.setFar) | omega | (simp; omega))) (by omega) (by simp) rfl (by simp) (by simp) _).mono ?_
  rintro e w4 ⟨y, rfl, hy, hr4, hg4⟩
  simp only [List.mem_cons, List.not_mem_nil, or_false] at hx hy
  have V3 := (hv.below (show Below w2.heap.size w2 (w2.alloc _) by (repeat' (first | (with_reducible exact Below.refl _ _) | (with_reducible assumption) | (with_reducible refine Below.alloc ?_ ?_ _) | (with_reducible refine below_drewN ?_ _) | (with_reducible refine Below.drew ?_) | (with_reducible refine Below.setCell ?_ ?_ _) | (with_reducible refine below_call (by assumption) ?_ ?_) | (with_reducible refine below_grown (by assumption) ?_ ?_ ?_) | omega | (simp; done) | (simp; omega))))).grown hg3 hg1
  have V4 := (V3.below (show Below w3.heap.size w3 (w3.alloc _) by (repeat' (first | (with_reducible exact Below.refl _ _) | (with_reducible assumption) | (with_reducible refine Below.alloc ?_ ?_ _) | (with_reducible refine below_drewN ?_ _) | (with_reducible refine Below.drew ?_) | (with_reducible refine Below.setCell ?_ ?_ _) | (with_reducible refine below_call (by assumption) ?_ ?_) | (with_reducible refine below_grown (by assumption) ?_ ?_ ?_) | omega | (simp; done) | (simp; omega))))).grown hg4 hg1
  go_wp2
  go_ret3
  exact ⟨v, l, x, y, rfl, hl, by omega, by omega, V4.lower (by omega), by (repeat' (first | (with_reducible exact Below.refl _ _) | (with_reducible assumption) | (with_reducible refine Below.alloc ?_ ?_ _) | (with_reducible refine below_drewN ?_ _) | (with_reducible refine Below.drew ?_) | (with_reducible refine Below.setCell ?_ ?_ _) | (with_reducible refine below_call (by assumption) ?_ ?_) | (with_reducible refine below_grown (by assumption) ?_ ?_ ?_) | omega | (simp; done) | (simp; omega)))⟩

end Go.Proofs.Ytmojbcnldipdgaa
