/-
  The generators of the laws on boxes and tiles.
-/
import Derived.Test.YtikpaebemiobpaaDraw
import Derived.Test.YtikpaebemiobpaaHas
namespace Go.Proofs.Ytikpaebemiobpaa
open Go.RowKit Pl

set_option maxHeartbeats 400000 in
theorem anySide_any {g : Nat} {A : Option Addr} {n c : Nat} {z : Nat → Int} {w : World} {k : Nat} (h : Rd g A n c z w k) (hk : k ≤ 999000) :
    Calls Try.prog 28 #[.pointer (some ⟨g, 0, none⟩)] w (One g A n c z w k fun x => 0 ≤ x ∧ x ≤ 13) := by
  have hgl := h.lt
  go_enter Try.func28, Try.ntmps28
  go_wp2_with ((go_at_call 40; refine (one_lit (l := [4, 5, 8, 3, 12, 1, 9, 0, 13]) (by repeat' (first | (with_reducible assumption) | (with_reducible apply Rd.alloc) | (with_reducible apply Rd.drewN) | (with_reducible apply rd_below (by assumption)) | (with_reducible apply Rd.setFar) | omega | (simp; omega))) (by omega) (by simp) rfl (by simp) (by simp) _).mono ?_; rintro e w1 ⟨x2, rfl, hx, hr, hg⟩; have hz := hg.size; (try simp at hz); have hgl := Rd.lt hr))
  go_ret
  simp only [List.mem_cons, List.not_mem_nil, or_false] at hx
  exact ⟨_, rfl, by omega, (by repeat' (first | (with_reducible assumption) | (with_reducible apply Rd.alloc) | (with_reducible apply Rd.drewN) | (with_reducible apply rd_below (by assumption)) | (with_reducible apply Rd.setFar) | omega | (simp; omega))), by (repeat' (first | (with_reducible exact World.grownBy.refl _ _) | (with_reducible assumption) | (with_reducible refine only_alloc ?_ _) | (with_reducible refine only_drewN ?_ _) | (with_reducible refine only_setCell ?_ (by first | exact .inl rfl | exact .inr (Nat.le_refl _) | (right; simp; done) | (right; simp; omega)) _) | (with_reducible refine grown_call (by assumption) ?_) | (with_reducible refine grown_below (by assumption) ?_ (by first | omega | (simp; done) | (simp; omega)))))⟩

/-- Three numbers: a width, a height, a tile. -/
def WHT (w : World) (e : Ending) (w' : World) : Prop :=
  ∃ x y t : Int, e = .returned (.tuple #[.int .i64 x, .int .i64 y, .int .i64 t]) ∧ 0 ≤ x ∧ x ≤ 13 ∧ 0 ≤ y ∧ y ≤ 13 ∧ -1 ≤ t ∧ t ≤ 9 ∧ Below w.heap.size w w'

/-- Two boxes. -/
def Boxes2 (w : World) (e : Ending) (w' : World) : Prop :=
  ∃ l t r b l' t' r' b' : Int, e = .returned (.tuple #[.agg #[.int .i64 l, .int .i64 t, .int .i64 r, .int .i64 b], .agg #[.int .i64 l', .int .i64 t', .int .i64 r', .int .i64 b']]) ∧ Below w.heap.size w w'

/-- Some box that comes back. -/
def SomeBx (w : World) (e : Ending) (w' : World) : Prop :=
  ∃ l t r b : Int, e = .returned (.agg #[.int .i64 l, .int .i64 t, .int .i64 r, .int .i64 b]) ∧ Below w.heap.size w w'

end Go.Proofs.Ytikpaebemiobpaa
