/-
  The generators of points, boxes and sizes.
-/
import Derived.Test.YtbiddmimcdmnoaaRdr
import Derived.Test.YtbiddmimcdmnoaaPts
namespace Go.Proofs.Ytbiddmimcdmnoaa
open Go.RowKit Pl

/-- A point near the picture. -/
def SomePt (g : Nat) (A : Option Addr) (n c : Nat) (z : Nat → Int) (w : World) (k : Nat) (e : Ending) (w' : World) : Prop :=
  ∃ x y : Int, e = .returned (.agg #[.int .i64 x, .int .i64 y]) ∧ -16 ≤ x ∧ x ≤ 207 ∧ -16 ≤ y ∧ y ≤ 207 ∧ Rd g A n c z w' (k + 2) ∧ w.grownBy w' (some g)

set_option maxHeartbeats 400000 in
theorem somePoint_any {g : Nat} {A : Option Addr} {n c : Nat} {z : Nat → Int} {w : World} {k : Nat} (h : Rd g A n c z w k) (hk : k ≤ 999000) :
    Calls Try.prog 42 #[.pointer (some ⟨g, 0, none⟩)] w (SomePt g A n c z w k) := by
  have hgl := h.lt
  go_enter Try.func42, Try.ntmps42
  go_wp2_with (go_at_call 33; refine (pick_any (by repeat' (first | (with_reducible assumption) | (with_reducible apply Rd.alloc) | (with_reducible apply Rd.drewN) | (with_reducible apply rd_below (by assumption)) | (with_reducible apply Rd.setFar) | omega | (simp; omega))) (by omega) _).mono ?_; rintro e w1 ⟨x, rfl, hx0, hx1, hr, hg⟩; (try have hx1 := pk_lt (by omega) hx1); have hz := hg.size; (try simp at hz); have hgl := Rd.lt hr; (try (have hk := gcl hg (w.heap.size) (by first | omega | (simp; done) | (simp; omega)) (by omega); have hc := hk.1; have hf := hk.2.1; have hk := hk.2.2)))
  ((try simp only [Exit.inBlock, Exit.then]); refine bodyPost_ret (by simp [results, Try.results42, go_sem, *]; try rfl) rfl ?_)
  exact ⟨_, _, rfl, by omega, by omega, by omega, by omega, (by repeat' (first | (with_reducible assumption) | (with_reducible apply Rd.alloc) | (with_reducible apply Rd.drewN) | (with_reducible apply rd_below (by assumption)) | (with_reducible apply Rd.setFar) | omega | (simp; omega))), by (repeat' (first | (with_reducible exact World.grownBy.refl _ _) | (with_reducible assumption) | (with_reducible refine only_alloc ?_ _) | (with_reducible refine only_drewN ?_ _) | (with_reducible refine only_setCell ?_ (by first | exact .inl rfl | exact .inr (Nat.le_refl _) | (right; simp; done) | (right; simp; omega)) _) | (with_reducible refine grown_call (by assumption) ?_) | (with_reducible refine grown_below (by assumption) ?_ (by first | omega | (simp; done) | (simp; omega)))))⟩

/-- Some box. -/
def AnyBx (g : Nat) (A : Option Addr) (n c : Nat) (z : Nat → Int) (w : World) (k : Nat) (e : Ending) (w' : World) : Prop :=
  ∃ l t r b : Int, e = .returned (.agg #[.int .i64 l, .int .i64 t, .int .i64 r, .int .i64 b]) ∧ Rd g A n c z w' (k + 10) ∧ w.grownBy w' (some g)

/-- A box and two numbers. -/
def BoxXY (w : World) (e : Ending) (w' : World) : Prop :=
  ∃ l t r b x y : Int, e = .returned (.tuple #[.agg #[.int .i64 l, .int .i64 t, .int .i64 r, .int .i64 b], .int .i64 x, .int .i64 y]) ∧ Below w.heap.size w w'

end Go.Proofs.Ytbiddmimcdmnoaa
