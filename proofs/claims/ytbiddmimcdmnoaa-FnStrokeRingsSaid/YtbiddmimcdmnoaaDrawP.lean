/-
  The generators of points, matrices and lengths.
-/
import Derived.Test.YtbiddmimcdmnoaaDraw
import Derived.Test.YtbiddmimcdmnoaaMat
namespace Go.Proofs.Ytbiddmimcdmnoaa
open Go.RowKit Pl

set_option linter.unusedSimpArgs false
set_option linter.unusedVariables false

/-- Some point, drawn. -/
def AnyPt (g : Nat) (A : Option Addr) (n c : Nat) (z : Nat → Int) (w : World) (k : Nat) (e : Ending) (w' : World) : Prop :=
  ∃ x y : Int, e = .returned (.agg #[.int .i64 x, .int .i64 y]) ∧ (-1001 ≤ x ∧ x ≤ 1001 ∧ -1001 ≤ y ∧ y ≤ 1001) ∧ Rd g A n c z w' (k + 10) ∧ w.grownBy w' (some g)

set_option maxHeartbeats 1000000 in
theorem anyPoint_any {g : Nat} {A : Option Addr} {n c : Nat} {z : Nat → Int} {w : World} {k : Nat} (h : Rd g A n c z w k) (hk : k ≤ 990000) :
    Calls Try.prog 32 #[.pointer (some ⟨g, 0, none⟩)] w (AnyPt g A n c z w k) := by
  have hgl := h.lt
  go_enter Try.func32, Try.ntmps32
  go_wp2_with (first | (go_at_call 42; refine (somePoint_any (by repeat' (first | (with_reducible assumption) | (with_reducible apply Rd.alloc) | (with_reducible apply Rd.drewN) | (with_reducible apply rd_below (by assumption)) | (with_reducible apply Rd.setFar) | omega | (simp; omega))) (by omega)).mono ?_; rintro e wb ⟨x, y, rfl, _, _, _, _, hr, hg⟩; have hz := hg.size; (try simp at hz); have hgl := Rd.lt hr; (try (have hk := gcl hg (w.heap.size) (by first | omega | (simp; done) | (simp; omega)) (by omega); have hc := hk.1; have hf := hk.2.1; have hk := hk.2.2))) | (go_at_call 33; refine (pick_any (by repeat' (first | (with_reducible assumption) | (with_reducible apply Rd.alloc) | (with_reducible apply Rd.drewN) | (with_reducible apply rd_below (by assumption)) | (with_reducible apply Rd.setFar) | omega | (simp; omega))) (by omega) _).mono ?_; rintro e w1 ⟨x, rfl, hx0, hx1, hr, hg⟩; (try have hx1 := pk_lt (by omega) hx1); have hz := hg.size; (try simp at hz); have hgl := Rd.lt hr; (try (have hk := gcl hg (w.heap.size) (by first | omega | (simp; done) | (simp; omega)) (by omega); have hc := hk.1; have hf := hk.2.1; have hk := hk.2.2)); (try (have hk := gcl hg (wb.heap.size) (by first | omega | (simp; done) | (simp; omega)) (by omega); have hc := hk.1; have hf := hk.2.1; have hk := hk.2.2))) | (go_at_call 31; refine (one_lit (l := [_, _, _, _]) (by repeat' (first | (with_reducible assumption) | (with_reducible apply Rd.alloc) | (with_reducible apply Rd.drewN) | (with_reducible apply rd_below (by assumption)) | (with_reducible apply Rd.setFar) | omega | (simp; omega))) (by omega) (by simp) rfl (by simp) (by simp) _).mono ?_; rintro e w1 ⟨x2, rfl, hx2, hr, hg⟩; have hz := hg.size; (try simp at hz); have hgl := Rd.lt hr; (try (have hk := gcl hg (w.heap.size) (by first | omega | (simp; done) | (simp; omega)) (by omega); have hc := hk.1; have hf := hk.2.1; have hk := hk.2.2)); (try (have hk := gcl hg (wb.heap.size) (by first | omega | (simp; done) | (simp; omega)) (by omega); have hc := hk.1; have hf := hk.2.1; have hk := hk.2.2))))
  all_goals
    (try simp only [List.mem_cons, List.not_mem_nil, or_false] at hx2)
    ((try simp only [Exit.inBlock, Exit.then]); refine bodyPost_ret (by simp [results, Try.results32, go_sem, *]; try rfl) rfl ?_)
    exact ⟨_, _, rfl, by omega, Rd.more (by repeat' (first | (with_reducible assumption) | (with_reducible apply Rd.alloc) | (with_reducible apply Rd.drewN) | (with_reducible apply rd_below (by assumption)) | (with_reducible apply Rd.setFar) | omega | (simp; omega))) (by omega), by (repeat' (first | (with_reducible exact World.grownBy.refl _ _) | (with_reducible assumption) | (with_reducible refine only_alloc ?_ _) | (with_reducible refine only_drewN ?_ _) | (with_reducible refine only_setCell ?_ (by first | exact .inl rfl | exact .inr (Nat.le_refl _) | (right; simp; done) | (right; simp; omega)) _) | (with_reducible refine grown_call (by assumption) ?_) | (with_reducible refine grown_below (by assumption) ?_ (by first | omega | (simp; done) | (simp; omega)))))⟩

/-- Some matrix, drawn. -/
def AnyMx (g : Nat) (A : Option Addr) (n c : Nat) (z : Nat → Int) (w : World) (k : Nat) (e : Ending) (w' : World) : Prop :=
  ∃ a b c' d e' f : Int, e = .returned (.agg #[.int .i64 a, .int .i64 b, .int .i64 c', .int .i64 d, .int .i64 e', .int .i64 f]) ∧ Rd g A n c z w' (k + 100) ∧ w.grownBy w' (some g)

/-- A matrix and a point. -/
def MxPt (w : World) (e : Ending) (w' : World) : Prop :=
  ∃ a b c d e' f x y : Int, e = .returned (.tuple #[.agg #[.int .i64 a, .int .i64 b, .int .i64 c, .int .i64 d, .int .i64 e', .int .i64 f], .agg #[.int .i64 x, .int .i64 y]]) ∧ (-1001 ≤ x ∧ x ≤ 1001 ∧ -1001 ≤ y ∧ y ≤ 1001) ∧ Below w.heap.size w w'

theorem blk_set6 {w : World} {g : Nat} {T : TypeId} {a0 a1 a2 a3 a4 a5 : Value} (h : w.heap[g]? = some (.cells #[a0, a1, a2, a3, a4, a5] T (0, 0))) (b0 b1 b2 b3 b4 b5 : Value) :
    ((((((w.setCell ⟨g, 0, none⟩ b0).setCell ⟨g, 1, none⟩ b1).setCell ⟨g, 2, none⟩ b2).setCell ⟨g, 3, none⟩ b3).setCell ⟨g, 4, none⟩ b4).setCell ⟨g, 5, none⟩ b5).heap[g]? = some (.cells #[b0, b1, b2, b3, b4, b5] T (0, 0)) :=
  blk_set (blk_set (blk_set (blk_set (blk_set (blk_set h 0 b0) 1 b1) 2 b2) 3 b3) 4 b4) 5 b5
theorem blk_far6 {w : World} {g : Nat} {o : Option Obj} (h : w.heap[g]? = o) {g' i j k m p q : Nat} (hne : g ≠ g') (u v x y r s : Value) :
    ((((((w.setCell ⟨g', i, none⟩ u).setCell ⟨g', j, none⟩ v).setCell ⟨g', k, none⟩ x).setCell ⟨g', m, none⟩ y).setCell ⟨g', p, none⟩ r).setCell ⟨g', q, none⟩ s).heap[g]? = o := blk_far (blk_far (blk_far4 h hne u v x y) r hne) s hne

/-- Two points. -/
def Pts2 (w : World) (e : Ending) (w' : World) : Prop :=
  ∃ x y u v : Int, e = .returned (.tuple #[.agg #[.int .i64 x, .int .i64 y], .agg #[.int .i64 u, .int .i64 v]]) ∧ (-1001 ≤ x ∧ x ≤ 1001 ∧ -1001 ≤ y ∧ y ≤ 1001) ∧ (-1001 ≤ u ∧ u ≤ 1001 ∧ -1001 ≤ v ∧ v ≤ 1001) ∧ Below w.heap.size w w'

end Go.Proofs.Ytbiddmimcdmnoaa
