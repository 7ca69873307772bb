/-
  The generator of pictures.
-/
import Derived.Test.YtiocgklfkckomaaDrawFr
namespace Go.Proofs.Ytiocgklfkckomaa
open Go.RowKit Pl

set_option linter.unusedSimpArgs false
set_option linter.unusedVariables false

set_option maxHeartbeats 1000000 in
theorem anyColor_any {g : Nat} {A : Option Addr} {n c : Nat} {z : Nat → Int} {w : World} {k : Nat} (h : Rd g A n c z w k) (hk : k ≤ 980000) :
    Calls Try.prog 29 #[.pointer (some ⟨g, 0, none⟩)] w (RdAny g A n c z w k) := by
  have hgl := h.lt
  go_enter Try.func29, Try.ntmps29
  go_wp2_with fail
  refine (randomColor_any (by repeat' (first | (with_reducible assumption) | (with_reducible apply Rd.alloc) | (with_reducible apply Rd.drewN) | (with_reducible apply rd_below (by assumption)) | (with_reducible apply Rd.setFar) | omega | (simp; omega))) (by omega)).mono ?_
  rintro e w1 ⟨cr, cg, cb, ca, rfl, ⟨ha0, ha1⟩, hr1, hg1⟩
  have hz1 := hg1.size
  simp at hz1
  have hq0 : w1.heap[w.heap.size]? = some (.cells #[.int .i64 0, .int .i64 0, .int .i64 0, .int .i64 0] 49 (0, 0)) := blk_grown (blk_new w _) hg1 (by omega)
  have G1 : Hid (w.grownBy w1 (some g)) := Lib.hid (by (repeat' (first | (with_reducible exact World.grownBy.refl _ _) | (with_reducible assumption) | (with_reducible refine only_alloc ?_ _) | (with_reducible refine only_drewN ?_ _) | (with_reducible refine only_setCell ?_ (by first | exact .inl rfl | exact .inr (Nat.le_refl _) | (right; simp; done) | (right; simp; omega)) _) | (with_reducible refine grown_call (by assumption) ?_) | (with_reducible refine grown_below (by assumption) ?_ (by first | omega | (simp; done) | (simp; omega))))))
  have R1 := Lib.hid hr1
  have Q0 := Lib.hid hq0
  have hgl1 := hr1.lt
  clear hg1 hr1 hq0
  go_wp2_with fail
  refine (pick_any (R1.out.alloc _) (by omega) _).mono ?_
  rintro e w2 ⟨x, rfl, hx0, hx1, hr2, hg2⟩
  have hz2 := hg2.size
  simp at hz2
  have hq1 : w2.heap[w1.heap.size]? = some (.cells #[.int .i64 cr, .int .i64 cg, .int .i64 cb, .int .i64 ca] 49 (0, 0)) := blk_grown (blk_new w1 _) hg2 (by omega)
  have hq0 : w2.heap[w.heap.size]? = some (.cells #[.int .i64 0, .int .i64 0, .int .i64 0, .int .i64 0] 49 (0, 0)) := blk_grown (blk_alloc Q0.out _) hg2 (by omega)
  have G2 : Hid (w.grownBy w2 (some g)) := Lib.hid (grown_call hg2 (only_alloc G1.out _))
  have R2 := Lib.hid hr2
  have hc1 := blk_cell hq1
  have hf1 := blk_free hq1
  have hl1 := blk_lt hq1
  have hc0 := blk_cell hq0
  have hf0 := blk_free hq0
  have hl0 := blk_lt hq0
  have Q1 := Lib.hid hq1
  have Q2 := Lib.hid hq0
  clear hr2 hg2 hq0
  by_cases e0 : x = 0
  · subst e0
    have q1 := blk_cell (blk_set4 hq1 (.int .i64 (ca + 1)) (.int .i64 cg) (.int .i64 cb) (.int .i64 ca))
    clear hq1
    go_wp2
    have hr := R2.out
    have hg := G2.out
    ((try simp only [Exit.inBlock, Exit.then]); refine bodyPost_ret (by simp [results, Try.results29, go_sem, *]; try rfl) rfl ?_)
    exact ⟨_, _, _, _, rfl, Rd.more (by repeat' (first | (with_reducible assumption) | (with_reducible apply Rd.alloc) | (with_reducible apply Rd.drewN) | (with_reducible apply rd_below (by assumption)) | (with_reducible apply Rd.setFar) | omega | (simp; omega))) (by omega), by (repeat' (first | (with_reducible exact World.grownBy.refl _ _) | (with_reducible assumption) | (with_reducible refine only_alloc ?_ _) | (with_reducible refine only_drewN ?_ _) | (with_reducible refine only_setCell ?_ (by first | exact .inl rfl | exact .inr (Nat.le_refl _) | (right; simp; done) | (right; simp; omega)) _) | (with_reducible refine grown_call (by assumption) ?_) | (with_reducible refine grown_below (by assumption) ?_ (by first | omega | (simp; done) | (simp; omega)))))⟩
  · have f0 : decide (x = 0) = false := decide_eq_false e0
    have f0' : (x == 0) = false := by simp [e0]
    by_cases e1 : x = 1
    · subst e1
      clear hq1
      go_wp2_with fail
      refine (one_lit (l := [_, _]) R2.out (by omega) rfl rfl (by simp) (by simp) _).mono ?_
      rintro e w3 ⟨y, rfl, _, hr3, hg3⟩
      have hz3 := hg3.size
      simp at hz3
      have hq1 : w3.heap[w1.heap.size]? = some (.cells #[.int .i64 cr, .int .i64 cg, .int .i64 cb, .int .i64 ca] 49 (0, 0)) := blk_grown (blk_alloc Q1.out _) hg3 (by omega)
      have hd1 := blk_cell hq1
      have he1 := blk_free hq1
      have hl2 := blk_lt hq1
      have hk0 := gcl hg3 w.heap.size (by simp; omega) (by omega)
      have hd0 : ∀ i, w3.cell? ⟨w.heap.size, i, none⟩ = #[Value.int .i64 0, .int .i64 0, .int .i64 0, .int .i64 0][i]? := fun i => (hk0.1 i).trans (by simpa using blk_cell (blk_alloc Q2.out _) i)
      have he0 : ∀ i, w3.frozen? ⟨w.heap.size, i, none⟩ = false := fun i => (hk0.2.1 i).trans (by simpa using blk_free (blk_alloc Q2.out _) i)
      have G3 : Hid (w.grownBy w3 (some g)) := Lib.hid (grown_call hg3 (only_alloc G2.out _))
      have q1 := blk_cell (blk_set hq1 3 (.int .i64 y))
      clear hc1 hf1 hc0 hf0 hk0 hg3 hq1
      go_wp2
      have hg := G3.out
      ((try simp only [Exit.inBlock, Exit.then]); refine bodyPost_ret (by simp [results, Try.results29, go_sem, *]; try rfl) rfl ?_)
      exact ⟨_, _, _, _, rfl, Rd.more (by repeat' (first | (with_reducible assumption) | (with_reducible apply Rd.alloc) | (with_reducible apply Rd.drewN) | (with_reducible apply rd_below (by assumption)) | (with_reducible apply Rd.setFar) | omega | (simp; omega))) (by omega), by (repeat' (first | (with_reducible exact World.grownBy.refl _ _) | (with_reducible assumption) | (with_reducible refine only_alloc ?_ _) | (with_reducible refine only_drewN ?_ _) | (with_reducible refine only_setCell ?_ (by first | exact .inl rfl | exact .inr (Nat.le_refl _) | (right; simp; done) | (right; simp; omega)) _) | (with_reducible refine grown_call (by assumption) ?_) | (with_reducible refine grown_below (by assumption) ?_ (by first | omega | (simp; done) | (simp; omega)))))⟩
    · have f1 : decide (x = 1) = false := decide_eq_false e1
      have f1' : (x == 1) = false := by simp [e1]
      by_cases e2 : x = 2
      · subst e2
        have q1 := blk_cell (blk_set hq1 2 (.int .i64 (-1)))
        clear hq1
        go_wp2
        have hr := R2.out
        have hg := G2.out
        ((try simp only [Exit.inBlock, Exit.then]); refine bodyPost_ret (by simp [results, Try.results29, go_sem, *]; try rfl) rfl ?_)
        exact ⟨_, _, _, _, rfl, Rd.more (by repeat' (first | (with_reducible assumption) | (with_reducible apply Rd.alloc) | (with_reducible apply Rd.drewN) | (with_reducible apply rd_below (by assumption)) | (with_reducible apply Rd.setFar) | omega | (simp; omega))) (by omega), by (repeat' (first | (with_reducible exact World.grownBy.refl _ _) | (with_reducible assumption) | (with_reducible refine only_alloc ?_ _) | (with_reducible refine only_drewN ?_ _) | (with_reducible refine only_setCell ?_ (by first | exact .inl rfl | exact .inr (Nat.le_refl _) | (right; simp; done) | (right; simp; omega)) _) | (with_reducible refine grown_call (by assumption) ?_) | (with_reducible refine grown_below (by assumption) ?_ (by first | omega | (simp; done) | (simp; omega)))))⟩
      · have f2 : decide (x = 2) = false := decide_eq_false e2
        have f2' : (x == 2) = false := by simp [e2]
        clear hq1
        go_wp2
        have hr := R2.out
        have hg := G2.out
        ((try simp only [Exit.inBlock, Exit.then]); refine bodyPost_ret (by simp [results, Try.results29, go_sem, *]; try rfl) rfl ?_)
        exact ⟨_, _, _, _, rfl, Rd.more (by repeat' (first | (with_reducible assumption) | (with_reducible apply Rd.alloc) | (with_reducible apply Rd.drewN) | (with_reducible apply rd_below (by assumption)) | (with_reducible apply Rd.setFar) | omega | (simp; omega))) (by omega), by (repeat' (first | (with_reducible exact World.grownBy.refl _ _) | (with_reducible assumption) | (with_reducible refine only_alloc ?_ _) | (with_reducible refine only_drewN ?_ _) | (with_reducible refine only_setCell ?_ (by first | exact .inl rfl | exact .inr (Nat.le_refl _) | (right; simp; done) | (right; simp; omega)) _) | (with_reducible refine grown_call (by assumption) ?_) | (with_reducible refine grown_below (by assumption) ?_ (by first | omega | (simp; done) | (simp; omega)))))⟩

end Go.Proofs.Ytiocgklfkckomaa
