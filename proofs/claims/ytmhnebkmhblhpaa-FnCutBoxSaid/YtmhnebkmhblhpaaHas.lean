/-
  BoxHas, of the program and of the reference.
-/
import Derived.Test.YtmhnebkmhblhpaaLeaf
import Derived.Test.YtmhnebkmhblhpaaReg
namespace Go.Proofs.Ytmhnebkmhblhpaa
open Go.RowKit Pl

theorem hasB_val {l t r b x y : Int} {u v : Bool} (h : validB ⟨l, t, r, b⟩ = true) (h1 : inB x l (r - 1) = u) (h2 : inB y t (b - 1) = v) : hasB ⟨l, t, r, b⟩ x y = (u && v) := by
  subst h1; subst h2
  simp only [hasB, h, Bool.true_and, inB]
  rw [← Bool.decide_and]
  exact decide_eq_decide.2 (by omega)
theorem hasB_out {x : Bx} {p q : Int} (h : validB x = false) : hasB x p q = false := by simp [hasB, h]

set_option maxHeartbeats 400000 in
theorem BoxHas_eq {l t r b x y : Int} {v : Bool} (h : hasB ⟨l, t, r, b⟩ x y = v) (w : World) :
    Calls Try.prog 15 #[.agg #[.int .i64 l, .int .i64 t, .int .i64 r, .int .i64 b], .int .i64 x, .int .i64 y] w fun e w' => e = .returned (.bool v) ∧ Below w.heap.size w w' := by
  subst h
  rcases Bool.eq_false_or_eq_true (validB ⟨l, t, r, b⟩) with h1 | h1
  · obtain ⟨b1, b2, b3, b4, b5, b6⟩ := validB_true.1 h1
    rcases Bool.eq_false_or_eq_true (inB x l (r - 1)) with h2 | h2 <;> rcases Bool.eq_false_or_eq_true (inB y t (b - 1)) with h3 | h3 <;> rw [hasB_val h1 h2 h3] <;>
      have H1 := Lib.hid h1 <;> have H2 := Lib.hid h2 <;> have H3 := Lib.hid h3 <;> clear h1 h2 h3
    all_goals
      go_enter Try.func15, Try.ntmps15
      go_wp2_with (first | (go_at_call 44; (with_reducible refine (valid_eq (Hid.out (by with_reducible assumption)) _).mono ?_); rintro e w1 ⟨rfl, hb⟩; have hz := hb.size; (try simp at hz); (try (have hk := bcl hb (w.heap.size) (by first | omega | (simp; done) | (simp; omega)); have hc := hk.1; have hf := hk.2.1; have hk := hk.2.2))) | (go_at_call 45; (with_reducible refine (in_eq (Hid.out (by with_reducible assumption)) _).mono ?_); rintro e w1 ⟨rfl, rfl⟩))
      go_ret
      exact ⟨rfl, by (repeat' (first | (with_reducible exact Below.refl _ _) | (with_reducible assumption) | (with_reducible refine Below.alloc ?_ ?_ _) | (with_reducible refine below_drewN ?_ _) | (with_reducible refine Below.drew ?_) | (with_reducible refine Below.setCell ?_ ?_ _) | (with_reducible refine below_call (by assumption) ?_ ?_) | go_size))⟩
  · rw [hasB_out h1]
    have H1 := Lib.hid h1
    clear h1
    go_enter Try.func15, Try.ntmps15
    go_wp2_with (first | (go_at_call 44; (with_reducible refine (valid_eq (Hid.out (by with_reducible assumption)) _).mono ?_); rintro e w1 ⟨rfl, hb⟩; have hz := hb.size; (try simp at hz); (try (have hk := bcl hb (w.heap.size) (by first | omega | (simp; done) | (simp; omega)); have hc := hk.1; have hf := hk.2.1; have hk := hk.2.2))) | (go_at_call 45; (with_reducible refine (in_eq (Hid.out (by with_reducible assumption)) _).mono ?_); rintro e w1 ⟨rfl, rfl⟩))
    go_ret
    exact ⟨rfl, by (repeat' (first | (with_reducible exact Below.refl _ _) | (with_reducible assumption) | (with_reducible refine Below.alloc ?_ ?_ _) | (with_reducible refine below_drewN ?_ _) | (with_reducible refine Below.drew ?_) | (with_reducible refine Below.setCell ?_ ?_ _) | (with_reducible refine below_call (by assumption) ?_ ?_) | go_size))⟩

set_option maxHeartbeats 400000 in
theorem sBoxHas_eq {l t r b x y : Int} {v : Bool} (h : hasB ⟨l, t, r, b⟩ x y = v) (w : World) :
    Calls Try.prog 16 #[.agg #[.int .i64 l, .int .i64 t, .int .i64 r, .int .i64 b], .int .i64 x, .int .i64 y] w fun e w' => e = .returned (.bool v) ∧ Below w.heap.size w w' := by
  subst h
  rcases Bool.eq_false_or_eq_true (validB ⟨l, t, r, b⟩) with h1 | h1
  · obtain ⟨b1, b2, b3, b4, b5, b6⟩ := validB_true.1 h1
    rcases Bool.eq_false_or_eq_true (inB x l (r - 1)) with h2 | h2 <;> rcases Bool.eq_false_or_eq_true (inB y t (b - 1)) with h3 | h3 <;> rw [hasB_val h1 h2 h3] <;>
      have H1 := Lib.hid h1 <;> have H2 := Lib.hid h2 <;> have H3 := Lib.hid h3 <;> clear h1 h2 h3
    all_goals
      go_enter Try.func16, Try.ntmps16
      go_wp2_with (first | (go_at_call 46; (with_reducible refine (validBox_eq (Hid.out (by with_reducible assumption)) _).mono ?_); rintro e w1 ⟨rfl, hb⟩; have hz := hb.size; (try simp at hz); (try (have hk := bcl hb (w.heap.size) (by first | omega | (simp; done) | (simp; omega)); have hc := hk.1; have hf := hk.2.1; have hk := hk.2.2))) | (go_at_call 47; (with_reducible refine (inRange_eq (Hid.out (by with_reducible assumption)) _).mono ?_); rintro e w1 ⟨rfl, rfl⟩))
      go_ret
      exact ⟨rfl, by (repeat' (first | (with_reducible exact Below.refl _ _) | (with_reducible assumption) | (with_reducible refine Below.alloc ?_ ?_ _) | (with_reducible refine below_drewN ?_ _) | (with_reducible refine Below.drew ?_) | (with_reducible refine Below.setCell ?_ ?_ _) | (with_reducible refine below_call (by assumption) ?_ ?_) | go_size))⟩
  · rw [hasB_out h1]
    have H1 := Lib.hid h1
    clear h1
    go_enter Try.func16, Try.ntmps16
    go_wp2_with (first | (go_at_call 46; (with_reducible refine (validBox_eq (Hid.out (by with_reducible assumption)) _).mono ?_); rintro e w1 ⟨rfl, hb⟩; have hz := hb.size; (try simp at hz); (try (have hk := bcl hb (w.heap.size) (by first | omega | (simp; done) | (simp; omega)); have hc := hk.1; have hf := hk.2.1; have hk := hk.2.2))) | (go_at_call 47; (with_reducible refine (inRange_eq (Hid.out (by with_reducible assumption)) _).mono ?_); rintro e w1 ⟨rfl, rfl⟩))
    go_ret
    exact ⟨rfl, by (repeat' (first | (with_reducible exact Below.refl _ _) | (with_reducible assumption) | (with_reducible refine Below.alloc ?_ ?_ _) | (with_reducible refine below_drewN ?_ _) | (with_reducible refine Below.drew ?_) | (with_reducible refine Below.setCell ?_ ?_ _) | (with_reducible refine below_call (by assumption) ?_ ?_) | go_size))⟩

end Go.Proofs.Ytmhnebkmhblhpaa
