/-
  What the functions on numbers and points return: floor, round, valid.
-/
import Derived.Test.YtbiddmimcdmnoaaLeaf
import Derived.Test.YtbiddmimcdmnoaaReg
import Derived.Test.YtbiddmimcdmnoaaPlB
namespace Go.Proofs.Ytbiddmimcdmnoaa
open Go.RowKit Pl

set_option linter.unusedSimpArgs false

set_option maxHeartbeats 400000 in
theorem floor_eq {a b q : Int} (hb : 1 ≤ b) (hb2 : b ≤ 1000000000000) (h1 : -1000000000000000 ≤ a) (h2 : a ≤ 1000000000000000) (h : a / b = q) (w : World) :
    Calls Try.prog 40 #[.int .i64 a, .int .i64 b] w fun e w' => e = .returned (.int .i64 q) ∧ w = w' := by
  subst h
  have l1 := div_lo hb h1 (by omega)
  have l2 := div_hi hb h2 (by omega)
  obtain ⟨q, r, e1, e2, hc⟩ := tdm a hb
  have hz : (b == 0) = false := by simp; omega
  rcases hc with ⟨hr, ha, hq⟩ | ⟨hr, hq⟩
  · rw [hq] at l1 l2 ⊢
    clear hq
    go_enter Try.func40, Try.ntmps40
    go_wp2
    go_ret
    exact ⟨rfl, rfl⟩
  · rw [hq] at l1 l2 ⊢
    clear hq
    by_cases ha : 0 ≤ a
    · have e3 : a / b = q := by rw [← e1, Int.tdiv_eq_ediv_of_nonneg ha]
      have e4 : a % b = r := by rw [← e2, Int.tmod_eq_emod_of_nonneg ha]
      go_enter Try.func40, Try.ntmps40
      go_wp2
      go_ret
      exact ⟨rfl, rfl⟩
    · go_enter Try.func40, Try.ntmps40
      go_wp2
      go_ret
      exact ⟨rfl, rfl⟩

set_option maxHeartbeats 400000 in
theorem floorDiv_eq {a b q : Int} (hb : 1 ≤ b) (hb2 : b ≤ 1000000000000) (h1 : -1000000000000000 ≤ a) (h2 : a ≤ 1000000000000000) (h : a / b = q) (w : World) :
    Calls Try.prog 47 #[.int .i64 a, .int .i64 b] w fun e w' => e = .returned (.int .i64 q) ∧ w = w' := by
  subst h
  have l1 := div_lo hb h1 (by omega)
  have l2 := div_hi hb h2 (by omega)
  obtain ⟨q, r, e1, e2, hc⟩ := tdm a hb
  have hz : (b == 0) = false := by simp; omega
  rcases hc with ⟨hr, ha, hq⟩ | ⟨hr, hq⟩
  · rw [hq] at l1 l2 ⊢
    clear hq
    go_enter Try.func47, Try.ntmps47
    go_wp2
    go_ret
    exact ⟨rfl, rfl⟩
  · rw [hq] at l1 l2 ⊢
    clear hq
    by_cases ha : 0 ≤ a
    · have e3 : a / b = q := by rw [← e1, Int.tdiv_eq_ediv_of_nonneg ha]
      have e4 : a % b = r := by rw [← e2, Int.tmod_eq_emod_of_nonneg ha]
      go_enter Try.func47, Try.ntmps47
      go_wp2
      go_ret
      exact ⟨rfl, rfl⟩
    · go_enter Try.func47, Try.ntmps47
      go_wp2
      go_ret
      exact ⟨rfl, rfl⟩

set_option maxHeartbeats 400000 in
theorem isUnit_eq {n : Int} {v : Bool} (h : inB n (-1000) 1000 = v) (w : World) :
    Calls Try.prog 46 #[.int .i64 n] w fun e w' => e = .returned (.bool v) ∧ w = w' := by
  have H1 := Lib.hid h
  clear h
  go_enter Try.func46, Try.ntmps46
  go_wp2_with ((go_at_call 23; (with_reducible refine (in_eq (Hid.out (by with_reducible assumption)) _).mono ?_); rintro e w1 ⟨rfl, rfl⟩))
  go_ret
  exact ⟨rfl, rfl⟩

set_option maxHeartbeats 400000 in
theorem round_eq {a b q : Int} (hb : 1 ≤ b) (hb2 : b ≤ 100000000000) (h1 : -100000000000000 ≤ a) (h2 : a ≤ 100000000000000) (h : rnd a b = q) (w : World) :
    Calls Try.prog 24 #[.int .i64 a, .int .i64 b] w fun e w' => e = .returned (.int .i64 q) ∧ w = w' := by
  have H1 := Lib.hid (show (2 * a + b) / (2 * b) = q from h)
  clear h
  go_enter Try.func24, Try.ntmps24
  go_wp2_with ((go_at_call 40; (with_reducible refine (floor_eq (by omega) (by omega) (by omega) (by omega) (Hid.out (by with_reducible assumption)) _).mono ?_); rintro e w1 ⟨rfl, rfl⟩))
  go_ret
  exact ⟨rfl, rfl⟩

set_option maxHeartbeats 400000 in
theorem nearest_eq {a b q : Int} (hb : 1 ≤ b) (hb2 : b ≤ 100000000000) (h1 : -100000000000000 ≤ a) (h2 : a ≤ 100000000000000) (h : rnd a b = q) (w : World) :
    Calls Try.prog 44 #[.int .i64 a, .int .i64 b] w fun e w' => e = .returned (.int .i64 q) ∧ w = w' := by
  have H1 := Lib.hid (show (2 * a + b) / (2 * b) = q from h)
  clear h
  go_enter Try.func44, Try.ntmps44
  go_wp2_with ((go_at_call 47; (with_reducible refine (floorDiv_eq (by omega) (by omega) (by omega) (by omega) (Hid.out (by with_reducible assumption)) _).mono ?_); rintro e w1 ⟨rfl, rfl⟩))
  go_ret
  exact ⟨rfl, rfl⟩

set_option maxHeartbeats 400000 in
theorem pvalid_eq {x y : Int} {v : Bool} (h : ptB (x, y) = v) (w : World) :
    Calls Try.prog 39 #[.agg #[.int .i64 x, .int .i64 y]] w fun e w' => e = .returned (.bool v) ∧ Below w.heap.size w w' := by
  subst h
  rw [show ptB (x, y) = (inB x (-1000) 1000 && inB y (-1000) 1000) from ptB_and]
  rcases Bool.eq_false_or_eq_true (inB x (-1000) 1000) with h2 | h2 <;> rcases Bool.eq_false_or_eq_true (inB y (-1000) 1000) with h3 | h3 <;> rw [h2, h3] <;>
    have H2 := Lib.hid h2 <;> have H3 := Lib.hid h3 <;> clear h2 h3
  all_goals
    go_enter Try.func39, Try.ntmps39
    go_wp2_with ((go_at_call 46; (with_reducible refine (isUnit_eq (Hid.out (by with_reducible assumption)) _).mono ?_); rintro e w1 ⟨rfl, rfl⟩))
    go_ret
    exact ⟨rfl, by (repeat' (first | (with_reducible exact Below.refl _ _) | (with_reducible assumption) | (with_reducible refine Below.alloc ?_ ?_ _) | (with_reducible refine below_drewN ?_ _) | (with_reducible refine Below.drew ?_) | (with_reducible refine Below.setCell ?_ ?_ _) | (with_reducible refine below_call (by assumption) ?_ ?_) | go_size))⟩

set_option maxHeartbeats 400000 in
theorem validPoint_eq {x y : Int} {v : Bool} (h : ptB (x, y) = v) (w : World) :
    Calls Try.prog 35 #[.agg #[.int .i64 x, .int .i64 y]] w fun e w' => e = .returned (.bool v) ∧ Below w.heap.size w w' := by
  subst h
  rw [show ptB (x, y) = (inB x (-1000) 1000 && inB y (-1000) 1000) from ptB_and]
  rcases Bool.eq_false_or_eq_true (inB x (-1000) 1000) with h2 | h2 <;> rcases Bool.eq_false_or_eq_true (inB y (-1000) 1000) with h3 | h3 <;> rw [h2, h3] <;>
    have H2 := Lib.hid h2 <;> have H3 := Lib.hid h3 <;> clear h2 h3
  all_goals
    go_enter Try.func35, Try.ntmps35
    go_wp2_with ((go_at_call 18; (with_reducible refine (inRange_eq (Hid.out (by with_reducible assumption)) _).mono ?_); rintro e w1 ⟨rfl, rfl⟩))
    go_ret
    exact ⟨rfl, by (repeat' (first | (with_reducible exact Below.refl _ _) | (with_reducible assumption) | (with_reducible refine Below.alloc ?_ ?_ _) | (with_reducible refine below_drewN ?_ _) | (with_reducible refine Below.drew ?_) | (with_reducible refine Below.setCell ?_ ?_ _) | (with_reducible refine below_call (by assumption) ?_ ?_) | go_size))⟩

end Go.Proofs.Ytbiddmimcdmnoaa
