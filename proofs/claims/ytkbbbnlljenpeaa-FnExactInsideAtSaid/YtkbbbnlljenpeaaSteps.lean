/-
  What an edge adds to a winding, in the program and in the reference.
-/
import Derived.Test.YtkbbbnlljenpeaaPlEd
namespace Go.Proofs.Ytkbbbnlljenpeaa
open Go.RowKit Pl

set_option linter.unusedSimpArgs false
set_option linter.unusedVariables false

theorem mul_small2 {a b : Int} (h1 : -2000 ≤ a) (h2 : a ≤ 2000) (h3 : -2000 ≤ b) (h4 : b ≤ 2000) : -4000000 ≤ a * b ∧ a * b ≤ 4000000 := by
  have p1 := Int.mul_nonneg (show 0 ≤ 2000 - a by omega) (show 0 ≤ 2000 + b by omega)
  have p2 := Int.mul_nonneg (show 0 ≤ 2000 + a by omega) (show 0 ≤ 2000 - b by omega)
  have p3 := Int.mul_nonneg (show 0 ≤ 2000 - a by omega) (show 0 ≤ 2000 - b by omega)
  have p4 := Int.mul_nonneg (show 0 ≤ 2000 + a by omega) (show 0 ≤ 2000 + b by omega)
  simp only [Int.sub_mul, Int.add_mul, Int.mul_sub, Int.mul_add] at p1 p2 p3 p4
  omega
def leftB (a b : Pt) (x y : Int) : Bool := if b.2 - a.2 < 0 then decide (-overN a b x y ≤ 0) else decide (overN a b x y ≤ 0)
def sg (n : Int) : Int := if 0 < n then 1 else if n < 0 then -1 else 0
theorem step_cross (a b : Pt) (x y : Int) : stepN a b x y = if crossY a b y = 0 then 0 else if leftB a b x y then crossY a b y else 0 := by
  rw [step_ways]
  unfold crossY leftB
  by_cases h1 : a.2 ≤ y ∧ y < b.2
  · simp only [if_pos h1]
    rw [if_neg (show ¬ (1 : Int) = 0 by decide), if_neg (show ¬ b.2 - a.2 < 0 by omega)]
    simp only [decide_eq_true_eq]
  · by_cases h2 : b.2 ≤ y ∧ y < a.2
    · simp only [if_neg h1, if_pos h2]
      rw [if_neg (show ¬ (-1 : Int) = 0 by decide), if_pos (show b.2 - a.2 < 0 by omega)]
      simp only [decide_eq_true_eq]
    · simp only [if_neg h1, if_neg h2, if_true]
theorem cross_small (a b : Pt) (y : Int) : -1 ≤ crossY a b y ∧ crossY a b y ≤ 1 := by unfold crossY; split <;> (try split) <;> omega

set_option maxHeartbeats 4000000 in
theorem step_eq {x y x' y' h c : Int} (hc : crossY (x, y) (x', y') h = c) (w : World) :
    Calls Try.prog 66 #[.agg #[.int .i64 x, .int .i64 y, .int .i64 x', .int .i64 y'], .int .i64 h] w fun e w' => e = .returned (.int .i64 c) ∧ Below w.heap.size w w' := by
  subst hc
  rcases Bool.eq_false_or_eq_true (decide (y ≤ h)) with d1 | d1 <;> rcases Bool.eq_false_or_eq_true (decide (h < y')) with d2 | d2 <;> rcases Bool.eq_false_or_eq_true (decide (y' ≤ h)) with d3 | d3 <;> rcases Bool.eq_false_or_eq_true (decide (h < y)) with d4 | d4
  all_goals
    have HC := Lib.hid (show (crossY (x, y) (x', y') h) = (if (decide (y ≤ h) && decide (h < y')) then 1 else if (decide (y' ≤ h) && decide (h < y)) then -1 else 0) by simp only [crossY, Bool.and_eq_true, decide_eq_true_eq])
    rw [d1, d2, d3, d4] at HC
    simp only [Bool.and_true, Bool.and_false, Bool.and_self, if_true, Bool.false_eq_true, if_false] at HC
    go_enter Try.func66, Try.ntmps66
    go_wp2
    go_ret
    exact ⟨by rw [HC.out]; rfl, by (repeat' (first | (with_reducible exact Below.refl _ _) | (with_reducible assumption) | (with_reducible refine Below.alloc ?_ ?_ _) | (with_reducible refine below_drewN ?_ _) | (with_reducible refine Below.drew ?_) | (with_reducible refine Below.setCell ?_ ?_ _) | (with_reducible refine below_call (by assumption) ?_ ?_) | go_size))⟩

set_option maxHeartbeats 1000000 in
theorem left_eq {x y x' y' u h : Int} {v : Bool} (a1 : -1000 ≤ x ∧ x ≤ 1000 ∧ -1000 ≤ y ∧ y ≤ 1000) (b1 : -1000 ≤ x' ∧ x' ≤ 1000 ∧ -1000 ≤ y' ∧ y' ≤ 1000) (c1 : -1000 ≤ u ∧ u ≤ 1000 ∧ -1000 ≤ h ∧ h ≤ 1000) (hv : leftB (x, y) (x', y') u h = v) (w : World) :
    Calls Try.prog 67 #[.agg #[.int .i64 x, .int .i64 y, .int .i64 x', .int .i64 y'], .int .i64 u, .int .i64 h] w fun e w' => e = .returned (.bool v) ∧ Below w.heap.size w w' := by
  obtain ⟨p1, p2⟩ := mul_small2 (a := x' - x) (b := h - y) (by omega) (by omega) (by omega) (by omega)
  obtain ⟨q1, q2⟩ := mul_small2 (a := u - x) (b := y' - y) (by omega) (by omega) (by omega) (by omega)
  obtain ⟨p, hp⟩ : ∃ p, (x' - x) * (h - y) = p := ⟨_, rfl⟩
  obtain ⟨q, hq⟩ : ∃ q, (u - x) * (y' - y) = q := ⟨_, rfl⟩
  rw [hp] at p1 p2
  rw [hq] at q1 q2
  have ho : overN (x, y) (x', y') u h = p - q := by rw [overN, hp, hq]
  by_cases hd : y' - y < 0
  · have e1 : decide (y' - y < 0) = true := decide_eq_true hd
    have HV : Hid (v = decide (-(p - q) ≤ 0)) := Lib.hid (by rw [← hv, leftB, if_pos hd, ho])
    clear hv ho
    go_enter Try.func67, Try.ntmps67
    go_wp2
    go_ret
    exact ⟨by rw [HV.out]; first | rfl | (refine ret_bool ?_; simp; try omega), by (repeat' (first | (with_reducible exact Below.refl _ _) | (with_reducible assumption) | (with_reducible refine Below.alloc ?_ ?_ _) | (with_reducible refine below_drewN ?_ _) | (with_reducible refine Below.drew ?_) | (with_reducible refine Below.setCell ?_ ?_ _) | (with_reducible refine below_call (by assumption) ?_ ?_) | go_size))⟩
  · have e1 : decide (y' - y < 0) = false := decide_eq_false hd
    have HV : Hid (v = decide (p - q ≤ 0)) := Lib.hid (by rw [← hv, leftB, if_neg hd, ho])
    clear hv ho
    go_enter Try.func67, Try.ntmps67
    go_wp2
    go_ret
    exact ⟨by rw [HV.out]; first | rfl | (refine ret_bool ?_; simp; try omega), by (repeat' (first | (with_reducible exact Below.refl _ _) | (with_reducible assumption) | (with_reducible refine Below.alloc ?_ ?_ _) | (with_reducible refine below_drewN ?_ _) | (with_reducible refine Below.drew ?_) | (with_reducible refine Below.setCell ?_ ?_ _) | (with_reducible refine below_call (by assumption) ?_ ?_) | go_size))⟩

set_option maxHeartbeats 400000 in
theorem toInt_eq {v : Bool} {n : Int} (hn : (if v then 1 else 0) = n) (w : World) : Calls Try.prog 77 #[.bool v] w fun e w' => e = .returned (.int .i64 n) ∧ w = w' := by
  subst hn
  cases v
  all_goals
    go_enter Try.func77, Try.ntmps77
    go_wp2
    go_ret
    exact ⟨rfl, rfl⟩

set_option maxHeartbeats 1000000 in
theorem sideOf_eq {x y x' y' u h s : Int} (a1 : -1000 ≤ x ∧ x ≤ 1000 ∧ -1000 ≤ y ∧ y ≤ 1000) (b1 : -1000 ≤ x' ∧ x' ≤ 1000 ∧ -1000 ≤ y' ∧ y' ≤ 1000) (c1 : -1000 ≤ u ∧ u ≤ 1000 ∧ -1000 ≤ h ∧ h ≤ 1000) (hs : sg (sideN (x, y) (x', y') u h) = s) (w : World) :
    Calls Try.prog 74 #[.agg #[.int .i64 x, .int .i64 y], .agg #[.int .i64 x', .int .i64 y'], .int .i64 u, .int .i64 h] w fun e w' => e = .returned (.int .i64 s) ∧ Below w.heap.size w w' := by
  obtain ⟨p1, p2⟩ := mul_small2 (a := u - x) (b := y' - y) (by omega) (by omega) (by omega) (by omega)
  obtain ⟨q1, q2⟩ := mul_small2 (a := h - y) (b := x' - x) (by omega) (by omega) (by omega) (by omega)
  obtain ⟨p, hp⟩ : ∃ p, (u - x) * (y' - y) = p := ⟨_, rfl⟩
  obtain ⟨q, hq⟩ : ∃ q, (h - y) * (x' - x) = q := ⟨_, rfl⟩
  rw [hp] at p1 p2
  rw [hq] at q1 q2
  have ho : sideN (x, y) (x', y') u h = p - q := by rw [sideN, hp, hq]
  rw [ho] at hs
  obtain ⟨f1, hf1⟩ : ∃ f : Bool, decide (q < p) = f := ⟨_, rfl⟩
  obtain ⟨f2, hf2⟩ : ∃ f : Bool, decide (p - q < 0) = f := ⟨_, rfl⟩
  obtain ⟨n1, hn1⟩ : ∃ n : Int, (if f1 then 1 else 0) = n := ⟨_, rfl⟩
  obtain ⟨n2, hn2⟩ : ∃ n : Int, (if f2 then 1 else 0) = n := ⟨_, rfl⟩
  have hb1 : 0 ≤ n1 ∧ n1 ≤ 1 := by rw [← hn1]; split <;> omega
  have hb2 : 0 ≤ n2 ∧ n2 ≤ 1 := by rw [← hn2]; split <;> omega
  have HS : Hid (s = n1 - n2) := Lib.hid (by
    rw [← hs, ← hn1, ← hn2, ← hf1, ← hf2, sg]
    simp only [decide_eq_true_eq]
    split <;> split <;> omega)
  have HN1 := Lib.hid hn1
  have HN2 := Lib.hid hn2
  clear hs ho hn1 hn2
  go_enter Try.func74, Try.ntmps74
  go_wp2_with fail
  refine (toInt_eq HN1.out _).mono ?_
  rintro e w1 ⟨rfl, rfl⟩
  go_wp2_with fail
  refine (toInt_eq HN2.out _).mono ?_
  rintro e w1 ⟨rfl, rfl⟩
  go_wp2
  go_ret
  exact ⟨by rw [HS.out]; rfl, by (repeat' (first | (with_reducible exact Below.refl _ _) | (with_reducible assumption) | (with_reducible refine Below.alloc ?_ ?_ _) | (with_reducible refine below_drewN ?_ _) | (with_reducible refine Below.drew ?_) | (with_reducible refine Below.setCell ?_ ?_ _) | (with_reducible refine below_call (by assumption) ?_ ?_) | go_size))⟩

theorem sg_nonneg (n : Int) : (0 ≤ sg n) ↔ 0 ≤ n := by unfold sg; split <;> (try split) <;> omega

set_option maxHeartbeats 4000000 in
theorem stepOf_eq {x y x' y' u h s : Int} (a1 : -1000 ≤ x ∧ x ≤ 1000 ∧ -1000 ≤ y ∧ y ≤ 1000) (b1 : -1000 ≤ x' ∧ x' ≤ 1000 ∧ -1000 ≤ y' ∧ y' ≤ 1000) (c1 : -1000 ≤ u ∧ u ≤ 1000 ∧ -1000 ≤ h ∧ h ≤ 1000) (hs : stepN (x, y) (x', y') u h = s) (w : World) :
    Calls Try.prog 65 #[.agg #[.int .i64 x, .int .i64 y], .agg #[.int .i64 x', .int .i64 y'], .int .i64 u, .int .i64 h] w fun e w' => e = .returned (.int .i64 s) ∧ Below w.heap.size w w' := by
  subst hs
  obtain ⟨s1, hs1⟩ : ∃ s, sg (sideN (x, y) (x', y') u h) = s := ⟨_, rfl⟩
  obtain ⟨s2, hs2⟩ : ∃ s, sg (sideN (x', y') (x, y) u h) = s := ⟨_, rfl⟩
  have k1 : (0 ≤ s1) ↔ 0 ≤ sideN (x, y) (x', y') u h := by rw [← hs1]; exact sg_nonneg _
  have k2 : (0 ≤ s2) ↔ 0 ≤ sideN (x', y') (x, y) u h := by rw [← hs2]; exact sg_nonneg _
  have H1 := Lib.hid hs1
  have H2 := Lib.hid hs2
  have HC0 : stepN (x, y) (x', y') u h = (if (decide (y ≤ h) && (decide (h < y') && decide (0 ≤ s1))) then 1 else if (decide (y' ≤ h) && (decide (h < y) && decide (0 ≤ s2))) then -1 else 0) := by
    simp only [stepN, Bool.and_eq_true, decide_eq_true_eq, k1, k2]
  clear hs1 hs2 k1 k2
  rcases Bool.eq_false_or_eq_true (decide (y ≤ h)) with d1 | d1 <;> rcases Bool.eq_false_or_eq_true (decide (h < y')) with d2 | d2 <;> rcases Bool.eq_false_or_eq_true (decide (y' ≤ h)) with d3 | d3 <;> rcases Bool.eq_false_or_eq_true (decide (h < y)) with d4 | d4 <;>
    rcases Bool.eq_false_or_eq_true (decide (0 ≤ s1)) with d5 | d5 <;> rcases Bool.eq_false_or_eq_true (decide (0 ≤ s2)) with d6 | d6
  all_goals first | (exfalso; simp only [decide_eq_true_eq, decide_eq_false_iff_not] at d1 d2 d3 d4; omega) | skip
  all_goals
    rw [d1, d2, d3, d4, d5, d6] at HC0
    simp only [Bool.and_true, Bool.and_false, Bool.and_self, Bool.false_and, Bool.true_and, if_true, Bool.false_eq_true, if_false] at HC0
    have HC := Lib.hid HC0
    clear HC0
    go_enter Try.func65, Try.ntmps65
    go_wp2_with (first | (go_at_call 74; (with_reducible refine (sideOf_eq a1 b1 c1 H1.out _).mono ?_); rintro e w1 ⟨rfl, hb⟩; have hz := hb.size; (try simp at hz); (try (have hk := bcl hb (w.heap.size) (by first | omega | (simp; done) | (simp; omega)); have hc := hk.1; have hf := hk.2.1; have hk := hk.2.2)); (try (have hk := bcl hb (w.heap.size + 1) (by first | omega | (simp; done) | (simp; omega)); have hc := hk.1; have hf := hk.2.1; have hk := hk.2.2))) | (go_at_call 74; (with_reducible refine (sideOf_eq b1 a1 c1 H2.out _).mono ?_); rintro e w1 ⟨rfl, hb⟩; have hz := hb.size; (try simp at hz); (try (have hk := bcl hb (w.heap.size) (by first | omega | (simp; done) | (simp; omega)); have hc := hk.1; have hf := hk.2.1; have hk := hk.2.2)); (try (have hk := bcl hb (w.heap.size + 1) (by first | omega | (simp; done) | (simp; omega)); have hc := hk.1; have hf := hk.2.1; have hk := hk.2.2))))
    go_ret
    exact ⟨by rw [HC.out]; rfl, by (repeat' (first | (with_reducible exact Below.refl _ _) | (with_reducible assumption) | (with_reducible refine Below.alloc ?_ ?_ _) | (with_reducible refine below_drewN ?_ _) | (with_reducible refine Below.drew ?_) | (with_reducible refine Below.setCell ?_ ?_ _) | (with_reducible refine below_call (by assumption) ?_ ?_) | (with_reducible refine below_grown (by assumption) ?_ ?_ ?_) | omega | (simp; done) | (simp; omega)))⟩

end Go.Proofs.Ytkbbbnlljenpeaa
