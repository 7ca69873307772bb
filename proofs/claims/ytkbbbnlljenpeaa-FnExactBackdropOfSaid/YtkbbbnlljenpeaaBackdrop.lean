/-
  BackdropOf, of the program and of the reference.
-/
import Derived.Test.YtkbbbnlljenpeaaWind
namespace Go.Proofs.Ytkbbbnlljenpeaa
open Go.RowKit Pl

set_option linter.unusedSimpArgs false
set_option linter.unusedVariables false

set_option maxHeartbeats 400000 in
theorem isRow_eq {r : Int} {v : Bool} (hv : inB r 0 47 = v) (w : World) : Calls Try.prog 44 #[.int .i64 r] w fun e w' => e = .returned (.bool v) ∧ w = w' := by
  have HV := Lib.hid hv
  clear hv
  go_enter Try.func44, Try.ntmps44
  go_wp2_with ((go_at_call 43; (with_reducible refine (in_eq HV.out _).mono ?_); rintro e w1 ⟨rfl, rfl⟩))
  go_ret
  exact ⟨rfl, rfl⟩

set_option maxHeartbeats 400000 in
theorem sampleAt_eq {r y : Int} (h : 0 ≤ r ∧ r ≤ 47) (hy : 4 * r + 2 = y) (w : World) : Calls Try.prog 45 #[.int .i64 r] w fun e w' => e = .returned (.int .i64 y) ∧ w = w' := by
  subst hy
  go_enter Try.func45, Try.ntmps45
  go_wp2
  go_ret
  exact ⟨by first | rfl | (refine ret_int ?_; omega), rfl⟩

set_option maxHeartbeats 400000 in
theorem backdrop_eq {A : Option Addr} {n : Nat} {L : List (List Pt)} {w : World} {k y v : Int} (c : Nat) (hp0 : IsRs w A n L) (hok : ringsOk L = true) (hk : 0 ≤ k ∧ k ≤ 12) (hy : 0 ≤ y ∧ y ≤ 1000) (hv : windN L (16 * k - 1) y = v) :
    Calls Try.prog 42 #[.slice A n c, .int .i64 k, .int .i64 y] w fun e w' => e = .returned (.int .i64 v) ∧ Below w.heap.size w w' := by
  have HP := Lib.hid hp0
  have HV := Lib.hid hv
  clear hp0 hv
  go_enter Try.func42, Try.ntmps42
  go_wp2_with fail
  refine (swinding_eq c HP.out hok (by omega) HV.out).mono ?_
  rintro e w1 ⟨rfl, hb⟩
  go_wp2
  go_ret
  exact ⟨rfl, by (repeat' (first | (with_reducible exact Below.refl _ _) | (with_reducible assumption) | (with_reducible refine Below.alloc ?_ ?_ _) | (with_reducible refine below_drewN ?_ _) | (with_reducible refine Below.drew ?_) | (with_reducible refine Below.setCell ?_ ?_ _) | (with_reducible refine below_call (by assumption) ?_ ?_) | (with_reducible refine below_grown (by assumption) ?_ ?_ ?_) | omega | (simp; done) | (simp; omega)))⟩

set_option maxHeartbeats 2000000 in
theorem BackdropOf_eq {A : Option Addr} {n : Nat} {L : List (List Pt)} {w : World} {k r v : Int} (c : Nat) (hp0 : IsRs w A n L) (hsz : sizeR L ≤ 1048576) (hv : backR L k r = v) :
    Calls Try.prog 21 #[.slice A n c, .int .i64 k, .int .i64 r] w fun e w' => e = .returned (.int .i64 v) ∧ Below w.heap.size w w' := by
  subst hv
  have HP := Lib.hid hp0
  obtain ⟨ok, hok⟩ : ∃ ok, ringsOk L = ok := ⟨_, rfl⟩
  have HOK := Lib.hid hok
  obtain ⟨b1, hb1⟩ : ∃ b, inB k 0 12 = b := ⟨_, rfl⟩
  obtain ⟨b2, hb2⟩ : ∃ b, inB r 0 47 = b := ⟨_, rfl⟩
  have H1 := Lib.hid hb1
  have H2 := Lib.hid hb2
  obtain ⟨y, hy⟩ : ∃ y, 4 * r + 2 = y := ⟨_, rfl⟩
  obtain ⟨z, hz⟩ : ∃ z, windN L (16 * k - 1) y = z := ⟨_, rfl⟩
  have HZ := Lib.hid hz
  have hvv : backR L k r = (if (ok && (b1 && b2)) = true then z else 0) := by rw [backR, hok, hb1, hb2, hy, hz]
  have HV := Lib.hid hvv
  have HY := Lib.hid hy
  clear hp0 hok hb1 hb2 hz hvv hy
  cases ok <;> cases b1 <;> cases b2
  case true.true.true =>
    simp only [Bool.and_self, if_true] at HV
    have hk := inB_true.1 H1.out
    have hr := inB_true.1 H2.out
    have hy := HY.out
    have hpt : -1000 ≤ 16 * k - 1 ∧ 16 * k - 1 ≤ 1000 ∧ -1000 ≤ y ∧ y ≤ 1000 := by omega
    clear hy
    go_enter Try.func21, Try.ntmps21
    go_wp2_with (first | (go_at_call 14; (with_reducible refine (ValidRings_eq c HP.out hsz HOK.out).mono ?_); rintro e w1 ⟨rfl, hb⟩; have hz := hb.size; (try simp at hz)) | (go_at_call 43; (with_reducible refine (in_eq H1.out _).mono ?_); rintro e w1 ⟨rfl, rfl⟩) | (go_at_call 44; (with_reducible refine (isRow_eq H2.out _).mono ?_); rintro e w1 ⟨rfl, rfl⟩) | (go_at_call 45; (with_reducible refine (sampleAt_eq hr HY.out _).mono ?_); rintro e w1 ⟨rfl, rfl⟩) | (go_at_call 40; (with_reducible refine (winding_eq c (HP.out.below (by (repeat' (first | (with_reducible exact Below.refl _ _) | (with_reducible assumption) | (with_reducible refine Below.alloc ?_ ?_ _) | (with_reducible refine below_drewN ?_ _) | (with_reducible refine Below.drew ?_) | (with_reducible refine Below.setCell ?_ ?_ _) | (with_reducible refine below_call (by assumption) ?_ ?_) | (with_reducible refine below_grown (by assumption) ?_ ?_ ?_) | omega | (simp; done) | (simp; omega))))) hsz HOK.out hpt HZ.out).mono ?_); rintro e w1 ⟨rfl, hb⟩; have hz := hb.size; (try simp at hz)))
    go_ret
    exact ⟨by rw [HV.out]; rfl, by (repeat' (first | (with_reducible exact Below.refl _ _) | (with_reducible assumption) | (with_reducible refine Below.alloc ?_ ?_ _) | (with_reducible refine below_drewN ?_ _) | (with_reducible refine Below.drew ?_) | (with_reducible refine Below.setCell ?_ ?_ _) | (with_reducible refine below_call (by assumption) ?_ ?_) | (with_reducible refine below_grown (by assumption) ?_ ?_ ?_) | omega | (simp; done) | (simp; omega)))⟩
  all_goals
    simp only [Bool.and_false, Bool.false_and, Bool.true_and, Bool.and_self, Bool.false_eq_true, if_false] at HV
    go_enter Try.func21, Try.ntmps21
    go_wp2_with (first | (go_at_call 14; (with_reducible refine (ValidRings_eq c HP.out hsz HOK.out).mono ?_); rintro e w1 ⟨rfl, hb⟩; have hz := hb.size; (try simp at hz)) | (go_at_call 43; (with_reducible refine (in_eq H1.out _).mono ?_); rintro e w1 ⟨rfl, rfl⟩) | (go_at_call 44; (with_reducible refine (isRow_eq H2.out _).mono ?_); rintro e w1 ⟨rfl, rfl⟩))
    go_ret
    exact ⟨by rw [HV.out]; rfl, by (repeat' (first | (with_reducible exact Below.refl _ _) | (with_reducible assumption) | (with_reducible refine Below.alloc ?_ ?_ _) | (with_reducible refine below_drewN ?_ _) | (with_reducible refine Below.drew ?_) | (with_reducible refine Below.setCell ?_ ?_ _) | (with_reducible refine below_call (by assumption) ?_ ?_) | (with_reducible refine below_grown (by assumption) ?_ ?_ ?_) | omega | (simp; done) | (simp; omega)))⟩

set_option maxHeartbeats 2000000 in
theorem sBackdropOf_eq {A : Option Addr} {n : Nat} {L : List (List Pt)} {w : World} {k r v : Int} (c : Nat) (hp0 : IsRs w A n L) (hsz : sizeR L ≤ 1048576) (hv : backR L k r = v) :
    Calls Try.prog 20 #[.slice A n c, .int .i64 k, .int .i64 r] w fun e w' => e = .returned (.int .i64 v) ∧ Below w.heap.size w w' := by
  subst hv
  have HP := Lib.hid hp0
  obtain ⟨ok, hok⟩ : ∃ ok, ringsOk L = ok := ⟨_, rfl⟩
  have HOK := Lib.hid hok
  obtain ⟨b1, hb1⟩ : ∃ b, inB k 0 12 = b := ⟨_, rfl⟩
  obtain ⟨b2, hb2⟩ : ∃ b, inB r 0 47 = b := ⟨_, rfl⟩
  have H1 := Lib.hid hb1
  have H2 := Lib.hid hb2
  obtain ⟨z, hz⟩ : ∃ z, windN L (16 * k - 1) (4 * r + 2) = z := ⟨_, rfl⟩
  have HZ := Lib.hid hz
  have hvv : backR L k r = (if (ok && (b1 && b2)) = true then z else 0) := by rw [backR, hok, hb1, hb2, hz]
  have HV := Lib.hid hvv
  clear hp0 hok hb1 hb2 hz hvv
  cases ok <;> cases b1 <;> cases b2
  case true.true.true =>
    simp only [Bool.and_self, if_true] at HV
    have hk := inB_true.1 H1.out
    have hr := inB_true.1 H2.out
    have hy : 0 ≤ 4 * r + 2 ∧ 4 * r + 2 ≤ 1000 := by omega
    go_enter Try.func20, Try.ntmps20
    go_wp2_with (first | (go_at_call 34; (with_reducible refine (validRings_eq c HP.out hsz HOK.out).mono ?_); rintro e w1 ⟨rfl, hb⟩; have hz := hb.size; (try simp at hz)) | (go_at_call 41; (with_reducible refine (inRange_eq H1.out _).mono ?_); rintro e w1 ⟨rfl, rfl⟩) | (go_at_call 41; (with_reducible refine (inRange_eq H2.out _).mono ?_); rintro e w1 ⟨rfl, rfl⟩) | (go_at_call 42; (with_reducible refine (backdrop_eq c (HP.out.below (by (repeat' (first | (with_reducible exact Below.refl _ _) | (with_reducible assumption) | (with_reducible refine Below.alloc ?_ ?_ _) | (with_reducible refine below_drewN ?_ _) | (with_reducible refine Below.drew ?_) | (with_reducible refine Below.setCell ?_ ?_ _) | (with_reducible refine below_call (by assumption) ?_ ?_) | (with_reducible refine below_grown (by assumption) ?_ ?_ ?_) | omega | (simp; done) | (simp; omega))))) HOK.out hk hy HZ.out).mono ?_); rintro e w1 ⟨rfl, hb⟩; have hz := hb.size; (try simp at hz)))
    go_ret
    exact ⟨by rw [HV.out]; rfl, by (repeat' (first | (with_reducible exact Below.refl _ _) | (with_reducible assumption) | (with_reducible refine Below.alloc ?_ ?_ _) | (with_reducible refine below_drewN ?_ _) | (with_reducible refine Below.drew ?_) | (with_reducible refine Below.setCell ?_ ?_ _) | (with_reducible refine below_call (by assumption) ?_ ?_) | (with_reducible refine below_grown (by assumption) ?_ ?_ ?_) | omega | (simp; done) | (simp; omega)))⟩
  all_goals
    simp only [Bool.and_false, Bool.false_and, Bool.true_and, Bool.and_self, Bool.false_eq_true, if_false] at HV
    go_enter Try.func20, Try.ntmps20
    go_wp2_with (first | (go_at_call 34; (with_reducible refine (validRings_eq c HP.out hsz HOK.out).mono ?_); rintro e w1 ⟨rfl, hb⟩; have hz := hb.size; (try simp at hz)) | (go_at_call 41; (with_reducible refine (inRange_eq H1.out _).mono ?_); rintro e w1 ⟨rfl, rfl⟩) | (go_at_call 41; (with_reducible refine (inRange_eq H2.out _).mono ?_); rintro e w1 ⟨rfl, rfl⟩))
    go_ret
    exact ⟨by rw [HV.out]; rfl, by (repeat' (first | (with_reducible exact Below.refl _ _) | (with_reducible assumption) | (with_reducible refine Below.alloc ?_ ?_ _) | (with_reducible refine below_drewN ?_ _) | (with_reducible refine Below.drew ?_) | (with_reducible refine Below.setCell ?_ ?_ _) | (with_reducible refine below_call (by assumption) ?_ ?_) | (with_reducible refine below_grown (by assumption) ?_ ?_ ?_) | omega | (simp; done) | (simp; omega)))⟩

end Go.Proofs.Ytkbbbnlljenpeaa
