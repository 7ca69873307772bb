/-
  InsideAt, of the program and of the reference.
-/
import Derived.Test.YtkbbbnlljenpeaaWind
namespace Go.Proofs.Ytkbbbnlljenpeaa
open Go.RowKit Pl

set_option linter.unusedSimpArgs false
set_option linter.unusedVariables false

theorem tmod_two (n : Int) : (Int.tmod n 2 = 0) ↔ n % 2 = 0 :=
  ⟨fun h => Int.emod_eq_zero_of_dvd (Int.dvd_of_tmod_eq_zero h), fun h => Int.tmod_eq_zero_of_dvd (Int.dvd_of_emod_eq_zero h)⟩
theorem tmod_abs {n : Int} (h : 0 ≤ n) : Int.tmod n 2 = n % 2 := Int.tmod_eq_emod_of_nonneg h

set_option maxHeartbeats 400000 in
theorem isRule_eq {r : Int} {v : Bool} (hv : ruleB r = v) (w : World) : Calls Try.prog 47 #[.int .i64 r] w fun e w' => e = .returned (.bool v) ∧ w = w' := by
  subst hv
  by_cases h0 : r = 0
  · subst h0
    go_enter Try.func47, Try.ntmps47
    go_wp2
    go_ret
    exact ⟨rfl, rfl⟩
  · have e0 : decide (r = 0) = false := decide_eq_false h0
    have e1 : (r == 0) = false := by simp [h0]
    have HV : Hid (ruleB r = decide (r = 1)) := Lib.hid (by simp [ruleB, h0])
    go_enter Try.func47, Try.ntmps47
    go_wp2
    go_ret
    exact ⟨by rw [HV.out]; first | rfl | (refine ret_bool ?_; simp), rfl⟩

set_option maxHeartbeats 400000 in
theorem inside_eq {n r : Int} {v : Bool} (hv : insideB n r = v) (w : World) : Calls Try.prog 48 #[.int .i64 n, .int .i64 r] w fun e w' => e = .returned (.bool v) ∧ w = w' := by
  subst hv
  by_cases h1 : r = 1
  · subst h1
    obtain ⟨t, ht⟩ : ∃ t, Int.tmod n 2 = t := ⟨_, rfl⟩
    have h2 := tmod_two n
    rw [ht] at h2
    have HV : Hid (insideB n 1 = !decide (t = 0)) := Lib.hid (by
      rw [insideB, if_pos rfl, Bool.eq_iff_iff]
      simp only [decide_eq_true_eq, Bool.not_eq_true', decide_eq_false_iff_not, h2])
    clear h2
    go_enter Try.func48, Try.ntmps48
    go_wp2
    go_ret
    exact ⟨by rw [HV.out]; first | rfl | (refine ret_bool ?_; simp), rfl⟩
  · have e0 : decide (r = 1) = false := decide_eq_false h1
    have e1 : (r == 1) = false := by simp [h1]
    have HV : Hid (insideB n r = !decide (n = 0)) := Lib.hid (by simp [insideB, h1])
    go_enter Try.func48, Try.ntmps48
    go_wp2
    go_ret
    exact ⟨by rw [HV.out]; first | rfl | (refine ret_bool ?_; simp), rfl⟩

set_option maxHeartbeats 400000 in
theorem sinside_eq {n r : Int} {v : Bool} (h : -1000000 ≤ n ∧ n ≤ 1000000) (hv : insideB n r = v) (w : World) : Calls Try.prog 46 #[.int .i64 n, .int .i64 r] w fun e w' => e = .returned (.bool v) ∧ w = w' := by
  subst hv
  by_cases h1 : r = 1
  · subst h1
    obtain ⟨d, hd⟩ : ∃ d, absI n = d := ⟨_, rfl⟩
    have hd0 : 0 ≤ d := by rw [← hd, absI]; split <;> omega
    have HD := Lib.hid hd
    obtain ⟨t, ht⟩ : ∃ t, Int.tmod d 2 = t := ⟨_, rfl⟩
    have h2 := tmod_abs hd0
    rw [ht] at h2
    have HV : Hid (insideB n 1 = decide (t = 1)) := Lib.hid (by
      rw [insideB, if_pos rfl, Bool.eq_iff_iff]
      simp only [decide_eq_true_eq, h2, ← hd, absI]
      split <;> omega)
    clear h2 hd
    go_enter Try.func46, Try.ntmps46
    go_wp2_with ((go_at_call 68; (with_reducible refine (distance_eq (by omega) (by omega) HD.out _).mono ?_); rintro e w1 ⟨rfl, rfl⟩))
    go_ret
    exact ⟨by rw [HV.out]; first | rfl | (refine ret_bool ?_; simp), rfl⟩
  · have e0 : decide (r = 1) = false := decide_eq_false h1
    have e1 : (r == 1) = false := by simp [h1]
    have HV : Hid (insideB n r = !decide (n = 0)) := Lib.hid (by simp [insideB, h1])
    go_enter Try.func46, Try.ntmps46
    go_wp2
    go_ret
    exact ⟨by rw [HV.out]; first | rfl | (refine ret_bool ?_; simp), rfl⟩

set_option maxHeartbeats 2000000 in
theorem InsideAt_eq {A : Option Addr} {n : Nat} {L : List (List Pt)} {w : World} {r u h : Int} {v : Bool} (c : Nat) (hp0 : IsRs w A n L) (hsz : sizeR L ≤ 1048576) (hv : insideR L r u h = v) :
    Calls Try.prog 23 #[.slice A n c, .int .i64 r, .int .i64 u, .int .i64 h] w fun e w' => e = .returned (.bool v) ∧ Below w.heap.size w w' := by
  subst hv
  have HP := Lib.hid hp0
  obtain ⟨ok, hok⟩ : ∃ ok, ringsOk L = ok := ⟨_, rfl⟩
  have HOK := Lib.hid hok
  obtain ⟨b0, hb0⟩ : ∃ b, ruleB r = b := ⟨_, rfl⟩
  obtain ⟨b1, hb1⟩ : ∃ b, inB u (-1000) 1000 = b := ⟨_, rfl⟩
  obtain ⟨b2, hb2⟩ : ∃ b, inB h (-1000) 1000 = b := ⟨_, rfl⟩
  have H0 := Lib.hid hb0
  have H1 := Lib.hid hb1
  have H2 := Lib.hid hb2
  obtain ⟨z, hz⟩ : ∃ z, windN L u h = z := ⟨_, rfl⟩
  have HZ := Lib.hid hz
  obtain ⟨q, hq⟩ : ∃ q, insideB z r = q := ⟨_, rfl⟩
  have HQ := Lib.hid hq
  have HB : Hid (ptB (u, h) = (b1 && b2)) := Lib.hid (by rw [ptB_and, hb1, hb2])
  have hvv : insideR L r u h = (ok && (b0 && ((b1 && b2) && q))) := by rw [insideR, hok, hb0, ptB_and, hb1, hb2, hz, hq]
  have HV := Lib.hid hvv
  clear hp0 hok hb0 hb1 hb2 hz hq hvv
  cases ok <;> cases b0 <;> cases b1 <;> cases b2
  all_goals
    simp only [Bool.false_and, Bool.true_and, Bool.and_false, Bool.and_self] at HV
    go_enter Try.func23, Try.ntmps23
    go_wp2_with (first | (go_at_call 14; (with_reducible refine (ValidRings_eq c HP.out hsz HOK.out).mono ?_); rintro e w1 ⟨rfl, hb⟩; have hz := hb.size; (try simp at hz)) | (go_at_call 47; (with_reducible refine (isRule_eq H0.out _).mono ?_); rintro e w1 ⟨rfl, rfl⟩) | (go_at_call 39; (with_reducible refine (isUnit_eq H1.out _).mono ?_); rintro e w1 ⟨rfl, rfl⟩) | (go_at_call 39; (with_reducible refine (isUnit_eq H2.out _).mono ?_); rintro e w1 ⟨rfl, rfl⟩) | (go_at_call 40; (with_reducible refine (winding_eq c (HP.out.below (by (repeat' (first | (with_reducible exact Below.refl _ _) | (with_reducible assumption) | (with_reducible refine Below.alloc ?_ ?_ _) | (with_reducible refine below_drewN ?_ _) | (with_reducible refine Below.drew ?_) | (with_reducible refine Below.setCell ?_ ?_ _) | (with_reducible refine below_call (by assumption) ?_ ?_) | (with_reducible refine below_grown (by assumption) ?_ ?_ ?_) | omega | (simp; done) | (simp; omega))))) hsz HOK.out (ptB_true.1 HB.out) HZ.out).mono ?_); rintro e w1 ⟨rfl, hb⟩; have hz := hb.size; (try simp at hz)) | (go_at_call 48; (with_reducible refine (inside_eq HQ.out _).mono ?_); rintro e w1 ⟨rfl, rfl⟩))
    go_ret
    exact ⟨by rw [HV.out]; rfl, by (repeat' (first | (with_reducible exact Below.refl _ _) | (with_reducible assumption) | (with_reducible refine Below.alloc ?_ ?_ _) | (with_reducible refine below_drewN ?_ _) | (with_reducible refine Below.drew ?_) | (with_reducible refine Below.setCell ?_ ?_ _) | (with_reducible refine below_call (by assumption) ?_ ?_) | (with_reducible refine below_grown (by assumption) ?_ ?_ ?_) | omega | (simp; done) | (simp; omega)))⟩

set_option maxHeartbeats 2000000 in
theorem sInsideAt_eq {A : Option Addr} {n : Nat} {L : List (List Pt)} {w : World} {r u h : Int} {v : Bool} (c : Nat) (hp0 : IsRs w A n L) (hsz : sizeR L ≤ 1048576) (hv : insideR L r u h = v) :
    Calls Try.prog 22 #[.slice A n c, .int .i64 r, .int .i64 u, .int .i64 h] w fun e w' => e = .returned (.bool v) ∧ Below w.heap.size w w' := by
  subst hv
  have HP := Lib.hid hp0
  obtain ⟨ok, hok⟩ : ∃ ok, ringsOk L = ok := ⟨_, rfl⟩
  have HOK := Lib.hid hok
  obtain ⟨b0, hb0⟩ : ∃ b, ruleB r = b := ⟨_, rfl⟩
  obtain ⟨b1, hb1⟩ : ∃ b, ptB (u, h) = b := ⟨_, rfl⟩
  have H0 : Hid (inB r 0 1 = b0) := Lib.hid (by rw [← hb0, inB, ruleB]; exact decide_eq_decide.2 (by omega))
  have H1 := Lib.hid hb1
  obtain ⟨z, hz⟩ : ∃ z, windN L u h = z := ⟨_, rfl⟩
  have HZ := Lib.hid hz
  have hz2 : ok = true → (-1000000 ≤ z ∧ z ≤ 1000000) := fun e => by have := wind_small (hok.trans e) u h; omega
  have HZ2 := Lib.hid hz2
  obtain ⟨q, hq⟩ : ∃ q, insideB z r = q := ⟨_, rfl⟩
  have HQ := Lib.hid hq
  have hvv : insideR L r u h = (ok && (b0 && (b1 && q))) := by rw [insideR, hok, hb0, hb1, hz, hq]
  have HV := Lib.hid hvv
  clear hp0 hok hb0 hb1 hz hq hvv hz2
  cases ok <;> cases b0 <;> cases b1
  case true.true.true =>
    simp only [Bool.and_self, Bool.true_and] at HV
    have hpt := ptB_true.1 H1.out
    have hzz := HZ2.out rfl
    go_enter Try.func22, Try.ntmps22
    go_wp2_with fail
    refine (validRings_eq c HP.out hsz HOK.out).mono ?_
    rintro e w1 ⟨rfl, hw1⟩
    have hz1 := hw1.size
    go_wp2_with fail
    refine (validPoint_eq H1.out _).mono ?_
    rintro e w2 ⟨rfl, hw2⟩
    have hz2 := hw2.size
    go_wp2_with fail
    refine (inRange_eq H0.out _).mono ?_
    rintro e w3 ⟨rfl, rfl⟩
    go_wp2_with fail
    refine (swinding_eq c (HP.out.below (by (repeat' (first | (with_reducible exact Below.refl _ _) | (with_reducible assumption) | (with_reducible refine Below.alloc ?_ ?_ _) | (with_reducible refine below_drewN ?_ _) | (with_reducible refine Below.drew ?_) | (with_reducible refine Below.setCell ?_ ?_ _) | (with_reducible refine below_call (by assumption) ?_ ?_) | (with_reducible refine below_grown (by assumption) ?_ ?_ ?_) | omega | (simp; done) | (simp; omega))))) HOK.out hpt HZ.out).mono ?_
    rintro e w4 ⟨rfl, hw4⟩
    have hz4 := hw4.size
    go_wp2_with fail
    refine (sinside_eq hzz HQ.out _).mono ?_
    rintro e w5 ⟨rfl, rfl⟩
    go_wp2
    go_ret
    exact ⟨by rw [HV.out]; rfl, by (repeat' (first | (with_reducible exact Below.refl _ _) | (with_reducible assumption) | (with_reducible refine Below.alloc ?_ ?_ _) | (with_reducible refine below_drewN ?_ _) | (with_reducible refine Below.drew ?_) | (with_reducible refine Below.setCell ?_ ?_ _) | (with_reducible refine below_call (by assumption) ?_ ?_) | (with_reducible refine below_grown (by assumption) ?_ ?_ ?_) | omega | (simp; done) | (simp; omega)))⟩
  all_goals
    simp only [Bool.false_and, Bool.true_and, Bool.and_false, Bool.and_self] at HV
    go_enter Try.func22, Try.ntmps22
    go_wp2_with (first | (go_at_call 34; (with_reducible refine (validRings_eq c HP.out hsz HOK.out).mono ?_); rintro e w1 ⟨rfl, hb⟩; have hz := hb.size; (try simp at hz)) | (go_at_call 41; (with_reducible refine (inRange_eq H0.out _).mono ?_); rintro e w1 ⟨rfl, rfl⟩) | (go_at_call 37; (with_reducible refine (validPoint_eq H1.out _).mono ?_); rintro e w1 ⟨rfl, hb⟩; have hz := hb.size; (try simp at hz)))
    go_ret
    exact ⟨by rw [HV.out]; rfl, by (repeat' (first | (with_reducible exact Below.refl _ _) | (with_reducible assumption) | (with_reducible refine Below.alloc ?_ ?_ _) | (with_reducible refine below_drewN ?_ _) | (with_reducible refine Below.drew ?_) | (with_reducible refine Below.setCell ?_ ?_ _) | (with_reducible refine below_call (by assumption) ?_ ?_) | (with_reducible refine below_grown (by assumption) ?_ ?_ ?_) | omega | (simp; done) | (simp; omega)))⟩

end Go.Proofs.Ytkbbbnlljenpeaa
