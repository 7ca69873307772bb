/-
  ValidPath of the reference.
-/
import Derived.Test.YtiocgklfkckomaaPath
namespace Go.Proofs.Ytiocgklfkckomaa
open Go.RowKit Pl

set_option linter.unusedSimpArgs false
set_option linter.unusedVariables false

set_option maxRecDepth 100000 in
set_option maxHeartbeats 16000000 in
theorem sValidPath_loop {A : Option Addr} {n : Nat} {L : List Vb} {w : World} {v : Bool} (c : Nat) (h : IsVbs w A n L) (hsz : sizeV L ≤ 1048576) (hv : pathB L = v) :
    Calls Try.prog 33 #[.slice A n c] w fun e w' => e = .returned (.bool v) ∧ Below w.heap.size w w' := by
  have hS : n + pointsV L L.length ≤ 1048576 := by rw [sizeV, h.1] at hsz; rw [h.1]; exact hsz
  have HP := Lib.hid h
  have HL := Lib.hid h.1
  have HV := Lib.hid hv
  clear h hsz hv
  go_enter Try.func33, Try.ntmps33
  go_wp2
  go_loopw [3, 4] (fun vp vi wr => ∃ k : Nat, k ≤ n ∧ vi = .int .i64 k ∧ vp = .int .i64 (pointsV L k : Nat) ∧ verbsOk L k = true ∧ Below w.heap.size w wr) (fun _ vi _ => n - (intOf vi).toNat)
  case atStart => exact ⟨0, by omega, rfl, rfl, rfl, by (repeat' (first | (with_reducible exact Below.refl _ _) | (with_reducible assumption) | (with_reducible refine Below.alloc ?_ ?_ _) | (with_reducible refine below_drewN ?_ _) | (with_reducible refine Below.drew ?_) | (with_reducible refine Below.setCell ?_ ?_ _) | (with_reducible refine below_call (by assumption) ?_ ?_) | (with_reducible refine below_grown (by assumption) ?_ ?_ ?_) | omega | (simp; done) | (simp; omega)))⟩
  case round =>
    obtain ⟨k, hk, rfl, rfl, hvo, hbel⟩ := hrel
    obtain ⟨wo, rfl⟩ : ∃ wo : World, wo = wr := ⟨_, rfl⟩
    have hso := hbel.size
    have HVO := Lib.hid hvo
    clear hvo
    by_cases hlt : k < n
    · have eb : decide ((k : Int) < n) = true := by simp; omega
      have hki : (k : Int) < n := by omega
      obtain ⟨b, o, kd, r, B, cr, rfl, hbl, hr, x0, x1, _, _, hp⟩ := (HP.out.below hbel).at_ hlt
      obtain ⟨m, hm⟩ : ∃ m, r.length = m := ⟨_, rfl⟩
      have hst : pointsV L (k + 1) = pointsV L k + m := by simp only [pointsV, vb_at hr, hm]
      have hle := pointsV_le' (L := L) (k := k + 1) (n := L.length) (by rw [HL.out]; omega)
      obtain ⟨pz, hpz⟩ : ∃ z, pointsV L k = z := ⟨_, rfl⟩
      rw [hpz] at hst ⊢
      have hm12 : m ≤ 1000000000000 := by omega
      have hpm : pz + m ≤ 1048576 := by omega
      rw [hm] at x1 hp
      have HR := Lib.hid hr
      have HM := Lib.hid hm
      have HQ := Lib.hid hp
      have HST := Lib.hid hst
      obtain ⟨u, hu⟩ : ∃ u, validL r = u := ⟨_, rfl⟩
      have HU := Lib.hid hu
      clear hr hm hp hst hu hle hpz
      by_cases hd0 : kd = 0
      · subst hd0
        by_cases hmm : m = 1
        · subst hmm
          have HN : Hid (pointsV L (k + 1) = pz + 1) := HST
          cases u with
          | false =>
            have HOK : Hid (verbOk L k = false) := Lib.hid (by rw [verbOk_eq HR.out HM.out HU.out rfl]; simp)
            have hv1 : v = false := by rw [← HV.out]; exact path_not (n := k) (by rw [HL.out]; exact hlt) HOK.out
            subst hv1
            go_wp2_with fail
            refine (validPoints_eq cr (HQ.out.below (by (repeat' (first | (with_reducible exact Below.refl _ _) | (with_reducible assumption) | (with_reducible refine Below.alloc ?_ ?_ _) | (with_reducible refine below_drewN ?_ _) | (with_reducible refine Below.drew ?_) | (with_reducible refine Below.setCell ?_ ?_ _) | (with_reducible refine below_call (by assumption) ?_ ?_) | (with_reducible refine below_grown (by assumption) ?_ ?_ ?_) | omega | (simp; done) | (simp; omega))))) hm12 HU.out).mono ?_
            rintro e w7 ⟨rfl, hb7⟩
            have hb8 : Below wo.heap.size wo w7 := by (repeat' (first | (with_reducible exact Below.refl _ _) | (with_reducible assumption) | (with_reducible refine Below.alloc ?_ ?_ _) | (with_reducible refine below_drewN ?_ _) | (with_reducible refine Below.drew ?_) | (with_reducible refine Below.setCell ?_ ?_ _) | (with_reducible refine below_call (by assumption) ?_ ?_) | (with_reducible refine below_grown (by assumption) ?_ ?_ ?_) | omega | (simp; done) | (simp; omega)))
            have hz7 := hb8.size
            have hbl7 : b < w7.heap.size := by omega
            have y0 : w7.cell? ⟨b, o + k * 2, none⟩ = some (.int .i64 0) := (hb8.cell (p := ⟨b, o + k * 2, none⟩) hbl).trans x0
            clear x0 x1
            go_wp2
            go_ret
            exact ⟨rfl, by (repeat' (first | (with_reducible exact Below.refl _ _) | (with_reducible assumption) | (with_reducible refine Below.alloc ?_ ?_ _) | (with_reducible refine below_drewN ?_ _) | (with_reducible refine Below.drew ?_) | (with_reducible refine Below.setCell ?_ ?_ _) | (with_reducible refine below_call (by assumption) ?_ ?_) | (with_reducible refine below_grown (by assumption) ?_ ?_ ?_) | omega | (simp; done) | (simp; omega)))⟩
          | true =>
            by_cases hk0 : k = 0
            · subst hk0
              have HOK : Hid (verbOk L 0 = true) := Lib.hid (by rw [verbOk_eq HR.out HM.out HU.out (bg := true) (by simp)]; rfl)
              simp only [Nat.zero_mul, Nat.add_zero] at x0 x1
              go_wp2_with fail
              refine (validPoints_eq cr (HQ.out.below (by (repeat' (first | (with_reducible exact Below.refl _ _) | (with_reducible assumption) | (with_reducible refine Below.alloc ?_ ?_ _) | (with_reducible refine below_drewN ?_ _) | (with_reducible refine Below.drew ?_) | (with_reducible refine Below.setCell ?_ ?_ _) | (with_reducible refine below_call (by assumption) ?_ ?_) | (with_reducible refine below_grown (by assumption) ?_ ?_ ?_) | omega | (simp; done) | (simp; omega))))) hm12 HU.out).mono ?_
              rintro e w7 ⟨rfl, hb7⟩
              have hb8 : Below wo.heap.size wo w7 := by (repeat' (first | (with_reducible exact Below.refl _ _) | (with_reducible assumption) | (with_reducible refine Below.alloc ?_ ?_ _) | (with_reducible refine below_drewN ?_ _) | (with_reducible refine Below.drew ?_) | (with_reducible refine Below.setCell ?_ ?_ _) | (with_reducible refine below_call (by assumption) ?_ ?_) | (with_reducible refine below_grown (by assumption) ?_ ?_ ?_) | omega | (simp; done) | (simp; omega)))
              have hz7 := hb8.size
              have hbl7 : b < w7.heap.size := by omega
              have y0 : w7.cell? ⟨b, o, none⟩ = some (.int .i64 0) := (hb8.cell (p := ⟨b, o, none⟩) hbl).trans x0
              clear x0 x1
              go_wp2
              go_roundw
              case rel => exact ⟨0 + 1, by omega, by go_num, by rw [HST.out, Int.natCast_add]; rfl, by simp only [verbsOk, HVO.out, HOK.out, Bool.and_self], by (repeat' (first | (with_reducible exact Below.refl _ _) | (with_reducible assumption) | (with_reducible refine Below.alloc ?_ ?_ _) | (with_reducible refine below_drewN ?_ _) | (with_reducible refine Below.drew ?_) | (with_reducible refine Below.setCell ?_ ?_ _) | (with_reducible refine below_call (by assumption) ?_ ?_) | (with_reducible refine below_grown (by assumption) ?_ ?_ ?_) | omega | (simp; done) | (simp; omega)))⟩
              case measure => simp [intOf]; omega
            · have ek : decide ((k : Int) = 0) = false := decide_eq_false (by omega)
              have ek2 : ((k : Int) == 0) = false := by simp; omega
              have ek3 : decide (k = 0) = false := decide_eq_false hk0
              have ek4 : (k == 0) = false := by simp [hk0]
              have ek5 : ¬ (k : Int) = 0 := by omega
              have ek6 : decide ((0 : Int) < k) = true := decide_eq_true (by omega)
              have ek7 : 0 < k := by omega
              have ek8 : (0 : Int) < k := by omega
              obtain ⟨k1, hk1⟩ : ∃ j, k = j + 1 := ⟨k - 1, by omega⟩
              have hk1n : k1 < n := by omega
              have hk1i : (k1 : Int) < n := by omega
              have ekk : (k : Int) - 1 = (k1 : Int) := by omega
              obtain ⟨b', o', pk, r', B', cr', e0, _, hr', z0, _⟩ := (HP.out.below hbel).at_ hk1n
              cases e0
              have hvb : (vb L (k - 1)).1 = pk := by rw [show k - 1 = k1 by omega, vb_at hr']
              have HK1 := Lib.hid hk1
              clear hr' hk1
              by_cases hp4 : pk = 4
              · have HOK : Hid (verbOk L k = true) := Lib.hid (by rw [verbOk_eq HR.out HM.out HU.out (bg := true) (by rw [hvb]; simp [hp4])]; rfl)
                clear hvb
                subst hp4
                go_wp2_with fail
                refine (validPoints_eq cr (HQ.out.below (by (repeat' (first | (with_reducible exact Below.refl _ _) | (with_reducible assumption) | (with_reducible refine Below.alloc ?_ ?_ _) | (with_reducible refine below_drewN ?_ _) | (with_reducible refine Below.drew ?_) | (with_reducible refine Below.setCell ?_ ?_ _) | (with_reducible refine below_call (by assumption) ?_ ?_) | (with_reducible refine below_grown (by assumption) ?_ ?_ ?_) | omega | (simp; done) | (simp; omega))))) hm12 HU.out).mono ?_
                rintro e w7 ⟨rfl, hb7⟩
                have hb8 : Below wo.heap.size wo w7 := by (repeat' (first | (with_reducible exact Below.refl _ _) | (with_reducible assumption) | (with_reducible refine Below.alloc ?_ ?_ _) | (with_reducible refine below_drewN ?_ _) | (with_reducible refine Below.drew ?_) | (with_reducible refine Below.setCell ?_ ?_ _) | (with_reducible refine below_call (by assumption) ?_ ?_) | (with_reducible refine below_grown (by assumption) ?_ ?_ ?_) | omega | (simp; done) | (simp; omega)))
                have hz7 := hb8.size
                have hbl7 : b < w7.heap.size := by omega
                have y0 : w7.cell? ⟨b, o + k * 2, none⟩ = some (.int .i64 0) := (hb8.cell (p := ⟨b, o + k * 2, none⟩) hbl).trans x0
                clear x0 x1
                have y1 : w7.cell? ⟨b, o + k1 * 2, none⟩ = some (.int .i64 4) := (hb8.cell (p := ⟨b, o + k1 * 2, none⟩) hbl).trans z0
                clear z0
                go_wp2
                go_roundw
                case rel => exact ⟨k + 1, by omega, by go_num, by rw [HST.out, Int.natCast_add]; rfl, by simp only [verbsOk, HVO.out, HOK.out, Bool.and_self], by (repeat' (first | (with_reducible exact Below.refl _ _) | (with_reducible assumption) | (with_reducible refine Below.alloc ?_ ?_ _) | (with_reducible refine below_drewN ?_ _) | (with_reducible refine Below.drew ?_) | (with_reducible refine Below.setCell ?_ ?_ _) | (with_reducible refine below_call (by assumption) ?_ ?_) | (with_reducible refine below_grown (by assumption) ?_ ?_ ?_) | omega | (simp; done) | (simp; omega)))⟩
                case measure => simp [intOf]; omega
              · have HOK : Hid (verbOk L k = true) := Lib.hid (by rw [verbOk_eq HR.out HM.out HU.out (bg := false) (by rw [hvb]; simp [hp4, hk0])]; rfl)
                clear hvb
                have ep : decide (pk = 4) = false := decide_eq_false hp4
                have ep2 : (pk == 4) = false := by simp [hp4]
                go_wp2_with fail
                refine (validPoints_eq cr (HQ.out.below (by (repeat' (first | (with_reducible exact Below.refl _ _) | (with_reducible assumption) | (with_reducible refine Below.alloc ?_ ?_ _) | (with_reducible refine below_drewN ?_ _) | (with_reducible refine Below.drew ?_) | (with_reducible refine Below.setCell ?_ ?_ _) | (with_reducible refine below_call (by assumption) ?_ ?_) | (with_reducible refine below_grown (by assumption) ?_ ?_ ?_) | omega | (simp; done) | (simp; omega))))) hm12 HU.out).mono ?_
                rintro e w7 ⟨rfl, hb7⟩
                have hb8 : Below wo.heap.size wo w7 := by (repeat' (first | (with_reducible exact Below.refl _ _) | (with_reducible assumption) | (with_reducible refine Below.alloc ?_ ?_ _) | (with_reducible refine below_drewN ?_ _) | (with_reducible refine Below.drew ?_) | (with_reducible refine Below.setCell ?_ ?_ _) | (with_reducible refine below_call (by assumption) ?_ ?_) | (with_reducible refine below_grown (by assumption) ?_ ?_ ?_) | omega | (simp; done) | (simp; omega)))
                have hz7 := hb8.size
                have hbl7 : b < w7.heap.size := by omega
                have y0 : w7.cell? ⟨b, o + k * 2, none⟩ = some (.int .i64 0) := (hb8.cell (p := ⟨b, o + k * 2, none⟩) hbl).trans x0
                clear x0 x1
                have y1 : w7.cell? ⟨b, o + k1 * 2, none⟩ = some (.int .i64 pk) := (hb8.cell (p := ⟨b, o + k1 * 2, none⟩) hbl).trans z0
                clear z0
                go_wp2
                go_roundw
                case rel => exact ⟨k + 1, by omega, by go_num, by rw [HST.out, Int.natCast_add]; rfl, by simp only [verbsOk, HVO.out, HOK.out, Bool.and_self], by (repeat' (first | (with_reducible exact Below.refl _ _) | (with_reducible assumption) | (with_reducible refine Below.alloc ?_ ?_ _) | (with_reducible refine below_drewN ?_ _) | (with_reducible refine Below.drew ?_) | (with_reducible refine Below.setCell ?_ ?_ _) | (with_reducible refine below_call (by assumption) ?_ ?_) | (with_reducible refine below_grown (by assumption) ?_ ?_ ?_) | omega | (simp; done) | (simp; omega)))⟩
                case measure => simp [intOf]; omega
        · have hmi : ¬ (m : Int) = 1 := by omega
          have em : decide ((m : Int) = 1) = false := decide_eq_false hmi
          have em2 : ((m : Int) == 1) = false := by simp; omega
          have HOK : Hid (verbOk L k = false) := Lib.hid (by rw [verbOk_eq HR.out HM.out HU.out rfl, show manyV 0 = 1 from rfl]; simp [hmm])
          have hv1 : v = false := by rw [← HV.out]; exact path_not (n := k) (by rw [HL.out]; exact hlt) HOK.out
          subst hv1
          go_wp2
          go_ret
          exact ⟨rfl, by (repeat' (first | (with_reducible exact Below.refl _ _) | (with_reducible assumption) | (with_reducible refine Below.alloc ?_ ?_ _) | (with_reducible refine below_drewN ?_ _) | (with_reducible refine Below.drew ?_) | (with_reducible refine Below.setCell ?_ ?_ _) | (with_reducible refine below_call (by assumption) ?_ ?_) | (with_reducible refine below_grown (by assumption) ?_ ?_ ?_) | omega | (simp; done) | (simp; omega)))⟩
      by_cases hd1 : kd = 1
      · subst hd1
        by_cases hmm : m = 1
        · subst hmm
          have HN : Hid (pointsV L (k + 1) = pz + 1) := HST
          cases u with
          | false =>
            have HOK : Hid (verbOk L k = false) := Lib.hid (by rw [verbOk_eq HR.out HM.out HU.out rfl]; simp)
            have hv1 : v = false := by rw [← HV.out]; exact path_not (n := k) (by rw [HL.out]; exact hlt) HOK.out
            subst hv1
            go_wp2_with fail
            refine (validPoints_eq cr (HQ.out.below (by (repeat' (first | (with_reducible exact Below.refl _ _) | (with_reducible assumption) | (with_reducible refine Below.alloc ?_ ?_ _) | (with_reducible refine below_drewN ?_ _) | (with_reducible refine Below.drew ?_) | (with_reducible refine Below.setCell ?_ ?_ _) | (with_reducible refine below_call (by assumption) ?_ ?_) | (with_reducible refine below_grown (by assumption) ?_ ?_ ?_) | omega | (simp; done) | (simp; omega))))) hm12 HU.out).mono ?_
            rintro e w7 ⟨rfl, hb7⟩
            have hb8 : Below wo.heap.size wo w7 := by (repeat' (first | (with_reducible exact Below.refl _ _) | (with_reducible assumption) | (with_reducible refine Below.alloc ?_ ?_ _) | (with_reducible refine below_drewN ?_ _) | (with_reducible refine Below.drew ?_) | (with_reducible refine Below.setCell ?_ ?_ _) | (with_reducible refine below_call (by assumption) ?_ ?_) | (with_reducible refine below_grown (by assumption) ?_ ?_ ?_) | omega | (simp; done) | (simp; omega)))
            have hz7 := hb8.size
            have hbl7 : b < w7.heap.size := by omega
            have y0 : w7.cell? ⟨b, o + k * 2, none⟩ = some (.int .i64 1) := (hb8.cell (p := ⟨b, o + k * 2, none⟩) hbl).trans x0
            clear x0 x1
            go_wp2
            go_ret
            exact ⟨rfl, by (repeat' (first | (with_reducible exact Below.refl _ _) | (with_reducible assumption) | (with_reducible refine Below.alloc ?_ ?_ _) | (with_reducible refine below_drewN ?_ _) | (with_reducible refine Below.drew ?_) | (with_reducible refine Below.setCell ?_ ?_ _) | (with_reducible refine below_call (by assumption) ?_ ?_) | (with_reducible refine below_grown (by assumption) ?_ ?_ ?_) | omega | (simp; done) | (simp; omega)))⟩
          | true =>
            by_cases hk0 : k = 0
            · subst hk0
              have HOK : Hid (verbOk L 0 = false) := Lib.hid (by rw [verbOk_eq HR.out HM.out HU.out (bg := true) (by simp)]; rfl)
              simp only [Nat.zero_mul, Nat.add_zero] at x0 x1
              have hv1 : v = false := by rw [← HV.out]; exact path_not (n := 0) (by rw [HL.out]; exact hlt) HOK.out
              subst hv1
              go_wp2_with fail
              refine (validPoints_eq cr (HQ.out.below (by (repeat' (first | (with_reducible exact Below.refl _ _) | (with_reducible assumption) | (with_reducible refine Below.alloc ?_ ?_ _) | (with_reducible refine below_drewN ?_ _) | (with_reducible refine Below.drew ?_) | (with_reducible refine Below.setCell ?_ ?_ _) | (with_reducible refine below_call (by assumption) ?_ ?_) | (with_reducible refine below_grown (by assumption) ?_ ?_ ?_) | omega | (simp; done) | (simp; omega))))) hm12 HU.out).mono ?_
              rintro e w7 ⟨rfl, hb7⟩
              have hb8 : Below wo.heap.size wo w7 := by (repeat' (first | (with_reducible exact Below.refl _ _) | (with_reducible assumption) | (with_reducible refine Below.alloc ?_ ?_ _) | (with_reducible refine below_drewN ?_ _) | (with_reducible refine Below.drew ?_) | (with_reducible refine Below.setCell ?_ ?_ _) | (with_reducible refine below_call (by assumption) ?_ ?_) | (with_reducible refine below_grown (by assumption) ?_ ?_ ?_) | omega | (simp; done) | (simp; omega)))
              have hz7 := hb8.size
              have hbl7 : b < w7.heap.size := by omega
              have y0 : w7.cell? ⟨b, o, none⟩ = some (.int .i64 1) := (hb8.cell (p := ⟨b, o, none⟩) hbl).trans x0
              clear x0 x1
              go_wp2
              go_ret
              exact ⟨rfl, by (repeat' (first | (with_reducible exact Below.refl _ _) | (with_reducible assumption) | (with_reducible refine Below.alloc ?_ ?_ _) | (with_reducible refine below_drewN ?_ _) | (with_reducible refine Below.drew ?_) | (with_reducible refine Below.setCell ?_ ?_ _) | (with_reducible refine below_call (by assumption) ?_ ?_) | (with_reducible refine below_grown (by assumption) ?_ ?_ ?_) | omega | (simp; done) | (simp; omega)))⟩
            · have ek : decide ((k : Int) = 0) = false := decide_eq_false (by omega)
              have ek2 : ((k : Int) == 0) = false := by simp; omega
              have ek3 : decide (k = 0) = false := decide_eq_false hk0
              have ek4 : (k == 0) = false := by simp [hk0]
              have ek5 : ¬ (k : Int) = 0 := by omega
              have ek6 : decide ((0 : Int) < k) = true := decide_eq_true (by omega)
              have ek7 : 0 < k := by omega
              have ek8 : (0 : Int) < k := by omega
              obtain ⟨k1, hk1⟩ : ∃ j, k = j + 1 := ⟨k - 1, by omega⟩
              have hk1n : k1 < n := by omega
              have hk1i : (k1 : Int) < n := by omega
              have ekk : (k : Int) - 1 = (k1 : Int) := by omega
              obtain ⟨b', o', pk, r', B', cr', e0, _, hr', z0, _⟩ := (HP.out.below hbel).at_ hk1n
              cases e0
              have hvb : (vb L (k - 1)).1 = pk := by rw [show k - 1 = k1 by omega, vb_at hr']
              have HK1 := Lib.hid hk1
              clear hr' hk1
              by_cases hp4 : pk = 4
              · have HOK : Hid (verbOk L k = false) := Lib.hid (by rw [verbOk_eq HR.out HM.out HU.out (bg := true) (by rw [hvb]; simp [hp4])]; rfl)
                clear hvb
                subst hp4
                have hv1 : v = false := by rw [← HV.out]; exact path_not (n := k) (by rw [HL.out]; exact hlt) HOK.out
                subst hv1
                go_wp2_with fail
                refine (validPoints_eq cr (HQ.out.below (by (repeat' (first | (with_reducible exact Below.refl _ _) | (with_reducible assumption) | (with_reducible refine Below.alloc ?_ ?_ _) | (with_reducible refine below_drewN ?_ _) | (with_reducible refine Below.drew ?_) | (with_reducible refine Below.setCell ?_ ?_ _) | (with_reducible refine below_call (by assumption) ?_ ?_) | (with_reducible refine below_grown (by assumption) ?_ ?_ ?_) | omega | (simp; done) | (simp; omega))))) hm12 HU.out).mono ?_
                rintro e w7 ⟨rfl, hb7⟩
                have hb8 : Below wo.heap.size wo w7 := by (repeat' (first | (with_reducible exact Below.refl _ _) | (with_reducible assumption) | (with_reducible refine Below.alloc ?_ ?_ _) | (with_reducible refine below_drewN ?_ _) | (with_reducible refine Below.drew ?_) | (with_reducible refine Below.setCell ?_ ?_ _) | (with_reducible refine below_call (by assumption) ?_ ?_) | (with_reducible refine below_grown (by assumption) ?_ ?_ ?_) | omega | (simp; done) | (simp; omega)))
                have hz7 := hb8.size
                have hbl7 : b < w7.heap.size := by omega
                have y0 : w7.cell? ⟨b, o + k * 2, none⟩ = some (.int .i64 1) := (hb8.cell (p := ⟨b, o + k * 2, none⟩) hbl).trans x0
                clear x0 x1
                have y1 : w7.cell? ⟨b, o + k1 * 2, none⟩ = some (.int .i64 4) := (hb8.cell (p := ⟨b, o + k1 * 2, none⟩) hbl).trans z0
                clear z0
                go_wp2
                go_ret
                exact ⟨rfl, by (repeat' (first | (with_reducible exact Below.refl _ _) | (with_reducible assumption) | (with_reducible refine Below.alloc ?_ ?_ _) | (with_reducible refine below_drewN ?_ _) | (with_reducible refine Below.drew ?_) | (with_reducible refine Below.setCell ?_ ?_ _) | (with_reducible refine below_call (by assumption) ?_ ?_) | (with_reducible refine below_grown (by assumption) ?_ ?_ ?_) | omega | (simp; done) | (simp; omega)))⟩
              · have HOK : Hid (verbOk L k = true) := Lib.hid (by rw [verbOk_eq HR.out HM.out HU.out (bg := false) (by rw [hvb]; simp [hp4, hk0])]; rfl)
                clear hvb
                have ep : decide (pk = 4) = false := decide_eq_false hp4
                have ep2 : (pk == 4) = false := by simp [hp4]
                go_wp2_with fail
                refine (validPoints_eq cr (HQ.out.below (by (repeat' (first | (with_reducible exact Below.refl _ _) | (with_reducible assumption) | (with_reducible refine Below.alloc ?_ ?_ _) | (with_reducible refine below_drewN ?_ _) | (with_reducible refine Below.drew ?_) | (with_reducible refine Below.setCell ?_ ?_ _) | (with_reducible refine below_call (by assumption) ?_ ?_) | (with_reducible refine below_grown (by assumption) ?_ ?_ ?_) | omega | (simp; done) | (simp; omega))))) hm12 HU.out).mono ?_
                rintro e w7 ⟨rfl, hb7⟩
                have hb8 : Below wo.heap.size wo w7 := by (repeat' (first | (with_reducible exact Below.refl _ _) | (with_reducible assumption) | (with_reducible refine Below.alloc ?_ ?_ _) | (with_reducible refine below_drewN ?_ _) | (with_reducible refine Below.drew ?_) | (with_reducible refine Below.setCell ?_ ?_ _) | (with_reducible refine below_call (by assumption) ?_ ?_) | (with_reducible refine below_grown (by assumption) ?_ ?_ ?_) | omega | (simp; done) | (simp; omega)))
                have hz7 := hb8.size
                have hbl7 : b < w7.heap.size := by omega
                have y0 : w7.cell? ⟨b, o + k * 2, none⟩ = some (.int .i64 1) := (hb8.cell (p := ⟨b, o + k * 2, none⟩) hbl).trans x0
                clear x0 x1
                have y1 : w7.cell? ⟨b, o + k1 * 2, none⟩ = some (.int .i64 pk) := (hb8.cell (p := ⟨b, o + k1 * 2, none⟩) hbl).trans z0
                clear z0
                go_wp2
                go_roundw
                case rel => exact ⟨k + 1, by omega, by go_num, by rw [HST.out, Int.natCast_add]; rfl, by simp only [verbsOk, HVO.out, HOK.out, Bool.and_self], by (repeat' (first | (with_reducible exact Below.refl _ _) | (with_reducible assumption) | (with_reducible refine Below.alloc ?_ ?_ _) | (with_reducible refine below_drewN ?_ _) | (with_reducible refine Below.drew ?_) | (with_reducible refine Below.setCell ?_ ?_ _) | (with_reducible refine below_call (by assumption) ?_ ?_) | (with_reducible refine below_grown (by assumption) ?_ ?_ ?_) | omega | (simp; done) | (simp; omega)))⟩
                case measure => simp [intOf]; omega
        · have hmi : ¬ (m : Int) = 1 := by omega
          have em : decide ((m : Int) = 1) = false := decide_eq_false hmi
          have em2 : ((m : Int) == 1) = false := by simp; omega
          have HOK : Hid (verbOk L k = false) := Lib.hid (by rw [verbOk_eq HR.out HM.out HU.out rfl, show manyV 1 = 1 from rfl]; simp [hmm])
          have hv1 : v = false := by rw [← HV.out]; exact path_not (n := k) (by rw [HL.out]; exact hlt) HOK.out
          subst hv1
          go_wp2
          go_ret
          exact ⟨rfl, by (repeat' (first | (with_reducible exact Below.refl _ _) | (with_reducible assumption) | (with_reducible refine Below.alloc ?_ ?_ _) | (with_reducible refine below_drewN ?_ _) | (with_reducible refine Below.drew ?_) | (with_reducible refine Below.setCell ?_ ?_ _) | (with_reducible refine below_call (by assumption) ?_ ?_) | (with_reducible refine below_grown (by assumption) ?_ ?_ ?_) | omega | (simp; done) | (simp; omega)))⟩
      by_cases hd2 : kd = 2
      · subst hd2
        by_cases hmm : m = 2
        · subst hmm
          have HN : Hid (pointsV L (k + 1) = pz + 2) := HST
          cases u with
          | false =>
            have HOK : Hid (verbOk L k = false) := Lib.hid (by rw [verbOk_eq HR.out HM.out HU.out rfl]; simp)
            have hv1 : v = false := by rw [← HV.out]; exact path_not (n := k) (by rw [HL.out]; exact hlt) HOK.out
            subst hv1
            go_wp2_with fail
            refine (validPoints_eq cr (HQ.out.below (by (repeat' (first | (with_reducible exact Below.refl _ _) | (with_reducible assumption) | (with_reducible refine Below.alloc ?_ ?_ _) | (with_reducible refine below_drewN ?_ _) | (with_reducible refine Below.drew ?_) | (with_reducible refine Below.setCell ?_ ?_ _) | (with_reducible refine below_call (by assumption) ?_ ?_) | (with_reducible refine below_grown (by assumption) ?_ ?_ ?_) | omega | (simp; done) | (simp; omega))))) hm12 HU.out).mono ?_
            rintro e w7 ⟨rfl, hb7⟩
            have hb8 : Below wo.heap.size wo w7 := by (repeat' (first | (with_reducible exact Below.refl _ _) | (with_reducible assumption) | (with_reducible refine Below.alloc ?_ ?_ _) | (with_reducible refine below_drewN ?_ _) | (with_reducible refine Below.drew ?_) | (with_reducible refine Below.setCell ?_ ?_ _) | (with_reducible refine below_call (by assumption) ?_ ?_) | (with_reducible refine below_grown (by assumption) ?_ ?_ ?_) | omega | (simp; done) | (simp; omega)))
            have hz7 := hb8.size
            have hbl7 : b < w7.heap.size := by omega
            have y0 : w7.cell? ⟨b, o + k * 2, none⟩ = some (.int .i64 2) := (hb8.cell (p := ⟨b, o + k * 2, none⟩) hbl).trans x0
            clear x0 x1
            go_wp2
            go_ret
            exact ⟨rfl, by (repeat' (first | (with_reducible exact Below.refl _ _) | (with_reducible assumption) | (with_reducible refine Below.alloc ?_ ?_ _) | (with_reducible refine below_drewN ?_ _) | (with_reducible refine Below.drew ?_) | (with_reducible refine Below.setCell ?_ ?_ _) | (with_reducible refine below_call (by assumption) ?_ ?_) | (with_reducible refine below_grown (by assumption) ?_ ?_ ?_) | omega | (simp; done) | (simp; omega)))⟩
          | true =>
            by_cases hk0 : k = 0
            · subst hk0
              have HOK : Hid (verbOk L 0 = false) := Lib.hid (by rw [verbOk_eq HR.out HM.out HU.out (bg := true) (by simp)]; rfl)
              simp only [Nat.zero_mul, Nat.add_zero] at x0 x1
              have hv1 : v = false := by rw [← HV.out]; exact path_not (n := 0) (by rw [HL.out]; exact hlt) HOK.out
              subst hv1
              go_wp2_with fail
              refine (validPoints_eq cr (HQ.out.below (by (repeat' (first | (with_reducible exact Below.refl _ _) | (with_reducible assumption) | (with_reducible refine Below.alloc ?_ ?_ _) | (with_reducible refine below_drewN ?_ _) | (with_reducible refine Below.drew ?_) | (with_reducible refine Below.setCell ?_ ?_ _) | (with_reducible refine below_call (by assumption) ?_ ?_) | (with_reducible refine below_grown (by assumption) ?_ ?_ ?_) | omega | (simp; done) | (simp; omega))))) hm12 HU.out).mono ?_
              rintro e w7 ⟨rfl, hb7⟩
              have hb8 : Below wo.heap.size wo w7 := by (repeat' (first | (with_reducible exact Below.refl _ _) | (with_reducible assumption) | (with_reducible refine Below.alloc ?_ ?_ _) | (with_reducible refine below_drewN ?_ _) | (with_reducible refine Below.drew ?_) | (with_reducible refine Below.setCell ?_ ?_ _) | (with_reducible refine below_call (by assumption) ?_ ?_) | (with_reducible refine below_grown (by assumption) ?_ ?_ ?_) | omega | (simp; done) | (simp; omega)))
              have hz7 := hb8.size
              have hbl7 : b < w7.heap.size := by omega
              have y0 : w7.cell? ⟨b, o, none⟩ = some (.int .i64 2) := (hb8.cell (p := ⟨b, o, none⟩) hbl).trans x0
              clear x0 x1
              go_wp2
              go_ret
              exact ⟨rfl, by (repeat' (first | (with_reducible exact Below.refl _ _) | (with_reducible assumption) | (with_reducible refine Below.alloc ?_ ?_ _) | (with_reducible refine below_drewN ?_ _) | (with_reducible refine Below.drew ?_) | (with_reducible refine Below.setCell ?_ ?_ _) | (with_reducible refine below_call (by assumption) ?_ ?_) | (with_reducible refine below_grown (by assumption) ?_ ?_ ?_) | omega | (simp; done) | (simp; omega)))⟩
            · have ek : decide ((k : Int) = 0) = false := decide_eq_false (by omega)
              have ek2 : ((k : Int) == 0) = false := by simp; omega
              have ek3 : decide (k = 0) = false := decide_eq_false hk0
              have ek4 : (k == 0) = false := by simp [hk0]
              have ek5 : ¬ (k : Int) = 0 := by omega
              have ek6 : decide ((0 : Int) < k) = true := decide_eq_true (by omega)
              have ek7 : 0 < k := by omega
              have ek8 : (0 : Int) < k := by omega
              obtain ⟨k1, hk1⟩ : ∃ j, k = j + 1 := ⟨k - 1, by omega⟩
              have hk1n : k1 < n := by omega
              have hk1i : (k1 : Int) < n := by omega
              have ekk : (k : Int) - 1 = (k1 : Int) := by omega
              obtain ⟨b', o', pk, r', B', cr', e0, _, hr', z0, _⟩ := (HP.out.below hbel).at_ hk1n
              cases e0
              have hvb : (vb L (k - 1)).1 = pk := by rw [show k - 1 = k1 by omega, vb_at hr']
              have HK1 := Lib.hid hk1
              clear hr' hk1
              by_cases hp4 : pk = 4
              · have HOK : Hid (verbOk L k = false) := Lib.hid (by rw [verbOk_eq HR.out HM.out HU.out (bg := true) (by rw [hvb]; simp [hp4])]; rfl)
                clear hvb
                subst hp4
                have hv1 : v = false := by rw [← HV.out]; exact path_not (n := k) (by rw [HL.out]; exact hlt) HOK.out
                subst hv1
                go_wp2_with fail
                refine (validPoints_eq cr (HQ.out.below (by (repeat' (first | (with_reducible exact Below.refl _ _) | (with_reducible assumption) | (with_reducible refine Below.alloc ?_ ?_ _) | (with_reducible refine below_drewN ?_ _) | (with_reducible refine Below.drew ?_) | (with_reducible refine Below.setCell ?_ ?_ _) | (with_reducible refine below_call (by assumption) ?_ ?_) | (with_reducible refine below_grown (by assumption) ?_ ?_ ?_) | omega | (simp; done) | (simp; omega))))) hm12 HU.out).mono ?_
                rintro e w7 ⟨rfl, hb7⟩
                have hb8 : Below wo.heap.size wo w7 := by (repeat' (first | (with_reducible exact Below.refl _ _) | (with_reducible assumption) | (with_reducible refine Below.alloc ?_ ?_ _) | (with_reducible refine below_drewN ?_ _) | (with_reducible refine Below.drew ?_) | (with_reducible refine Below.setCell ?_ ?_ _) | (with_reducible refine below_call (by assumption) ?_ ?_) | (with_reducible refine below_grown (by assumption) ?_ ?_ ?_) | omega | (simp; done) | (simp; omega)))
                have hz7 := hb8.size
                have hbl7 : b < w7.heap.size := by omega
                have y0 : w7.cell? ⟨b, o + k * 2, none⟩ = some (.int .i64 2) := (hb8.cell (p := ⟨b, o + k * 2, none⟩) hbl).trans x0
                clear x0 x1
                have y1 : w7.cell? ⟨b, o + k1 * 2, none⟩ = some (.int .i64 4) := (hb8.cell (p := ⟨b, o + k1 * 2, none⟩) hbl).trans z0
                clear z0
                go_wp2
                go_ret
                exact ⟨rfl, by (repeat' (first | (with_reducible exact Below.refl _ _) | (with_reducible assumption) | (with_reducible refine Below.alloc ?_ ?_ _) | (with_reducible refine below_drewN ?_ _) | (with_reducible refine Below.drew ?_) | (with_reducible refine Below.setCell ?_ ?_ _) | (with_reducible refine below_call (by assumption) ?_ ?_) | (with_reducible refine below_grown (by assumption) ?_ ?_ ?_) | omega | (simp; done) | (simp; omega)))⟩
              · have HOK : Hid (verbOk L k = true) := Lib.hid (by rw [verbOk_eq HR.out HM.out HU.out (bg := false) (by rw [hvb]; simp [hp4, hk0])]; rfl)
                clear hvb
                have ep : decide (pk = 4) = false := decide_eq_false hp4
                have ep2 : (pk == 4) = false := by simp [hp4]
                go_wp2_with fail
                refine (validPoints_eq cr (HQ.out.below (by (repeat' (first | (with_reducible exact Below.refl _ _) | (with_reducible assumption) | (with_reducible refine Below.alloc ?_ ?_ _) | (with_reducible refine below_drewN ?_ _) | (with_reducible refine Below.drew ?_) | (with_reducible refine Below.setCell ?_ ?_ _) | (with_reducible refine below_call (by assumption) ?_ ?_) | (with_reducible refine below_grown (by assumption) ?_ ?_ ?_) | omega | (simp; done) | (simp; omega))))) hm12 HU.out).mono ?_
                rintro e w7 ⟨rfl, hb7⟩
                have hb8 : Below wo.heap.size wo w7 := by (repeat' (first | (with_reducible exact Below.refl _ _) | (with_reducible assumption) | (with_reducible refine Below.alloc ?_ ?_ _) | (with_reducible refine below_drewN ?_ _) | (with_reducible refine Below.drew ?_) | (with_reducible refine Below.setCell ?_ ?_ _) | (with_reducible refine below_call (by assumption) ?_ ?_) | (with_reducible refine below_grown (by assumption) ?_ ?_ ?_) | omega | (simp; done) | (simp; omega)))
                have hz7 := hb8.size
                have hbl7 : b < w7.heap.size := by omega
                have y0 : w7.cell? ⟨b, o + k * 2, none⟩ = some (.int .i64 2) := (hb8.cell (p := ⟨b, o + k * 2, none⟩) hbl).trans x0
                clear x0 x1
                have y1 : w7.cell? ⟨b, o + k1 * 2, none⟩ = some (.int .i64 pk) := (hb8.cell (p := ⟨b, o + k1 * 2, none⟩) hbl).trans z0
                clear z0
                go_wp2
                go_roundw
                case rel => exact ⟨k + 1, by omega, by go_num, by rw [HST.out, Int.natCast_add]; rfl, by simp only [verbsOk, HVO.out, HOK.out, Bool.and_self], by (repeat' (first | (with_reducible exact Below.refl _ _) | (with_reducible assumption) | (with_reducible refine Below.alloc ?_ ?_ _) | (with_reducible refine below_drewN ?_ _) | (with_reducible refine Below.drew ?_) | (with_reducible refine Below.setCell ?_ ?_ _) | (with_reducible refine below_call (by assumption) ?_ ?_) | (with_reducible refine below_grown (by assumption) ?_ ?_ ?_) | omega | (simp; done) | (simp; omega)))⟩
                case measure => simp [intOf]; omega
        · have hmi : ¬ (m : Int) = 2 := by omega
          have em : decide ((m : Int) = 2) = false := decide_eq_false hmi
          have em2 : ((m : Int) == 2) = false := by simp; omega
          have HOK : Hid (verbOk L k = false) := Lib.hid (by rw [verbOk_eq HR.out HM.out HU.out rfl, show manyV 2 = 2 from rfl]; simp [hmm])
          have hv1 : v = false := by rw [← HV.out]; exact path_not (n := k) (by rw [HL.out]; exact hlt) HOK.out
          subst hv1
          go_wp2
          go_ret
          exact ⟨rfl, by (repeat' (first | (with_reducible exact Below.refl _ _) | (with_reducible assumption) | (with_reducible refine Below.alloc ?_ ?_ _) | (with_reducible refine below_drewN ?_ _) | (with_reducible refine Below.drew ?_) | (with_reducible refine Below.setCell ?_ ?_ _) | (with_reducible refine below_call (by assumption) ?_ ?_) | (with_reducible refine below_grown (by assumption) ?_ ?_ ?_) | omega | (simp; done) | (simp; omega)))⟩
      by_cases hd3 : kd = 3
      · subst hd3
        by_cases hmm : m = 3
        · subst hmm
          have HN : Hid (pointsV L (k + 1) = pz + 3) := HST
          cases u with
          | false =>
            have HOK : Hid (verbOk L k = false) := Lib.hid (by rw [verbOk_eq HR.out HM.out HU.out rfl]; simp)
            have hv1 : v = false := by rw [← HV.out]; exact path_not (n := k) (by rw [HL.out]; exact hlt) HOK.out
            subst hv1
            go_wp2_with fail
            refine (validPoints_eq cr (HQ.out.below (by (repeat' (first | (with_reducible exact Below.refl _ _) | (with_reducible assumption) | (with_reducible refine Below.alloc ?_ ?_ _) | (with_reducible refine below_drewN ?_ _) | (with_reducible refine Below.drew ?_) | (with_reducible refine Below.setCell ?_ ?_ _) | (with_reducible refine below_call (by assumption) ?_ ?_) | (with_reducible refine below_grown (by assumption) ?_ ?_ ?_) | omega | (simp; done) | (simp; omega))))) hm12 HU.out).mono ?_
            rintro e w7 ⟨rfl, hb7⟩
            have hb8 : Below wo.heap.size wo w7 := by (repeat' (first | (with_reducible exact Below.refl _ _) | (with_reducible assumption) | (with_reducible refine Below.alloc ?_ ?_ _) | (with_reducible refine below_drewN ?_ _) | (with_reducible refine Below.drew ?_) | (with_reducible refine Below.setCell ?_ ?_ _) | (with_reducible refine below_call (by assumption) ?_ ?_) | (with_reducible refine below_grown (by assumption) ?_ ?_ ?_) | omega | (simp; done) | (simp; omega)))
            have hz7 := hb8.size
            have hbl7 : b < w7.heap.size := by omega
            have y0 : w7.cell? ⟨b, o + k * 2, none⟩ = some (.int .i64 3) := (hb8.cell (p := ⟨b, o + k * 2, none⟩) hbl).trans x0
            clear x0 x1
            go_wp2
            go_ret
            exact ⟨rfl, by (repeat' (first | (with_reducible exact Below.refl _ _) | (with_reducible assumption) | (with_reducible refine Below.alloc ?_ ?_ _) | (with_reducible refine below_drewN ?_ _) | (with_reducible refine Below.drew ?_) | (with_reducible refine Below.setCell ?_ ?_ _) | (with_reducible refine below_call (by assumption) ?_ ?_) | (with_reducible refine below_grown (by assumption) ?_ ?_ ?_) | omega | (simp; done) | (simp; omega)))⟩
          | true =>
            by_cases hk0 : k = 0
            · subst hk0
              have HOK : Hid (verbOk L 0 = false) := Lib.hid (by rw [verbOk_eq HR.out HM.out HU.out (bg := true) (by simp)]; rfl)
              simp only [Nat.zero_mul, Nat.add_zero] at x0 x1
              have hv1 : v = false := by rw [← HV.out]; exact path_not (n := 0) (by rw [HL.out]; exact hlt) HOK.out
              subst hv1
              go_wp2_with fail
              refine (validPoints_eq cr (HQ.out.below (by (repeat' (first | (with_reducible exact Below.refl _ _) | (with_reducible assumption) | (with_reducible refine Below.alloc ?_ ?_ _) | (with_reducible refine below_drewN ?_ _) | (with_reducible refine Below.drew ?_) | (with_reducible refine Below.setCell ?_ ?_ _) | (with_reducible refine below_call (by assumption) ?_ ?_) | (with_reducible refine below_grown (by assumption) ?_ ?_ ?_) | omega | (simp; done) | (simp; omega))))) hm12 HU.out).mono ?_
              rintro e w7 ⟨rfl, hb7⟩
              have hb8 : Below wo.heap.size wo w7 := by (repeat' (first | (with_reducible exact Below.refl _ _) | (with_reducible assumption) | (with_reducible refine Below.alloc ?_ ?_ _) | (with_reducible refine below_drewN ?_ _) | (with_reducible refine Below.drew ?_) | (with_reducible refine Below.setCell ?_ ?_ _) | (with_reducible refine below_call (by assumption) ?_ ?_) | (with_reducible refine below_grown (by assumption) ?_ ?_ ?_) | omega | (simp; done) | (simp; omega)))
              have hz7 := hb8.size
              have hbl7 : b < w7.heap.size := by omega
              have y0 : w7.cell? ⟨b, o, none⟩ = some (.int .i64 3) := (hb8.cell (p := ⟨b, o, none⟩) hbl).trans x0
              clear x0 x1
              go_wp2
              go_ret
              exact ⟨rfl, by (repeat' (first | (with_reducible exact Below.refl _ _) | (with_reducible assumption) | (with_reducible refine Below.alloc ?_ ?_ _) | (with_reducible refine below_drewN ?_ _) | (with_reducible refine Below.drew ?_) | (with_reducible refine Below.setCell ?_ ?_ _) | (with_reducible refine below_call (by assumption) ?_ ?_) | (with_reducible refine below_grown (by assumption) ?_ ?_ ?_) | omega | (simp; done) | (simp; omega)))⟩
            · have ek : decide ((k : Int) = 0) = false := decide_eq_false (by omega)
              have ek2 : ((k : Int) == 0) = false := by simp; omega
              have ek3 : decide (k = 0) = false := decide_eq_false hk0
              have ek4 : (k == 0) = false := by simp [hk0]
              have ek5 : ¬ (k : Int) = 0 := by omega
              have ek6 : decide ((0 : Int) < k) = true := decide_eq_true (by omega)
              have ek7 : 0 < k := by omega
              have ek8 : (0 : Int) < k := by omega
              obtain ⟨k1, hk1⟩ : ∃ j, k = j + 1 := ⟨k - 1, by omega⟩
              have hk1n : k1 < n := by omega
              have hk1i : (k1 : Int) < n := by omega
              have ekk : (k : Int) - 1 = (k1 : Int) := by omega
              obtain ⟨b', o', pk, r', B', cr', e0, _, hr', z0, _⟩ := (HP.out.below hbel).at_ hk1n
              cases e0
              have hvb : (vb L (k - 1)).1 = pk := by rw [show k - 1 = k1 by omega, vb_at hr']
              have HK1 := Lib.hid hk1
              clear hr' hk1
              by_cases hp4 : pk = 4
              · have HOK : Hid (verbOk L k = false) := Lib.hid (by rw [verbOk_eq HR.out HM.out HU.out (bg := true) (by rw [hvb]; simp [hp4])]; rfl)
                clear hvb
                subst hp4
                have hv1 : v = false := by rw [← HV.out]; exact path_not (n := k) (by rw [HL.out]; exact hlt) HOK.out
                subst hv1
                go_wp2_with fail
                refine (validPoints_eq cr (HQ.out.below (by (repeat' (first | (with_reducible exact Below.refl _ _) | (with_reducible assumption) | (with_reducible refine Below.alloc ?_ ?_ _) | (with_reducible refine below_drewN ?_ _) | (with_reducible refine Below.drew ?_) | (with_reducible refine Below.setCell ?_ ?_ _) | (with_reducible refine below_call (by assumption) ?_ ?_) | (with_reducible refine below_grown (by assumption) ?_ ?_ ?_) | omega | (simp; done) | (simp; omega))))) hm12 HU.out).mono ?_
                rintro e w7 ⟨rfl, hb7⟩
                have hb8 : Below wo.heap.size wo w7 := by (repeat' (first | (with_reducible exact Below.refl _ _) | (with_reducible assumption) | (with_reducible refine Below.alloc ?_ ?_ _) | (with_reducible refine below_drewN ?_ _) | (with_reducible refine Below.drew ?_) | (with_reducible refine Below.setCell ?_ ?_ _) | (with_reducible refine below_call (by assumption) ?_ ?_) | (with_reducible refine below_grown (by assumption) ?_ ?_ ?_) | omega | (simp; done) | (simp; omega)))
                have hz7 := hb8.size
                have hbl7 : b < w7.heap.size := by omega
                have y0 : w7.cell? ⟨b, o + k * 2, none⟩ = some (.int .i64 3) := (hb8.cell (p := ⟨b, o + k * 2, none⟩) hbl).trans x0
                clear x0 x1
                have y1 : w7.cell? ⟨b, o + k1 * 2, none⟩ = some (.int .i64 4) := (hb8.cell (p := ⟨b, o + k1 * 2, none⟩) hbl).trans z0
                clear z0
                go_wp2
                go_ret
                exact ⟨rfl, by (repeat' (first | (with_reducible exact Below.refl _ _) | (with_reducible assumption) | (with_reducible refine Below.alloc ?_ ?_ _) | (with_reducible refine below_drewN ?_ _) | (with_reducible refine Below.drew ?_) | (with_reducible refine Below.setCell ?_ ?_ _) | (with_reducible refine below_call (by assumption) ?_ ?_) | (with_reducible refine below_grown (by assumption) ?_ ?_ ?_) | omega | (simp; done) | (simp; omega)))⟩
              · have HOK : Hid (verbOk L k = true) := Lib.hid (by rw [verbOk_eq HR.out HM.out HU.out (bg := false) (by rw [hvb]; simp [hp4, hk0])]; rfl)
                clear hvb
                have ep : decide (pk = 4) = false := decide_eq_false hp4
                have ep2 : (pk == 4) = false := by simp [hp4]
                go_wp2_with fail
                refine (validPoints_eq cr (HQ.out.below (by (repeat' (first | (with_reducible exact Below.refl _ _) | (with_reducible assumption) | (with_reducible refine Below.alloc ?_ ?_ _) | (with_reducible refine below_drewN ?_ _) | (with_reducible refine Below.drew ?_) | (with_reducible refine Below.setCell ?_ ?_ _) | (with_reducible refine below_call (by assumption) ?_ ?_) | (with_reducible refine below_grown (by assumption) ?_ ?_ ?_) | omega | (simp; done) | (simp; omega))))) hm12 HU.out).mono ?_
                rintro e w7 ⟨rfl, hb7⟩
                have hb8 : Below wo.heap.size wo w7 := by (repeat' (first | (with_reducible exact Below.refl _ _) | (with_reducible assumption) | (with_reducible refine Below.alloc ?_ ?_ _) | (with_reducible refine below_drewN ?_ _) | (with_reducible refine Below.drew ?_) | (with_reducible refine Below.setCell ?_ ?_ _) | (with_reducible refine below_call (by assumption) ?_ ?_) | (with_reducible refine below_grown (by assumption) ?_ ?_ ?_) | omega | (simp; done) | (simp; omega)))
                have hz7 := hb8.size
                have hbl7 : b < w7.heap.size := by omega
                have y0 : w7.cell? ⟨b, o + k * 2, none⟩ = some (.int .i64 3) := (hb8.cell (p := ⟨b, o + k * 2, none⟩) hbl).trans x0
                clear x0 x1
                have y1 : w7.cell? ⟨b, o + k1 * 2, none⟩ = some (.int .i64 pk) := (hb8.cell (p := ⟨b, o + k1 * 2, none⟩) hbl).trans z0
                clear z0
                go_wp2
                go_roundw
                case rel => exact ⟨k + 1, by omega, by go_num, by rw [HST.out, Int.natCast_add]; rfl, by simp only [verbsOk, HVO.out, HOK.out, Bool.and_self], by (repeat' (first | (with_reducible exact Below.refl _ _) | (with_reducible assumption) | (with_reducible refine Below.alloc ?_ ?_ _) | (with_reducible refine below_drewN ?_ _) | (with_reducible refine Below.drew ?_) | (with_reducible refine Below.setCell ?_ ?_ _) | (with_reducible refine below_call (by assumption) ?_ ?_) | (with_reducible refine below_grown (by assumption) ?_ ?_ ?_) | omega | (simp; done) | (simp; omega)))⟩
                case measure => simp [intOf]; omega
        · have hmi : ¬ (m : Int) = 3 := by omega
          have em : decide ((m : Int) = 3) = false := decide_eq_false hmi
          have em2 : ((m : Int) == 3) = false := by simp; omega
          have HOK : Hid (verbOk L k = false) := Lib.hid (by rw [verbOk_eq HR.out HM.out HU.out rfl, show manyV 3 = 3 from rfl]; simp [hmm])
          have hv1 : v = false := by rw [← HV.out]; exact path_not (n := k) (by rw [HL.out]; exact hlt) HOK.out
          subst hv1
          go_wp2
          go_ret
          exact ⟨rfl, by (repeat' (first | (with_reducible exact Below.refl _ _) | (with_reducible assumption) | (with_reducible refine Below.alloc ?_ ?_ _) | (with_reducible refine below_drewN ?_ _) | (with_reducible refine Below.drew ?_) | (with_reducible refine Below.setCell ?_ ?_ _) | (with_reducible refine below_call (by assumption) ?_ ?_) | (with_reducible refine below_grown (by assumption) ?_ ?_ ?_) | omega | (simp; done) | (simp; omega)))⟩
      by_cases hd4 : kd = 4
      · subst hd4
        by_cases hmm : m = 0
        · subst hmm
          have HN : Hid (pointsV L (k + 1) = pz + 0) := HST
          cases u with
          | false =>
            have HOK : Hid (verbOk L k = false) := Lib.hid (by rw [verbOk_eq HR.out HM.out HU.out rfl]; simp)
            have hv1 : v = false := by rw [← HV.out]; exact path_not (n := k) (by rw [HL.out]; exact hlt) HOK.out
            subst hv1
            go_wp2_with fail
            refine (validPoints_eq cr (HQ.out.below (by (repeat' (first | (with_reducible exact Below.refl _ _) | (with_reducible assumption) | (with_reducible refine Below.alloc ?_ ?_ _) | (with_reducible refine below_drewN ?_ _) | (with_reducible refine Below.drew ?_) | (with_reducible refine Below.setCell ?_ ?_ _) | (with_reducible refine below_call (by assumption) ?_ ?_) | (with_reducible refine below_grown (by assumption) ?_ ?_ ?_) | omega | (simp; done) | (simp; omega))))) hm12 HU.out).mono ?_
            rintro e w7 ⟨rfl, hb7⟩
            have hb8 : Below wo.heap.size wo w7 := by (repeat' (first | (with_reducible exact Below.refl _ _) | (with_reducible assumption) | (with_reducible refine Below.alloc ?_ ?_ _) | (with_reducible refine below_drewN ?_ _) | (with_reducible refine Below.drew ?_) | (with_reducible refine Below.setCell ?_ ?_ _) | (with_reducible refine below_call (by assumption) ?_ ?_) | (with_reducible refine below_grown (by assumption) ?_ ?_ ?_) | omega | (simp; done) | (simp; omega)))
            have hz7 := hb8.size
            have hbl7 : b < w7.heap.size := by omega
            have y0 : w7.cell? ⟨b, o + k * 2, none⟩ = some (.int .i64 4) := (hb8.cell (p := ⟨b, o + k * 2, none⟩) hbl).trans x0
            clear x0 x1
            go_wp2
            go_ret
            exact ⟨rfl, by (repeat' (first | (with_reducible exact Below.refl _ _) | (with_reducible assumption) | (with_reducible refine Below.alloc ?_ ?_ _) | (with_reducible refine below_drewN ?_ _) | (with_reducible refine Below.drew ?_) | (with_reducible refine Below.setCell ?_ ?_ _) | (with_reducible refine below_call (by assumption) ?_ ?_) | (with_reducible refine below_grown (by assumption) ?_ ?_ ?_) | omega | (simp; done) | (simp; omega)))⟩
          | true =>
            by_cases hk0 : k = 0
            · subst hk0
              have HOK : Hid (verbOk L 0 = false) := Lib.hid (by rw [verbOk_eq HR.out HM.out HU.out (bg := true) (by simp)]; rfl)
              simp only [Nat.zero_mul, Nat.add_zero] at x0 x1
              have hv1 : v = false := by rw [← HV.out]; exact path_not (n := 0) (by rw [HL.out]; exact hlt) HOK.out
              subst hv1
              go_wp2_with fail
              refine (validPoints_eq cr (HQ.out.below (by (repeat' (first | (with_reducible exact Below.refl _ _) | (with_reducible assumption) | (with_reducible refine Below.alloc ?_ ?_ _) | (with_reducible refine below_drewN ?_ _) | (with_reducible refine Below.drew ?_) | (with_reducible refine Below.setCell ?_ ?_ _) | (with_reducible refine below_call (by assumption) ?_ ?_) | (with_reducible refine below_grown (by assumption) ?_ ?_ ?_) | omega | (simp; done) | (simp; omega))))) hm12 HU.out).mono ?_
              rintro e w7 ⟨rfl, hb7⟩
              have hb8 : Below wo.heap.size wo w7 := by (repeat' (first | (with_reducible exact Below.refl _ _) | (with_reducible assumption) | (with_reducible refine Below.alloc ?_ ?_ _) | (with_reducible refine below_drewN ?_ _) | (with_reducible refine Below.drew ?_) | (with_reducible refine Below.setCell ?_ ?_ _) | (with_reducible refine below_call (by assumption) ?_ ?_) | (with_reducible refine below_grown (by assumption) ?_ ?_ ?_) | omega | (simp; done) | (simp; omega)))
              have hz7 := hb8.size
              have hbl7 : b < w7.heap.size := by omega
              have y0 : w7.cell? ⟨b, o, none⟩ = some (.int .i64 4) := (hb8.cell (p := ⟨b, o, none⟩) hbl).trans x0
              clear x0 x1
              go_wp2
              go_ret
              exact ⟨rfl, by (repeat' (first | (with_reducible exact Below.refl _ _) | (with_reducible assumption) | (with_reducible refine Below.alloc ?_ ?_ _) | (with_reducible refine below_drewN ?_ _) | (with_reducible refine Below.drew ?_) | (with_reducible refine Below.setCell ?_ ?_ _) | (with_reducible refine below_call (by assumption) ?_ ?_) | (with_reducible refine below_grown (by assumption) ?_ ?_ ?_) | omega | (simp; done) | (simp; omega)))⟩
            · have ek : decide ((k : Int) = 0) = false := decide_eq_false (by omega)
              have ek2 : ((k : Int) == 0) = false := by simp; omega
              have ek3 : decide (k = 0) = false := decide_eq_false hk0
              have ek4 : (k == 0) = false := by simp [hk0]
              have ek5 : ¬ (k : Int) = 0 := by omega
              have ek6 : decide ((0 : Int) < k) = true := decide_eq_true (by omega)
              have ek7 : 0 < k := by omega
              have ek8 : (0 : Int) < k := by omega
              obtain ⟨k1, hk1⟩ : ∃ j, k = j + 1 := ⟨k - 1, by omega⟩
              have hk1n : k1 < n := by omega
              have hk1i : (k1 : Int) < n := by omega
              have ekk : (k : Int) - 1 = (k1 : Int) := by omega
              obtain ⟨b', o', pk, r', B', cr', e0, _, hr', z0, _⟩ := (HP.out.below hbel).at_ hk1n
              cases e0
              have hvb : (vb L (k - 1)).1 = pk := by rw [show k - 1 = k1 by omega, vb_at hr']
              have HK1 := Lib.hid hk1
              clear hr' hk1
              by_cases hp4 : pk = 4
              · have HOK : Hid (verbOk L k = false) := Lib.hid (by rw [verbOk_eq HR.out HM.out HU.out (bg := true) (by rw [hvb]; simp [hp4])]; rfl)
                clear hvb
                subst hp4
                have hv1 : v = false := by rw [← HV.out]; exact path_not (n := k) (by rw [HL.out]; exact hlt) HOK.out
                subst hv1
                go_wp2_with fail
                refine (validPoints_eq cr (HQ.out.below (by (repeat' (first | (with_reducible exact Below.refl _ _) | (with_reducible assumption) | (with_reducible refine Below.alloc ?_ ?_ _) | (with_reducible refine below_drewN ?_ _) | (with_reducible refine Below.drew ?_) | (with_reducible refine Below.setCell ?_ ?_ _) | (with_reducible refine below_call (by assumption) ?_ ?_) | (with_reducible refine below_grown (by assumption) ?_ ?_ ?_) | omega | (simp; done) | (simp; omega))))) hm12 HU.out).mono ?_
                rintro e w7 ⟨rfl, hb7⟩
                have hb8 : Below wo.heap.size wo w7 := by (repeat' (first | (with_reducible exact Below.refl _ _) | (with_reducible assumption) | (with_reducible refine Below.alloc ?_ ?_ _) | (with_reducible refine below_drewN ?_ _) | (with_reducible refine Below.drew ?_) | (with_reducible refine Below.setCell ?_ ?_ _) | (with_reducible refine below_call (by assumption) ?_ ?_) | (with_reducible refine below_grown (by assumption) ?_ ?_ ?_) | omega | (simp; done) | (simp; omega)))
                have hz7 := hb8.size
                have hbl7 : b < w7.heap.size := by omega
                have y0 : w7.cell? ⟨b, o + k * 2, none⟩ = some (.int .i64 4) := (hb8.cell (p := ⟨b, o + k * 2, none⟩) hbl).trans x0
                clear x0 x1
                have y1 : w7.cell? ⟨b, o + k1 * 2, none⟩ = some (.int .i64 4) := (hb8.cell (p := ⟨b, o + k1 * 2, none⟩) hbl).trans z0
                clear z0
                go_wp2
                go_ret
                exact ⟨rfl, by (repeat' (first | (with_reducible exact Below.refl _ _) | (with_reducible assumption) | (with_reducible refine Below.alloc ?_ ?_ _) | (with_reducible refine below_drewN ?_ _) | (with_reducible refine Below.drew ?_) | (with_reducible refine Below.setCell ?_ ?_ _) | (with_reducible refine below_call (by assumption) ?_ ?_) | (with_reducible refine below_grown (by assumption) ?_ ?_ ?_) | omega | (simp; done) | (simp; omega)))⟩
              · have HOK : Hid (verbOk L k = true) := Lib.hid (by rw [verbOk_eq HR.out HM.out HU.out (bg := false) (by rw [hvb]; simp [hp4, hk0])]; rfl)
                clear hvb
                have ep : decide (pk = 4) = false := decide_eq_false hp4
                have ep2 : (pk == 4) = false := by simp [hp4]
                go_wp2_with fail
                refine (validPoints_eq cr (HQ.out.below (by (repeat' (first | (with_reducible exact Below.refl _ _) | (with_reducible assumption) | (with_reducible refine Below.alloc ?_ ?_ _) | (with_reducible refine below_drewN ?_ _) | (with_reducible refine Below.drew ?_) | (with_reducible refine Below.setCell ?_ ?_ _) | (with_reducible refine below_call (by assumption) ?_ ?_) | (with_reducible refine below_grown (by assumption) ?_ ?_ ?_) | omega | (simp; done) | (simp; omega))))) hm12 HU.out).mono ?_
                rintro e w7 ⟨rfl, hb7⟩
                have hb8 : Below wo.heap.size wo w7 := by (repeat' (first | (with_reducible exact Below.refl _ _) | (with_reducible assumption) | (with_reducible refine Below.alloc ?_ ?_ _) | (with_reducible refine below_drewN ?_ _) | (with_reducible refine Below.drew ?_) | (with_reducible refine Below.setCell ?_ ?_ _) | (with_reducible refine below_call (by assumption) ?_ ?_) | (with_reducible refine below_grown (by assumption) ?_ ?_ ?_) | omega | (simp; done) | (simp; omega)))
                have hz7 := hb8.size
                have hbl7 : b < w7.heap.size := by omega
                have y0 : w7.cell? ⟨b, o + k * 2, none⟩ = some (.int .i64 4) := (hb8.cell (p := ⟨b, o + k * 2, none⟩) hbl).trans x0
                clear x0 x1
                have y1 : w7.cell? ⟨b, o + k1 * 2, none⟩ = some (.int .i64 pk) := (hb8.cell (p := ⟨b, o + k1 * 2, none⟩) hbl).trans z0
                clear z0
                go_wp2
                go_roundw
                case rel => exact ⟨k + 1, by omega, by go_num, by rw [HST.out, Int.natCast_add]; rfl, by simp only [verbsOk, HVO.out, HOK.out, Bool.and_self], by (repeat' (first | (with_reducible exact Below.refl _ _) | (with_reducible assumption) | (with_reducible refine Below.alloc ?_ ?_ _) | (with_reducible refine below_drewN ?_ _) | (with_reducible refine Below.drew ?_) | (with_reducible refine Below.setCell ?_ ?_ _) | (with_reducible refine below_call (by assumption) ?_ ?_) | (with_reducible refine below_grown (by assumption) ?_ ?_ ?_) | omega | (simp; done) | (simp; omega)))⟩
                case measure => simp [intOf]; omega
        · have hmi : ¬ (m : Int) = 0 := by omega
          have em : decide ((m : Int) = 0) = false := decide_eq_false hmi
          have em2 : ((m : Int) == 0) = false := by simp; omega
          have HOK : Hid (verbOk L k = false) := Lib.hid (by rw [verbOk_eq HR.out HM.out HU.out rfl, show manyV 4 = 0 from rfl]; simp [hmm])
          have hv1 : v = false := by rw [← HV.out]; exact path_not (n := k) (by rw [HL.out]; exact hlt) HOK.out
          subst hv1
          go_wp2
          go_ret
          exact ⟨rfl, by (repeat' (first | (with_reducible exact Below.refl _ _) | (with_reducible assumption) | (with_reducible refine Below.alloc ?_ ?_ _) | (with_reducible refine below_drewN ?_ _) | (with_reducible refine Below.drew ?_) | (with_reducible refine Below.setCell ?_ ?_ _) | (with_reducible refine below_call (by assumption) ?_ ?_) | (with_reducible refine below_grown (by assumption) ?_ ?_ ?_) | omega | (simp; done) | (simp; omega)))⟩
      have f0 : decide (kd = 0) = false := decide_eq_false hd0
      have f1 : decide (kd = 1) = false := decide_eq_false hd1
      have f2 : decide (kd = 2) = false := decide_eq_false hd2
      have f3 : decide (kd = 3) = false := decide_eq_false hd3
      have f4 : decide (kd = 4) = false := decide_eq_false hd4
      have HOK : Hid (verbOk L k = false) := Lib.hid (by
        rw [verbOk_eq HR.out HM.out HU.out rfl]
        have : inB kd 0 4 = false := by cases h : inB kd 0 4 with
          | false => rfl
          | true => have := inB_true.1 h; omega
        rw [this]; rfl)
      have hv1 : v = false := by rw [← HV.out]; exact path_not (n := k) (by rw [HL.out]; exact hlt) HOK.out
      subst hv1
      go_wp2
      go_ret
      exact ⟨rfl, by (repeat' (first | (with_reducible exact Below.refl _ _) | (with_reducible assumption) | (with_reducible refine Below.alloc ?_ ?_ _) | (with_reducible refine below_drewN ?_ _) | (with_reducible refine Below.drew ?_) | (with_reducible refine Below.setCell ?_ ?_ _) | (with_reducible refine below_call (by assumption) ?_ ?_) | (with_reducible refine below_grown (by assumption) ?_ ?_ ?_) | omega | (simp; done) | (simp; omega)))⟩
    · obtain rfl : k = n := by omega
      have eb : decide ((k : Int) < k) = false := by simp
      obtain ⟨pz, hpz⟩ : ∃ z, pointsV L k = z := ⟨_, rfl⟩
      have hv1 : v = (decide ((k : Int) ≤ 30) && decide ((pz : Int) ≤ 40)) := by
        rw [← HV.out, pathB, HL.out, HVO.out, Bool.true_and, hpz, ← Bool.decide_and]
        exact decide_eq_decide.2 (by omega)
      have hpm : pz ≤ 1048576 := by rw [← hpz]; have := HL.out; rw [this] at hS; omega
      rw [hpz]
      by_cases h8 : (k : Int) ≤ 30
      · have e8 : decide ((k : Int) ≤ 30) = true := decide_eq_true h8
        have hv2 : Hid (v = decide ((pz : Int) ≤ 40)) := Lib.hid (by rw [hv1, e8, Bool.true_and])
        clear hv1
        go_wp2
        go_ret
        exact ⟨by rw [hv2.out]; rfl, by (repeat' (first | (with_reducible exact Below.refl _ _) | (with_reducible assumption) | (with_reducible refine Below.alloc ?_ ?_ _) | (with_reducible refine below_drewN ?_ _) | (with_reducible refine Below.drew ?_) | (with_reducible refine Below.setCell ?_ ?_ _) | (with_reducible refine below_call (by assumption) ?_ ?_) | (with_reducible refine below_grown (by assumption) ?_ ?_ ?_) | omega | (simp; done) | (simp; omega)))⟩
      · have e8 : decide ((k : Int) ≤ 30) = false := decide_eq_false h8
        have hv2 : Hid (v = false) := Lib.hid (by rw [hv1, e8, Bool.false_and])
        clear hv1
        go_wp2
        go_ret
        exact ⟨by rw [hv2.out]; rfl, by (repeat' (first | (with_reducible exact Below.refl _ _) | (with_reducible assumption) | (with_reducible refine Below.alloc ?_ ?_ _) | (with_reducible refine below_drewN ?_ _) | (with_reducible refine Below.drew ?_) | (with_reducible refine Below.setCell ?_ ?_ _) | (with_reducible refine below_call (by assumption) ?_ ?_) | (with_reducible refine below_grown (by assumption) ?_ ?_ ?_) | omega | (simp; done) | (simp; omega)))⟩

theorem sValidPath_eq {A : Option Addr} {n : Nat} {L : List Vb} {w : World} {v : Bool} (c : Nat) (h : IsVbs w A n L) (hsz : sizeV L ≤ 1048576) (hv : pathB L = v) :
    Calls Try.prog 16 #[.slice A n c] w fun e w' => e = .returned (.bool v) ∧ Below w.heap.size w w' := by
  have HP := Lib.hid h
  have HS := Lib.hid hsz
  have HV := Lib.hid hv
  clear h hsz hv
  go_enter Try.func16, Try.ntmps16
  go_wp2_with fail
  refine (sValidPath_loop c HP.out HS.out HV.out).mono ?_
  rintro e w1 ⟨rfl, hb1⟩
  go_wp2
  go_ret
  exact ⟨rfl, by (repeat' (first | (with_reducible exact Below.refl _ _) | (with_reducible assumption) | (with_reducible refine Below.alloc ?_ ?_ _) | (with_reducible refine below_drewN ?_ _) | (with_reducible refine Below.drew ?_) | (with_reducible refine Below.setCell ?_ ?_ _) | (with_reducible refine below_call (by assumption) ?_ ?_) | (with_reducible refine below_grown (by assumption) ?_ ?_ ?_) | omega | (simp; done) | (simp; omega)))⟩

end Go.Proofs.Ytiocgklfkckomaa
