/-
  ValidRings, of the program and of the reference.
-/
import Derived.Test.YtbiddmimcdmnoaaExR
import Derived.Test.YtbiddmimcdmnoaaPtsF
namespace Go.Proofs.Ytbiddmimcdmnoaa
open Go.RowKit Pl

set_option linter.unusedSimpArgs false
set_option linter.unusedVariables false

theorem ringOk_at {L : List (List Pt)} {k : Nat} {r : List Pt} (hr : L[k]? = some r) (h : ringOk r = false) : ringsOk L = false := by
  have : L.all ringOk = false := by
    rw [List.all_eq_false]
    exact ⟨r, List.mem_of_getElem? hr, by rw [h]; decide⟩
  rw [ringsOk, this]; rfl
theorem all_take {L : List (List Pt)} {k : Nat} {r : List Pt} (h : (L.take k).all ringOk = true) (hr : L[k]? = some r) (ho : ringOk r = true) : (L.take (k + 1)).all ringOk = true := by
  obtain ⟨hk, rfl⟩ := List.getElem?_eq_some_iff.1 hr
  rw [List.take_succ_eq_append_getElem hk, List.all_append, h]
  simp [ho]
theorem ringsOk_all {L : List (List Pt)} (h : L.all ringOk = true) : ringsOk L = decide (L.length ≤ 8 ∧ ringsLen L ≤ 200) := by rw [ringsOk, h, Bool.true_and]

set_option maxHeartbeats 2000000 in
theorem ValidRings_eq {A : Option Addr} {n : Nat} {L : List (List Pt)} {w : World} {v : Bool} (c : Nat) (h : IsRs w A n L) (hsz : sizeR L ≤ 1048576) (hv : ringsOk L = v) :
    Calls Try.prog 26 #[.slice A n c] w fun e w' => e = .returned (.bool v) ∧ Below w.heap.size w w' := by
  have hl := h.len
  have hS : n + ringsLen L ≤ 1048576 := by rw [sizeR, hl] at hsz; exact hsz
  have HP := Lib.hid h
  have HL := Lib.hid hl
  have HV := Lib.hid hv
  clear h hl hv hsz
  go_enter Try.func26, Try.ntmps26
  go_wp2
  go_loopw [3, 8] (fun co i wr => ∃ k : Nat, k ≤ n ∧ i = .int .i64 k ∧ co = .int .i64 (ringsLen (L.take k) : Nat) ∧ (L.take k).all ringOk = true ∧ Below w.heap.size w wr) (fun _ i _ => n - (intOf i).toNat)
  case atStart => exact ⟨0, by omega, rfl, rfl, rfl, by (repeat' (first | (with_reducible exact Below.refl _ _) | (with_reducible assumption) | (with_reducible refine Below.alloc ?_ ?_ _) | (with_reducible refine below_drewN ?_ _) | (with_reducible refine Below.drew ?_) | (with_reducible refine Below.setCell ?_ ?_ _) | (with_reducible refine below_call (by assumption) ?_ ?_) | (with_reducible refine below_grown (by assumption) ?_ ?_ ?_) | omega | (simp; done) | (simp; omega)))⟩
  case round =>
    obtain ⟨k, hk, rfl, rfl, hall, hbel⟩ := hrel
    obtain ⟨wo, rfl⟩ : ∃ wo : World, wo = wr := ⟨_, rfl⟩
    have hsz := hbel.size
    have HA := Lib.hid hall
    clear hall
    have hle := ringsLen_le L k
    obtain ⟨z, hz⟩ : ∃ z, ringsLen (L.take k) = z := ⟨_, rfl⟩
    rw [hz] at hle ⊢
    have HZ := Lib.hid hz
    clear hz
    by_cases hlt : k < n
    · have eb : decide ((k : Int) < n) = true := by simp; omega
      have hki : (k : Int) < n := by omega
      obtain ⟨r, b, o, B, cr, hr, rfl, hbl, x0, q1, q2, hp⟩ := (HP.out.below hbel).at_ hlt
      have hst := ringsLen_take hr
      have hle2 := ringsLen_le L (k + 1)
      obtain ⟨m, hm⟩ : ∃ m, r.length = m := ⟨_, rfl⟩
      rw [hm] at x0 hst hp
      have HM := Lib.hid hm
      have HR := Lib.hid hr
      have HQ := Lib.hid hp
      have HT := Lib.hid hst
      have hm1 : z + m ≤ 1048576 := by rw [hst, HZ.out] at hle2; omega
      clear hr hp hm hst hle2 q1 q2
      by_cases hm0 : m = 0
      · subst hm0
        have hv1 : v = false := by rw [← HV.out]; exact ringOk_at HR.out (by simp [ringOk, List.length_eq_zero_iff.1 HM.out])
        subst hv1
        go_wp2_with fail
        go_ret
        exact ⟨rfl, by (repeat' (first | (with_reducible exact Below.refl _ _) | (with_reducible assumption) | (with_reducible refine Below.alloc ?_ ?_ _) | (with_reducible refine below_drewN ?_ _) | (with_reducible refine Below.drew ?_) | (with_reducible refine Below.setCell ?_ ?_ _) | (with_reducible refine below_call (by assumption) ?_ ?_) | (with_reducible refine below_grown (by assumption) ?_ ?_ ?_) | omega | (simp; done) | (simp; omega)))⟩
      · have e1 : decide ((m : Int) = 0) = false := decide_eq_false (by omega)
        have e2 : ((m : Int) == 0) = false := by simp; omega
        obtain ⟨u, hu⟩ : ∃ u, validL r = u := ⟨_, rfl⟩
        have HU := Lib.hid hu
        have hok : ringOk r = u := by rw [ringOk, hu]; have : r ≠ [] := fun e => hm0 (by rw [← HM.out, e]; rfl); simp [this]
        have HO := Lib.hid hok
        clear hu hok
        cases u with
        | false =>
          have hv1 : v = false := by rw [← HV.out]; exact ringOk_at HR.out HO.out
          subst hv1
          go_wp2_with fail
          refine (pointsValid_eq cr HQ.out (by omega) HU.out).mono ?_
          rintro e w1 ⟨rfl, hb1⟩
          have hz1 := hb1.size
          go_wp2
          go_ret
          exact ⟨rfl, by (repeat' (first | (with_reducible exact Below.refl _ _) | (with_reducible assumption) | (with_reducible refine Below.alloc ?_ ?_ _) | (with_reducible refine below_drewN ?_ _) | (with_reducible refine Below.drew ?_) | (with_reducible refine Below.setCell ?_ ?_ _) | (with_reducible refine below_call (by assumption) ?_ ?_) | (with_reducible refine below_grown (by assumption) ?_ ?_ ?_) | omega | (simp; done) | (simp; omega)))⟩
        | true =>
          have x0' := x0
          go_wp2_with fail
          refine (pointsValid_eq cr HQ.out (by omega) HU.out).mono ?_
          rintro e w1 ⟨rfl, hb1⟩
          have hz1 := hb1.size
          have x1 : w1.cell? ⟨b, o + k, none⟩ = some (.slice B m cr) := (hb1.cell (p := ⟨b, o + k, none⟩) hbl).trans x0'
          have hbl1 : b < w1.heap.size := by omega
          have hfin : (L.take (k + 1)).all ringOk = true := all_take HA.out HR.out HO.out
          have HF := Lib.hid hfin
          clear x0 x0' hfin
          go_wp2
          go_roundw
          case rel => exact ⟨k + 1, by omega, by go_num, by rw [HT.out, HZ.out]; go_num, HF.out, by (repeat' (first | (with_reducible exact Below.refl _ _) | (with_reducible assumption) | (with_reducible refine Below.alloc ?_ ?_ _) | (with_reducible refine below_drewN ?_ _) | (with_reducible refine Below.drew ?_) | (with_reducible refine Below.setCell ?_ ?_ _) | (with_reducible refine below_call (by assumption) ?_ ?_) | (with_reducible refine below_grown (by assumption) ?_ ?_ ?_) | omega | (simp; done) | (simp; omega)))⟩
          case measure => simp [intOf]; omega
    · obtain rfl : k = n := by omega
      have eb : decide ((k : Int) < k) = false := by simp
      have ht : L.take k = L := by rw [← HL.out, List.take_length]
      have hv1 : v = (decide ((k : Int) ≤ 8) && decide ((z : Int) ≤ 200)) := by
        rw [← HV.out, ringsOk_all (by have := HA.out; rwa [ht] at this), HL.out, ← HZ.out, ht, ← Bool.decide_and]
        exact decide_eq_decide.2 (by omega)
      by_cases h8 : (k : Int) ≤ 8
      · have e8 : decide ((k : Int) ≤ 8) = true := decide_eq_true h8
        have hv2 : Hid (v = decide ((z : Int) ≤ 200)) := Lib.hid (by rw [hv1, e8, Bool.true_and])
        clear hv1
        go_wp2
        go_ret
        exact ⟨by rw [hv2.out]; rfl, by (repeat' (first | (with_reducible exact Below.refl _ _) | (with_reducible assumption) | (with_reducible refine Below.alloc ?_ ?_ _) | (with_reducible refine below_drewN ?_ _) | (with_reducible refine Below.drew ?_) | (with_reducible refine Below.setCell ?_ ?_ _) | (with_reducible refine below_call (by assumption) ?_ ?_) | (with_reducible refine below_grown (by assumption) ?_ ?_ ?_) | omega | (simp; done) | (simp; omega)))⟩
      · have e8 : decide ((k : Int) ≤ 8) = false := decide_eq_false h8
        have hv2 : Hid (v = false) := Lib.hid (by rw [hv1, e8, Bool.false_and])
        clear hv1
        go_wp2
        go_ret
        exact ⟨by rw [hv2.out]; rfl, by (repeat' (first | (with_reducible exact Below.refl _ _) | (with_reducible assumption) | (with_reducible refine Below.alloc ?_ ?_ _) | (with_reducible refine below_drewN ?_ _) | (with_reducible refine Below.drew ?_) | (with_reducible refine Below.setCell ?_ ?_ _) | (with_reducible refine below_call (by assumption) ?_ ?_) | (with_reducible refine below_grown (by assumption) ?_ ?_ ?_) | omega | (simp; done) | (simp; omega)))⟩

set_option maxHeartbeats 2000000 in
theorem validRings_eq {A : Option Addr} {n : Nat} {L : List (List Pt)} {w : World} {v : Bool} (c : Nat) (h : IsRs w A n L) (hsz : sizeR L ≤ 1048576) (hv : ringsOk L = v) :
    Calls Try.prog 20 #[.slice A n c] w fun e w' => e = .returned (.bool v) ∧ Below w.heap.size w w' := by
  have hl := h.len
  have hS : n + ringsLen L ≤ 1048576 := by rw [sizeR, hl] at hsz; exact hsz
  have HP := Lib.hid h
  have HL := Lib.hid hl
  have HV := Lib.hid hv
  clear h hl hv hsz
  go_enter Try.func20, Try.ntmps20
  go_wp2
  go_loopw [3, 4] (fun co i wr => ∃ k : Nat, k ≤ n ∧ i = .int .i64 k ∧ co = .int .i64 (ringsLen (L.take k) : Nat) ∧ (L.take k).all ringOk = true ∧ Below w.heap.size w wr) (fun _ i _ => n - (intOf i).toNat)
  case atStart => exact ⟨0, by omega, rfl, rfl, rfl, by (repeat' (first | (with_reducible exact Below.refl _ _) | (with_reducible assumption) | (with_reducible refine Below.alloc ?_ ?_ _) | (with_reducible refine below_drewN ?_ _) | (with_reducible refine Below.drew ?_) | (with_reducible refine Below.setCell ?_ ?_ _) | (with_reducible refine below_call (by assumption) ?_ ?_) | (with_reducible refine below_grown (by assumption) ?_ ?_ ?_) | omega | (simp; done) | (simp; omega)))⟩
  case round =>
    obtain ⟨k, hk, rfl, rfl, hall, hbel⟩ := hrel
    obtain ⟨wo, rfl⟩ : ∃ wo : World, wo = wr := ⟨_, rfl⟩
    have hsz := hbel.size
    have HA := Lib.hid hall
    clear hall
    have hle := ringsLen_le L k
    obtain ⟨z, hz⟩ : ∃ z, ringsLen (L.take k) = z := ⟨_, rfl⟩
    rw [hz] at hle ⊢
    have HZ := Lib.hid hz
    clear hz
    by_cases hlt : k < n
    · have eb : decide ((k : Int) < n) = true := by simp; omega
      have hki : (k : Int) < n := by omega
      obtain ⟨r, b, o, B, cr, hr, rfl, hbl, x0, q1, q2, hp⟩ := (HP.out.below hbel).at_ hlt
      have hst := ringsLen_take hr
      have hle2 := ringsLen_le L (k + 1)
      obtain ⟨m, hm⟩ : ∃ m, r.length = m := ⟨_, rfl⟩
      rw [hm] at x0 hst hp
      have HM := Lib.hid hm
      have HR := Lib.hid hr
      have HQ := Lib.hid hp
      have HT := Lib.hid hst
      have hm1 : z + m ≤ 1048576 := by rw [hst, HZ.out] at hle2; omega
      clear hr hp hm hst hle2 q1 q2
      by_cases hm0 : m = 0
      · subst hm0
        have hv1 : v = false := by rw [← HV.out]; exact ringOk_at HR.out (by simp [ringOk, List.length_eq_zero_iff.1 HM.out])
        subst hv1
        go_wp2_with fail
        go_ret
        exact ⟨rfl, by (repeat' (first | (with_reducible exact Below.refl _ _) | (with_reducible assumption) | (with_reducible refine Below.alloc ?_ ?_ _) | (with_reducible refine below_drewN ?_ _) | (with_reducible refine Below.drew ?_) | (with_reducible refine Below.setCell ?_ ?_ _) | (with_reducible refine below_call (by assumption) ?_ ?_) | (with_reducible refine below_grown (by assumption) ?_ ?_ ?_) | omega | (simp; done) | (simp; omega)))⟩
      · have e1 : decide ((m : Int) = 0) = false := decide_eq_false (by omega)
        have e2 : ((m : Int) == 0) = false := by simp; omega
        obtain ⟨u, hu⟩ : ∃ u, validL r = u := ⟨_, rfl⟩
        have HU := Lib.hid hu
        have hok : ringOk r = u := by rw [ringOk, hu]; have : r ≠ [] := fun e => hm0 (by rw [← HM.out, e]; rfl); simp [this]
        have HO := Lib.hid hok
        clear hu hok
        cases u with
        | false =>
          have hv1 : v = false := by rw [← HV.out]; exact ringOk_at HR.out HO.out
          subst hv1
          go_wp2_with fail
          refine (validPoints_eq cr HQ.out (by omega) HU.out).mono ?_
          rintro e w1 ⟨rfl, hb1⟩
          have hz1 := hb1.size
          go_wp2
          go_ret
          exact ⟨rfl, by (repeat' (first | (with_reducible exact Below.refl _ _) | (with_reducible assumption) | (with_reducible refine Below.alloc ?_ ?_ _) | (with_reducible refine below_drewN ?_ _) | (with_reducible refine Below.drew ?_) | (with_reducible refine Below.setCell ?_ ?_ _) | (with_reducible refine below_call (by assumption) ?_ ?_) | (with_reducible refine below_grown (by assumption) ?_ ?_ ?_) | omega | (simp; done) | (simp; omega)))⟩
        | true =>
          have x0' := x0
          go_wp2_with fail
          refine (validPoints_eq cr HQ.out (by omega) HU.out).mono ?_
          rintro e w1 ⟨rfl, hb1⟩
          have hz1 := hb1.size
          have x1 : w1.cell? ⟨b, o + k, none⟩ = some (.slice B m cr) := (hb1.cell (p := ⟨b, o + k, none⟩) hbl).trans x0'
          have hbl1 : b < w1.heap.size := by omega
          have hfin : (L.take (k + 1)).all ringOk = true := all_take HA.out HR.out HO.out
          have HF := Lib.hid hfin
          clear x0 x0' hfin
          go_wp2
          go_roundw
          case rel => exact ⟨k + 1, by omega, by go_num, by rw [HT.out, HZ.out]; go_num, HF.out, by (repeat' (first | (with_reducible exact Below.refl _ _) | (with_reducible assumption) | (with_reducible refine Below.alloc ?_ ?_ _) | (with_reducible refine below_drewN ?_ _) | (with_reducible refine Below.drew ?_) | (with_reducible refine Below.setCell ?_ ?_ _) | (with_reducible refine below_call (by assumption) ?_ ?_) | (with_reducible refine below_grown (by assumption) ?_ ?_ ?_) | omega | (simp; done) | (simp; omega)))⟩
          case measure => simp [intOf]; omega
    · obtain rfl : k = n := by omega
      have eb : decide ((k : Int) < k) = false := by simp
      have ht : L.take k = L := by rw [← HL.out, List.take_length]
      have hv1 : v = (decide ((k : Int) ≤ 8) && decide ((z : Int) ≤ 200)) := by
        rw [← HV.out, ringsOk_all (by have := HA.out; rwa [ht] at this), HL.out, ← HZ.out, ht, ← Bool.decide_and]
        exact decide_eq_decide.2 (by omega)
      by_cases h8 : (k : Int) ≤ 8
      · have e8 : decide ((k : Int) ≤ 8) = true := decide_eq_true h8
        have hv2 : Hid (v = decide ((z : Int) ≤ 200)) := Lib.hid (by rw [hv1, e8, Bool.true_and])
        clear hv1
        go_wp2
        go_ret
        exact ⟨by rw [hv2.out]; rfl, by (repeat' (first | (with_reducible exact Below.refl _ _) | (with_reducible assumption) | (with_reducible refine Below.alloc ?_ ?_ _) | (with_reducible refine below_drewN ?_ _) | (with_reducible refine Below.drew ?_) | (with_reducible refine Below.setCell ?_ ?_ _) | (with_reducible refine below_call (by assumption) ?_ ?_) | (with_reducible refine below_grown (by assumption) ?_ ?_ ?_) | omega | (simp; done) | (simp; omega)))⟩
      · have e8 : decide ((k : Int) ≤ 8) = false := decide_eq_false h8
        have hv2 : Hid (v = false) := Lib.hid (by rw [hv1, e8, Bool.false_and])
        clear hv1
        go_wp2
        go_ret
        exact ⟨by rw [hv2.out]; rfl, by (repeat' (first | (with_reducible exact Below.refl _ _) | (with_reducible assumption) | (with_reducible refine Below.alloc ?_ ?_ _) | (with_reducible refine below_drewN ?_ _) | (with_reducible refine Below.drew ?_) | (with_reducible refine Below.setCell ?_ ?_ _) | (with_reducible refine below_call (by assumption) ?_ ?_) | (with_reducible refine below_grown (by assumption) ?_ ?_ ?_) | omega | (simp; done) | (simp; omega)))⟩

end Go.Proofs.Ytbiddmimcdmnoaa
