/-
  What the functions on points return: pointsValid, clone, boxOf, MovePoints, of the program and of the reference.
-/
import Derived.Test.YtbiddmimcdmnoaaPtsM
import Derived.Test.YtbiddmimcdmnoaaNum
import Derived.Test.YtbiddmimcdmnoaaReg2
namespace Go.Proofs.Ytbiddmimcdmnoaa
open Go.RowKit Pl

set_option linter.unusedSimpArgs false
set_option linter.unusedVariables false

theorem ptB_at {l : List Pt} {k : Nat} (h : k < l.length) : ptB (px l k, py l k) = ptB l[k] := by simp [px, py, h]
/-- All of the first k points are valid. -/
def allV (l : List Pt) (k : Nat) : Bool := (l.take k).all ptB
theorem allV_succ {l : List Pt} {k : Nat} (h : k < l.length) : allV l (k + 1) = (allV l k && ptB (px l k, py l k)) := by
  rw [allV, List.take_succ_eq_append_getElem h, List.all_append, ptB_at h]; simp [allV]
theorem allV_all (l : List Pt) : allV l l.length = l.all ptB := by simp [allV]
theorem all_not {l : List Pt} {k : Nat} (h : k < l.length) (hv : ptB (px l k, py l k) = false) : l.all ptB = false := by
  rw [ptB_at h] at hv
  rw [List.all_eq_false]
  exact ⟨_, List.getElem_mem h, by rw [hv]; decide⟩

set_option maxHeartbeats 400000 in
theorem notValid_eq {x y : Int} {v : Bool} (h : ptB (x, y) = v) (w : World) :
    Calls Try.prog 38 #[.agg #[.int .i64 x, .int .i64 y]] w fun e w' => e = .returned (.bool !v) ∧ Below w.heap.size w w' := by
  have H := Lib.hid h
  clear h
  cases v
  all_goals
    go_enter Try.func38, Try.ntmps38
    go_wp2_with ((go_at_call 39; (with_reducible refine (pvalid_eq (Hid.out (by with_reducible assumption)) _).mono ?_); rintro e w1 ⟨rfl, hb⟩; have hz := hb.size; (try simp at hz); (try (have hk := bcl hb (w.heap.size) (by first | omega | (simp; done) | (simp; omega)); have hc := hk.1; have hf := hk.2.1; have hk := hk.2.2))))
    go_ret
    exact ⟨rfl, by (repeat' (first | (with_reducible exact Below.refl _ _) | (with_reducible assumption) | (with_reducible refine Below.alloc ?_ ?_ _) | (with_reducible refine below_drewN ?_ _) | (with_reducible refine Below.drew ?_) | (with_reducible refine Below.setCell ?_ ?_ _) | (with_reducible refine below_call (by assumption) ?_ ?_) | (with_reducible refine below_grown (by assumption) ?_ ?_ ?_) | omega | (simp; done) | (simp; omega)))⟩

/-- A box and whether there is one. -/
def BxOk (x : Bx) (v : Bool) (w : World) (e : Ending) (w' : World) : Prop := e = .returned (.tuple #[.agg #[.int .i64 x.l, .int .i64 x.t, .int .i64 x.r, .int .i64 x.b], .bool v]) ∧ Below w.heap.size w w'

/-- A place, or -1: from 0 on if one of the points is not valid. -/
def IdxR (l : List Pt) (w : World) (e : Ending) (w' : World) : Prop := ∃ r : Int, e = .returned (.int .i64 r) ∧ decide (0 ≤ r) = !(l.all ptB) ∧ Below w.heap.size w w'

set_option maxHeartbeats 1000000 in
theorem IndexFunc_any {A : Option Addr} {n : Nat} {l : List Pt} {w : World} (c : Nat) (h : IsPts w A n l) (hn : n ≤ 1000000000000) :
    Calls Try.prog 45 #[.slice A n c, .func (.func 38) #[] #[]] w (IdxR l w) := by
  have hl := h.1
  have HP := Lib.hid h
  clear h
  go_enter Try.func45, Try.ntmps45
  go_wp2
  go_loopw [8] (fun i wr => ∃ k : Nat, k ≤ n ∧ i = .int .i64 k ∧ allV l k = true ∧ Below w.heap.size w wr) (fun i _ => n - (intOf i).toNat)
  case atStart => exact ⟨0, by omega, rfl, rfl, by (repeat' (first | (with_reducible exact Below.refl _ _) | (with_reducible assumption) | (with_reducible refine Below.alloc ?_ ?_ _) | (with_reducible refine below_drewN ?_ _) | (with_reducible refine Below.drew ?_) | (with_reducible refine Below.setCell ?_ ?_ _) | (with_reducible refine below_call (by assumption) ?_ ?_) | (with_reducible refine below_grown (by assumption) ?_ ?_ ?_) | omega | (simp; done) | (simp; omega)))⟩
  case round =>
    obtain ⟨k, hk, rfl, hv, hbel⟩ := hrel
    have hsz := hbel.size
    have HV := Lib.hid hv
    have HL := Lib.hid hl
    clear hv hl
    by_cases hlt : k < n
    · have eb : decide ((k : Int) < n) = true := by simp; omega
      obtain ⟨b, o, rfl, hbl, c0, c1⟩ := (HP.out.below hbel).at_ hlt
      rcases Bool.eq_false_or_eq_true (ptB (px l k, py l k)) with h1 | h1
      · have H1 := Lib.hid h1
        clear h1
        go_wp2_with ((go_at_call 38; (with_reducible refine (notValid_eq (Hid.out (by with_reducible assumption)) _).mono ?_); rintro e w1 ⟨rfl, hb⟩; have hz := hb.size; (try simp at hz); (try (have hk := bcl hb (b) (by first | omega | (simp; done) | (simp; omega)); have hc := hk.1; have hf := hk.2.1; have hk := hk.2.2))))
        go_roundw
        case rel => exact ⟨k + 1, by omega, by go_num, by rw [allV_succ (by rw [HL.out]; exact hlt), HV.out, H1.out]; rfl, by (repeat' (first | (with_reducible exact Below.refl _ _) | (with_reducible assumption) | (with_reducible refine Below.alloc ?_ ?_ _) | (with_reducible refine below_drewN ?_ _) | (with_reducible refine Below.drew ?_) | (with_reducible refine Below.setCell ?_ ?_ _) | (with_reducible refine below_call (by assumption) ?_ ?_) | (with_reducible refine below_grown (by assumption) ?_ ?_ ?_) | omega | (simp; done) | (simp; omega)))⟩
        case measure => simp [intOf]; omega
      · have H1 := Lib.hid h1
        have H2 := Lib.hid (all_not (by rw [HL.out]; exact hlt) h1)
        clear h1
        go_wp2_with ((go_at_call 38; (with_reducible refine (notValid_eq (Hid.out (by with_reducible assumption)) _).mono ?_); rintro e w1 ⟨rfl, hb⟩; have hz := hb.size; (try simp at hz); (try (have hk := bcl hb (b) (by first | omega | (simp; done) | (simp; omega)); have hc := hk.1; have hf := hk.2.1; have hk := hk.2.2))))
        go_ret
        exact ⟨k, rfl, by rw [H2.out]; simp, by (repeat' (first | (with_reducible exact Below.refl _ _) | (with_reducible assumption) | (with_reducible refine Below.alloc ?_ ?_ _) | (with_reducible refine below_drewN ?_ _) | (with_reducible refine Below.drew ?_) | (with_reducible refine Below.setCell ?_ ?_ _) | (with_reducible refine below_call (by assumption) ?_ ?_) | (with_reducible refine below_grown (by assumption) ?_ ?_ ?_) | omega | (simp; done) | (simp; omega)))⟩
    · obtain rfl : k = n := by omega
      have H2 : Hid (l.all ptB = true) := Lib.hid (by rw [← allV_all, HL.out]; exact HV.out)
      have eb : decide ((k : Int) < k) = false := by simp
      go_wp2
      go_ret
      exact ⟨-1, rfl, by rw [H2.out]; decide, by (repeat' (first | (with_reducible exact Below.refl _ _) | (with_reducible assumption) | (with_reducible refine Below.alloc ?_ ?_ _) | (with_reducible refine below_drewN ?_ _) | (with_reducible refine Below.drew ?_) | (with_reducible refine Below.setCell ?_ ?_ _) | (with_reducible refine below_call (by assumption) ?_ ?_) | (with_reducible refine below_grown (by assumption) ?_ ?_ ?_) | omega | (simp; done) | (simp; omega)))⟩

set_option maxHeartbeats 400000 in
theorem ContainsFunc_any {A : Option Addr} {n : Nat} {l : List Pt} {w : World} {v : Bool} (c : Nat) (h : IsPts w A n l) (hn : n ≤ 1000000000000) (hv : l.all ptB = v) :
    Calls Try.prog 37 #[.slice A n c, .func (.func 38) #[] #[]] w fun e w' => e = .returned (.bool !v) ∧ Below w.heap.size w w' := by
  have HP := Lib.hid h
  have HV := Lib.hid hv
  clear h hv
  go_enter Try.func37, Try.ntmps37
  go_wp2_with fail
  refine (IndexFunc_any c HP.out hn).mono ?_
  rintro e w1 ⟨r, rfl, hr, hb⟩
  rw [HV.out] at hr
  go_wp2
  go_ret
  exact ⟨rfl, by (repeat' (first | (with_reducible exact Below.refl _ _) | (with_reducible assumption) | (with_reducible refine Below.alloc ?_ ?_ _) | (with_reducible refine below_drewN ?_ _) | (with_reducible refine Below.drew ?_) | (with_reducible refine Below.setCell ?_ ?_ _) | (with_reducible refine below_call (by assumption) ?_ ?_) | (with_reducible refine below_grown (by assumption) ?_ ?_ ?_) | omega | (simp; done) | (simp; omega)))⟩

set_option maxHeartbeats 400000 in
theorem pointsValid_eq {A : Option Addr} {n : Nat} {l : List Pt} {w : World} {v : Bool} (c : Nat) (h : IsPts w A n l) (hn : n ≤ 1000000000000) (hv : validL l = v) :
    Calls Try.prog 22 #[.slice A n c] w fun e w' => e = .returned (.bool v) ∧ Below w.heap.size w w' := by
  subst hv
  have hl := h.1
  have HP := Lib.hid h
  clear h
  unfold validL
  rw [hl]
  clear hl
  by_cases h40 : n ≤ 40
  · have e1 : decide ((n : Int) ≤ 40) = true := by simp; omega
    have e2 : decide (n ≤ 40) = true := by simpa using h40
    obtain ⟨v, hv⟩ : ∃ v, l.all ptB = v := ⟨_, rfl⟩
    rw [hv, e2]
    have HV := Lib.hid hv
    clear hv e2
    go_enter Try.func22, Try.ntmps22
    go_wp2_with fail
    refine (ContainsFunc_any c HP.out hn (Hid.out (by with_reducible assumption))).mono ?_
    rintro e w1 ⟨rfl, hb⟩
    go_wp2
    go_ret
    exact ⟨by simp, by (repeat' (first | (with_reducible exact Below.refl _ _) | (with_reducible assumption) | (with_reducible refine Below.alloc ?_ ?_ _) | (with_reducible refine below_drewN ?_ _) | (with_reducible refine Below.drew ?_) | (with_reducible refine Below.setCell ?_ ?_ _) | (with_reducible refine below_call (by assumption) ?_ ?_) | (with_reducible refine below_grown (by assumption) ?_ ?_ ?_) | omega | (simp; done) | (simp; omega)))⟩
  · have e1 : decide ((n : Int) ≤ 40) = false := by simp; omega
    have e2 : decide (n ≤ 40) = false := by simpa using h40
    rw [e2]
    clear e2
    go_enter Try.func22, Try.ntmps22
    go_wp2
    go_ret
    exact ⟨rfl, by (repeat' (first | (with_reducible exact Below.refl _ _) | (with_reducible assumption) | (with_reducible refine Below.alloc ?_ ?_ _) | (with_reducible refine below_drewN ?_ _) | (with_reducible refine Below.drew ?_) | (with_reducible refine Below.setCell ?_ ?_ _) | (with_reducible refine below_call (by assumption) ?_ ?_) | (with_reducible refine below_grown (by assumption) ?_ ?_ ?_) | omega | (simp; done) | (simp; omega)))⟩

set_option maxHeartbeats 1000000 in
theorem validPoints_eq {A : Option Addr} {n : Nat} {l : List Pt} {w : World} {v : Bool} (c : Nat) (h : IsPts w A n l) (hn : n ≤ 1000000000000) (hv : validL l = v) :
    Calls Try.prog 17 #[.slice A n c] w fun e w' => e = .returned (.bool v) ∧ Below w.heap.size w w' := by
  subst hv
  have hl := h.1
  have HP := Lib.hid h
  clear h
  have HW : Hid (validL l = (decide (n ≤ 40) && l.all ptB)) := Lib.hid (by unfold validL; rw [hl])
  go_enter Try.func17, Try.ntmps17
  go_wp2
  go_loopw [3] (fun i wr => ∃ k : Nat, k ≤ n ∧ i = .int .i64 k ∧ allV l k = true ∧ Below w.heap.size w wr) (fun i _ => n - (intOf i).toNat)
  case atStart => exact ⟨0, by omega, rfl, rfl, by (repeat' (first | (with_reducible exact Below.refl _ _) | (with_reducible assumption) | (with_reducible refine Below.alloc ?_ ?_ _) | (with_reducible refine below_drewN ?_ _) | (with_reducible refine Below.drew ?_) | (with_reducible refine Below.setCell ?_ ?_ _) | (with_reducible refine below_call (by assumption) ?_ ?_) | (with_reducible refine below_grown (by assumption) ?_ ?_ ?_) | omega | (simp; done) | (simp; omega)))⟩
  case round =>
    obtain ⟨k, hk, rfl, hv, hbel⟩ := hrel
    have hsz := hbel.size
    have HV := Lib.hid hv
    have HL := Lib.hid hl
    clear hv hl
    by_cases hlt : k < n
    · have eb : decide ((k : Int) < n) = true := by simp; omega
      obtain ⟨b, o, rfl, hbl, c0, c1⟩ := (HP.out.below hbel).at_ hlt
      rcases Bool.eq_false_or_eq_true (ptB (px l k, py l k)) with h1 | h1
      · have H1 := Lib.hid h1
        clear h1
        go_wp2_with ((go_at_call 35; (with_reducible refine (validPoint_eq (Hid.out (by with_reducible assumption)) _).mono ?_); rintro e w1 ⟨rfl, hb⟩; have hz := hb.size; (try simp at hz); (try (have hk := bcl hb (b) (by first | omega | (simp; done) | (simp; omega)); have hc := hk.1; have hf := hk.2.1; have hk := hk.2.2))))
        go_roundw
        case rel => exact ⟨k + 1, by omega, by go_num, by rw [allV_succ (by rw [HL.out]; exact hlt), HV.out, H1.out]; rfl, by (repeat' (first | (with_reducible exact Below.refl _ _) | (with_reducible assumption) | (with_reducible refine Below.alloc ?_ ?_ _) | (with_reducible refine below_drewN ?_ _) | (with_reducible refine Below.drew ?_) | (with_reducible refine Below.setCell ?_ ?_ _) | (with_reducible refine below_call (by assumption) ?_ ?_) | (with_reducible refine below_grown (by assumption) ?_ ?_ ?_) | omega | (simp; done) | (simp; omega)))⟩
        case measure => simp [intOf]; omega
      · have H1 := Lib.hid h1
        have H2 := Lib.hid (all_not (by rw [HL.out]; exact hlt) h1)
        clear h1
        go_wp2_with ((go_at_call 35; (with_reducible refine (validPoint_eq (Hid.out (by with_reducible assumption)) _).mono ?_); rintro e w1 ⟨rfl, hb⟩; have hz := hb.size; (try simp at hz); (try (have hk := bcl hb (b) (by first | omega | (simp; done) | (simp; omega)); have hc := hk.1; have hf := hk.2.1; have hk := hk.2.2))))
        go_ret
        exact ⟨by rw [HW.out, H2.out, Bool.and_false]; rfl, by (repeat' (first | (with_reducible exact Below.refl _ _) | (with_reducible assumption) | (with_reducible refine Below.alloc ?_ ?_ _) | (with_reducible refine below_drewN ?_ _) | (with_reducible refine Below.drew ?_) | (with_reducible refine Below.setCell ?_ ?_ _) | (with_reducible refine below_call (by assumption) ?_ ?_) | (with_reducible refine below_grown (by assumption) ?_ ?_ ?_) | omega | (simp; done) | (simp; omega)))⟩
    · obtain rfl : k = n := by omega
      have H2 : Hid (l.all ptB = true) := Lib.hid (by rw [← allV_all, HL.out]; exact HV.out)
      have eb : decide ((k : Int) < k) = false := by simp
      go_wp2
      go_ret
      exact ⟨ret_bool (by rw [HW.out, H2.out, Bool.and_true]; simp; try omega), by (repeat' (first | (with_reducible exact Below.refl _ _) | (with_reducible assumption) | (with_reducible refine Below.alloc ?_ ?_ _) | (with_reducible refine below_drewN ?_ _) | (with_reducible refine Below.drew ?_) | (with_reducible refine Below.setCell ?_ ?_ _) | (with_reducible refine below_call (by assumption) ?_ ?_) | (with_reducible refine below_grown (by assumption) ?_ ?_ ?_) | omega | (simp; done) | (simp; omega)))⟩

end Go.Proofs.Ytbiddmimcdmnoaa
