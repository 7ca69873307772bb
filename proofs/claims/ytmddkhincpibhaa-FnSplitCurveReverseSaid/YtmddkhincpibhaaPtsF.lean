/-
  What the functions on points return: pointsValid, clone, boxOf, MovePoints, of the program and of the reference.
-/
import Derived.Test.YtmddkhincpibhaaPtsM
import Derived.Test.YtmddkhincpibhaaNum
import Derived.Test.YtmddkhincpibhaaReg2
namespace Go.Proofs.Ytmddkhincpibhaa
open Go.RowKit Pl

set_option linter.unusedSimpArgs false
set_option linter.unusedVariables false

theorem ptB_at {l : List Pt} {k : Nat} (h : k < l.length) : ptB (px l k, py l k) = ptB l[k] := by simp [px, py, h]
/-- All of the first k points are valid. -/
def allV (l : List Pt) (k : Nat) : Bool := (l.take k).all ptB
theorem allV_succ {l : List Pt} {k : Nat} (h : k < l.length) : allV l (k + 1) = (allV l k && ptB (px l k, py l k)) := by
  rw [allV, List.take_succ_eq_append_getElem h, List.all_append, ptB_at h]; simp [allV]
theorem allV_all (l : List Pt) : allV l l.length = l.all ptB := by simp [allV]
theorem all_not {l : List Pt} {k : Nat} (h : k < l.length) (hv : ptB (px l k, py l k) = false) : l.all ptB = false := by
  rw [ptB_at h] at hv
  rw [List.all_eq_false]
  exact ⟨_, List.getElem_mem h, by rw [hv]; decide⟩

set_option maxHeartbeats 400000 in
theorem notValid_eq {x y : Int} {v : Bool} (h : ptB (x, y) = v) (w : World) :
    Calls Try.prog 67 #[.agg #[.int .i64 x, .int .i64 y]] w fun e w' => e = .returned (.bool !v) ∧ Below w.heap.size w w' := by
  have H := Lib.hid h
  clear h
  cases v
  all_goals
    go_enter Try.func67, Try.ntmps67
    go_wp2_with ((go_at_call 68; (with_reducible refine (pvalid_eq (Hid.out (by with_reducible assumption)) _).mono ?_); rintro e w1 ⟨rfl, hb⟩; have hz := hb.size; (try simp at hz); (try (have hk := bcl hb (w.heap.size) (by first | omega | (simp; done) | (simp; omega)); have hc := hk.1; have hf := hk.2.1; have hk := hk.2.2))))
    go_ret
    exact ⟨rfl, by (repeat' (first | (with_reducible exact Below.refl _ _) | (with_reducible assumption) | (with_reducible refine Below.alloc ?_ ?_ _) | (with_reducible refine below_drewN ?_ _) | (with_reducible refine Below.drew ?_) | (with_reducible refine Below.setCell ?_ ?_ _) | (with_reducible refine below_call (by assumption) ?_ ?_) | (with_reducible refine below_grown (by assumption) ?_ ?_ ?_) | omega | (simp; done) | (simp; omega)))⟩

/-- A box and whether there is one. -/
def BxOk (x : Bx) (v : Bool) (w : World) (e : Ending) (w' : World) : Prop := e = .returned (.tuple #[.agg #[.int .i64 x.l, .int .i64 x.t, .int .i64 x.r, .int .i64 x.b], .bool v]) ∧ Below w.heap.size w w'

/-- A place, or -1: from 0 on if one of the points is not valid. -/
def IdxR (l : List Pt) (w : World) (e : Ending) (w' : World) : Prop := ∃ r : Int, e = .returned (.int .i64 r) ∧ decide (0 ≤ r) = !(l.all ptB) ∧ Below w.heap.size w w'

set_option maxHeartbeats 1000000 in
theorem IndexFunc_any {A : Option Addr} {n : Nat} {l : List Pt} {w : World} (c : Nat) (h : IsPts w A n l) (hn : n ≤ 1000000000000) :
    Calls Try.prog 77 #[.slice A n c, .func (.func 67) #[] #[]] w (IdxR l w) := by
  have hl := h.1
  have HP := Lib.hid h
  clear h
  go_enter Try.func77, Try.ntmps77
  go_wp2
  go_loopw [8] (fun i wr => ∃ k : Nat, k ≤ n ∧ i = .int .i64 k ∧ allV l k = true ∧ Below w.heap.size w wr) (fun i _ => n - (intOf i).toNat)
  case atStart => exact ⟨0, by omega, rfl, rfl, by (repeat' (first | (with_reducible exact Below.refl _ _) | (with_reducible assumption) | (with_reducible refine Below.alloc ?_ ?_ _) | (with_reducible refine below_drewN ?_ _) | (with_reducible refine Below.drew ?_) | (with_reducible refine Below.setCell ?_ ?_ _) | (with_reducible refine below_call (by assumption) ?_ ?_) | (with_reducible refine below_grown (by assumption) ?_ ?_ ?_) | omega | (simp; done) | (simp; omega)))⟩
  case round =>
    obtain ⟨k, hk, rfl, hv, hbel⟩ := hrel
    have hsz := hbel.size
    have HV := Lib.hid hv
    have HL := Lib.hid hl
    clear hv hl
    by_cases hlt : k < n
    · have eb : decide ((k : Int) < n) = true := by simp; omega
      obtain ⟨b, o, rfl, hbl, c0, c1⟩ := (HP.out.below hbel).at_ hlt
      rcases Bool.eq_false_or_eq_true (ptB (px l k, py l k)) with h1 | h1
      · have H1 := Lib.hid h1
        clear h1
        go_wp2_with ((go_at_call 67; (with_reducible refine (notValid_eq (Hid.out (by with_reducible assumption)) _).mono ?_); rintro e w1 ⟨rfl, hb⟩; have hz := hb.size; (try simp at hz); (try (have hk := bcl hb (b) (by first | omega | (simp; done) | (simp; omega)); have hc := hk.1; have hf := hk.2.1; have hk := hk.2.2))))
        go_roundw
        case rel => exact ⟨k + 1, by omega, by go_num, by rw [allV_succ (by rw [HL.out]; exact hlt), HV.out, H1.out]; rfl, by (repeat' (first | (with_reducible exact Below.refl _ _) | (with_reducible assumption) | (with_reducible refine Below.alloc ?_ ?_ _) | (with_reducible refine below_drewN ?_ _) | (with_reducible refine Below.drew ?_) | (with_reducible refine Below.setCell ?_ ?_ _) | (with_reducible refine below_call (by assumption) ?_ ?_) | (with_reducible refine below_grown (by assumption) ?_ ?_ ?_) | omega | (simp; done) | (simp; omega)))⟩
        case measure => simp [intOf]; omega
      · have H1 := Lib.hid h1
        have H2 := Lib.hid (all_not (by rw [HL.out]; exact hlt) h1)
        clear h1
        go_wp2_with ((go_at_call 67; (with_reducible refine (notValid_eq (Hid.out (by with_reducible assumption)) _).mono ?_); rintro e w1 ⟨rfl, hb⟩; have hz := hb.size; (try simp at hz); (try (have hk := bcl hb (b) (by first | omega | (simp; done) | (simp; omega)); have hc := hk.1; have hf := hk.2.1; have hk := hk.2.2))))
        go_ret
        exact ⟨k, rfl, by rw [H2.out]; simp, by (repeat' (first | (with_reducible exact Below.refl _ _) | (with_reducible assumption) | (with_reducible refine Below.alloc ?_ ?_ _) | (with_reducible refine below_drewN ?_ _) | (with_reducible refine Below.drew ?_) | (with_reducible refine Below.setCell ?_ ?_ _) | (with_reducible refine below_call (by assumption) ?_ ?_) | (with_reducible refine below_grown (by assumption) ?_ ?_ ?_) | omega | (simp; done) | (simp; omega)))⟩
    · obtain rfl : k = n := by omega
      have H2 : Hid (l.all ptB = true) := Lib.hid (by rw [← allV_all, HL.out]; exact HV.out)
      have eb : decide ((k : Int) < k) = false := by simp
      go_wp2
      go_ret
      exact ⟨-1, rfl, by rw [H2.out]; decide, by (repeat' (first | (with_reducible exact Below.refl _ _) | (with_reducible assumption) | (with_reducible refine Below.alloc ?_ ?_ _) | (with_reducible refine below_drewN ?_ _) | (with_reducible refine Below.drew ?_) | (with_reducible refine Below.setCell ?_ ?_ _) | (with_reducible refine below_call (by assumption) ?_ ?_) | (with_reducible refine below_grown (by assumption) ?_ ?_ ?_) | omega | (simp; done) | (simp; omega)))⟩

set_option maxHeartbeats 400000 in
theorem ContainsFunc_any {A : Option Addr} {n : Nat} {l : List Pt} {w : World} {v : Bool} (c : Nat) (h : IsPts w A n l) (hn : n ≤ 1000000000000) (hv : l.all ptB = v) :
    Calls Try.prog 66 #[.slice A n c, .func (.func 67) #[] #[]] w fun e w' => e = .returned (.bool !v) ∧ Below w.heap.size w w' := by
  have HP := Lib.hid h
  have HV := Lib.hid hv
  clear h hv
  go_enter Try.func66, Try.ntmps66
  go_wp2_with fail
  refine (IndexFunc_any c HP.out hn).mono ?_
  rintro e w1 ⟨r, rfl, hr, hb⟩
  rw [HV.out] at hr
  go_wp2
  go_ret
  exact ⟨rfl, by (repeat' (first | (with_reducible exact Below.refl _ _) | (with_reducible assumption) | (with_reducible refine Below.alloc ?_ ?_ _) | (with_reducible refine below_drewN ?_ _) | (with_reducible refine Below.drew ?_) | (with_reducible refine Below.setCell ?_ ?_ _) | (with_reducible refine below_call (by assumption) ?_ ?_) | (with_reducible refine below_grown (by assumption) ?_ ?_ ?_) | omega | (simp; done) | (simp; omega)))⟩

set_option maxHeartbeats 400000 in
theorem pointsValid_eq {A : Option Addr} {n : Nat} {l : List Pt} {w : World} {v : Bool} (c : Nat) (h : IsPts w A n l) (hn : n ≤ 1000000000000) (hv : validL l = v) :
    Calls Try.prog 48 #[.slice A n c] w fun e w' => e = .returned (.bool v) ∧ Below w.heap.size w w' := by
  subst hv
  have hl := h.1
  have HP := Lib.hid h
  clear h
  unfold validL
  rw [hl]
  clear hl
  by_cases h40 : n ≤ 40
  · have e1 : decide ((n : Int) ≤ 40) = true := by simp; omega
    have e2 : decide (n ≤ 40) = true := by simpa using h40
    obtain ⟨v, hv⟩ : ∃ v, l.all ptB = v := ⟨_, rfl⟩
    rw [hv, e2]
    have HV := Lib.hid hv
    clear hv e2
    go_enter Try.func48, Try.ntmps48
    go_wp2_with fail
    refine (ContainsFunc_any c HP.out hn (Hid.out (by with_reducible assumption))).mono ?_
    rintro e w1 ⟨rfl, hb⟩
    go_wp2
    go_ret
    exact ⟨by simp, by (repeat' (first | (with_reducible exact Below.refl _ _) | (with_reducible assumption) | (with_reducible refine Below.alloc ?_ ?_ _) | (with_reducible refine below_drewN ?_ _) | (with_reducible refine Below.drew ?_) | (with_reducible refine Below.setCell ?_ ?_ _) | (with_reducible refine below_call (by assumption) ?_ ?_) | (with_reducible refine below_grown (by assumption) ?_ ?_ ?_) | omega | (simp; done) | (simp; omega)))⟩
  · have e1 : decide ((n : Int) ≤ 40) = false := by simp; omega
    have e2 : decide (n ≤ 40) = false := by simpa using h40
    rw [e2]
    clear e2
    go_enter Try.func48, Try.ntmps48
    go_wp2
    go_ret
    exact ⟨rfl, by (repeat' (first | (with_reducible exact Below.refl _ _) | (with_reducible assumption) | (with_reducible refine Below.alloc ?_ ?_ _) | (with_reducible refine below_drewN ?_ _) | (with_reducible refine Below.drew ?_) | (with_reducible refine Below.setCell ?_ ?_ _) | (with_reducible refine below_call (by assumption) ?_ ?_) | (with_reducible refine below_grown (by assumption) ?_ ?_ ?_) | omega | (simp; done) | (simp; omega)))⟩

set_option maxHeartbeats 1000000 in
theorem validPoints_eq {A : Option Addr} {n : Nat} {l : List Pt} {w : World} {v : Bool} (c : Nat) (h : IsPts w A n l) (hn : n ≤ 1000000000000) (hv : validL l = v) :
    Calls Try.prog 57 #[.slice A n c] w fun e w' => e = .returned (.bool v) ∧ Below w.heap.size w w' := by
  subst hv
  have hl := h.1
  have HP := Lib.hid h
  clear h
  have HW : Hid (validL l = (decide (n ≤ 40) && l.all ptB)) := Lib.hid (by unfold validL; rw [hl])
  go_enter Try.func57, Try.ntmps57
  go_wp2
  go_loopw [3] (fun i wr => ∃ k : Nat, k ≤ n ∧ i = .int .i64 k ∧ allV l k = true ∧ Below w.heap.size w wr) (fun i _ => n - (intOf i).toNat)
  case atStart => exact ⟨0, by omega, rfl, rfl, by (repeat' (first | (with_reducible exact Below.refl _ _) | (with_reducible assumption) | (with_reducible refine Below.alloc ?_ ?_ _) | (with_reducible refine below_drewN ?_ _) | (with_reducible refine Below.drew ?_) | (with_reducible refine Below.setCell ?_ ?_ _) | (with_reducible refine below_call (by assumption) ?_ ?_) | (with_reducible refine below_grown (by assumption) ?_ ?_ ?_) | omega | (simp; done) | (simp; omega)))⟩
  case round =>
    obtain ⟨k, hk, rfl, hv, hbel⟩ := hrel
    have hsz := hbel.size
    have HV := Lib.hid hv
    have HL := Lib.hid hl
    clear hv hl
    by_cases hlt : k < n
    · have eb : decide ((k : Int) < n) = true := by simp; omega
      obtain ⟨b, o, rfl, hbl, c0, c1⟩ := (HP.out.below hbel).at_ hlt
      rcases Bool.eq_false_or_eq_true (ptB (px l k, py l k)) with h1 | h1
      · have H1 := Lib.hid h1
        clear h1
        go_wp2_with ((go_at_call 73; (with_reducible refine (validPoint_eq (Hid.out (by with_reducible assumption)) _).mono ?_); rintro e w1 ⟨rfl, hb⟩; have hz := hb.size; (try simp at hz); (try (have hk := bcl hb (b) (by first | omega | (simp; done) | (simp; omega)); have hc := hk.1; have hf := hk.2.1; have hk := hk.2.2))))
        go_roundw
        case rel => exact ⟨k + 1, by omega, by go_num, by rw [allV_succ (by rw [HL.out]; exact hlt), HV.out, H1.out]; rfl, by (repeat' (first | (with_reducible exact Below.refl _ _) | (with_reducible assumption) | (with_reducible refine Below.alloc ?_ ?_ _) | (with_reducible refine below_drewN ?_ _) | (with_reducible refine Below.drew ?_) | (with_reducible refine Below.setCell ?_ ?_ _) | (with_reducible refine below_call (by assumption) ?_ ?_) | (with_reducible refine below_grown (by assumption) ?_ ?_ ?_) | omega | (simp; done) | (simp; omega)))⟩
        case measure => simp [intOf]; omega
      · have H1 := Lib.hid h1
        have H2 := Lib.hid (all_not (by rw [HL.out]; exact hlt) h1)
        clear h1
        go_wp2_with ((go_at_call 73; (with_reducible refine (validPoint_eq (Hid.out (by with_reducible assumption)) _).mono ?_); rintro e w1 ⟨rfl, hb⟩; have hz := hb.size; (try simp at hz); (try (have hk := bcl hb (b) (by first | omega | (simp; done) | (simp; omega)); have hc := hk.1; have hf := hk.2.1; have hk := hk.2.2))))
        go_ret
        exact ⟨by rw [HW.out, H2.out, Bool.and_false]; rfl, by (repeat' (first | (with_reducible exact Below.refl _ _) | (with_reducible assumption) | (with_reducible refine Below.alloc ?_ ?_ _) | (with_reducible refine below_drewN ?_ _) | (with_reducible refine Below.drew ?_) | (with_reducible refine Below.setCell ?_ ?_ _) | (with_reducible refine below_call (by assumption) ?_ ?_) | (with_reducible refine below_grown (by assumption) ?_ ?_ ?_) | omega | (simp; done) | (simp; omega)))⟩
    · obtain rfl : k = n := by omega
      have H2 : Hid (l.all ptB = true) := Lib.hid (by rw [← allV_all, HL.out]; exact HV.out)
      have eb : decide ((k : Int) < k) = false := by simp
      go_wp2
      go_ret
      exact ⟨ret_bool (by rw [HW.out, H2.out, Bool.and_true]; simp; try omega), by (repeat' (first | (with_reducible exact Below.refl _ _) | (with_reducible assumption) | (with_reducible refine Below.alloc ?_ ?_ _) | (with_reducible refine below_drewN ?_ _) | (with_reducible refine Below.drew ?_) | (with_reducible refine Below.setCell ?_ ?_ _) | (with_reducible refine below_call (by assumption) ?_ ?_) | (with_reducible refine below_grown (by assumption) ?_ ?_ ?_) | omega | (simp; done) | (simp; omega)))⟩

set_option maxHeartbeats 1000000 in
theorem boxOf_any {b o c n : Nat} {l : List Pt} {w : World} (hp : Pts w b o l) (hn : l.length = n) (h0 : 0 < n) (hl : n ≤ 1000000) :
    Calls Try.prog 49 #[.slice (some ⟨b, o, none⟩) n c] w (Box (bbx l (n - 1)) w) := by
  subst hn
  obtain ⟨hbl, hcell⟩ := hp
  have hcell := Lib.hid hcell
  have c0 := (hcell.out 0 h0).1
  have c1 := (hcell.out 0 h0).2
  simp only [Nat.zero_mul, Nat.add_zero] at c0 c1
  generalize hn : l.length = n at *
  have hi0 : (0 : Int) < (n : Int) := by omega
  go_enter Try.func49, Try.ntmps49
  go_wp2_with fail
  apply wp_region_pure (by kernel_rfl) ([] :: [0] :: [1] :: [2] :: [] :: [4] :: [5] :: [6] :: [] :: [8] :: [9] :: [10] :: [] :: [12] :: [13] :: [14] :: [3, 7, 11, 15] :: [] :: []) (RS.det [] _ :: RS.det [0] _ :: RS.det [1] _ :: RS.det [2] _ :: RS.det [] _ :: RS.det [4] _ :: RS.det [5] _ :: RS.det [6] _ :: RS.det [] _ :: RS.det [8] _ :: RS.det [9] _ :: RS.det [10] _ :: RS.det [] _ :: RS.det [12] _ :: RS.det [13] _ :: RS.det [14] _ :: RS.det [3, 7, 11, 15] _ :: RS.box [] _ #[.int .i64 0, .int .i64 0, .int .i64 0, .int .i64 0] 29 :: []) [] rfl (by kernel_rfl) (fun h => absurd rfl h) (by kernel_rfl) (by kernel_rfl) (st_det (st_det (st_det (st_det (st_det (st_det (st_det (st_det (st_det (st_det (st_det (st_det (st_det (st_det (st_det (st_det (st_det (st_box st_nil)))))))))))))))))) _ (fun v => by simp; rfl)
  case hop =>
    simp only [Obls]
    refine ⟨?_, ?_, ?_, ?_, ?_, ?_, ?_, ?_, ?_, ?_, ?_, ?_, ?_, ?_, ?_, ?_, ?_, ?_, trivial⟩
    · (intro v w1 K hb hF hK; (try simp at hF); simp at hK; (try simp only [hF] at hK); have hz := hb.size; (try simp at hz))
      go_simp
      (try simp only [])
      exact hK _ _ rfl (by (repeat' (first | (with_reducible exact Below.refl _ _) | (with_reducible assumption) | (with_reducible refine Below.alloc ?_ ?_ _) | (with_reducible refine below_drewN ?_ _) | (with_reducible refine Below.drew ?_) | (with_reducible refine Below.setCell ?_ ?_ _) | (with_reducible refine below_call (by assumption) ?_ ?_) | go_size)))
    · (intro v w1 K hb hF hK; (try simp at hF); simp at hK; (try simp only [hF] at hK); have hz := hb.size; (try simp at hz))
      go_simp
      (try simp only [])
      exact hK _ _ rfl (by (repeat' (first | (with_reducible exact Below.refl _ _) | (with_reducible assumption) | (with_reducible refine Below.alloc ?_ ?_ _) | (with_reducible refine below_drewN ?_ _) | (with_reducible refine Below.drew ?_) | (with_reducible refine Below.setCell ?_ ?_ _) | (with_reducible refine below_call (by assumption) ?_ ?_) | go_size)))
    · (intro v w1 K hb hF hK; (try simp at hF); simp at hK; (try simp only [hF] at hK); have hz := hb.size; (try simp at hz))
      go_simp
      (try simp only [])
      exact hK _ _ rfl (by (repeat' (first | (with_reducible exact Below.refl _ _) | (with_reducible assumption) | (with_reducible refine Below.alloc ?_ ?_ _) | (with_reducible refine below_drewN ?_ _) | (with_reducible refine Below.drew ?_) | (with_reducible refine Below.setCell ?_ ?_ _) | (with_reducible refine below_call (by assumption) ?_ ?_) | go_size)))
    · (intro v w1 K hb hF hK; (try simp at hF); simp at hK; (try simp only [hF] at hK); have hz := hb.size; (try simp at hz); (try (have hk := bcl hb (b) (by first | omega | (simp; done) | (simp; omega)); have hc := hk.1; have hf := hk.2.1; have hk := hk.2.2)))
      go_simp
      (try simp only [])
      exact hK _ _ rfl (by (repeat' (first | (with_reducible exact Below.refl _ _) | (with_reducible assumption) | (with_reducible refine Below.alloc ?_ ?_ _) | (with_reducible refine below_drewN ?_ _) | (with_reducible refine Below.drew ?_) | (with_reducible refine Below.setCell ?_ ?_ _) | (with_reducible refine below_call (by assumption) ?_ ?_) | go_size)))
    · (intro v w1 K hb hF hK; (try simp at hF); simp at hK; (try simp only [hF] at hK); have hz := hb.size; (try simp at hz))
      go_simp
      (try simp only [])
      exact hK _ _ rfl (by (repeat' (first | (with_reducible exact Below.refl _ _) | (with_reducible assumption) | (with_reducible refine Below.alloc ?_ ?_ _) | (with_reducible refine below_drewN ?_ _) | (with_reducible refine Below.drew ?_) | (with_reducible refine Below.setCell ?_ ?_ _) | (with_reducible refine below_call (by assumption) ?_ ?_) | go_size)))
    · (intro v w1 K hb hF hK; (try simp at hF); simp at hK; (try simp only [hF] at hK); have hz := hb.size; (try simp at hz))
      go_simp
      (try simp only [])
      exact hK _ _ rfl (by (repeat' (first | (with_reducible exact Below.refl _ _) | (with_reducible assumption) | (with_reducible refine Below.alloc ?_ ?_ _) | (with_reducible refine below_drewN ?_ _) | (with_reducible refine Below.drew ?_) | (with_reducible refine Below.setCell ?_ ?_ _) | (with_reducible refine below_call (by assumption) ?_ ?_) | go_size)))
    · (intro v w1 K hb hF hK; (try simp at hF); simp at hK; (try simp only [hF] at hK); have hz := hb.size; (try simp at hz))
      go_simp
      (try simp only [])
      exact hK _ _ rfl (by (repeat' (first | (with_reducible exact Below.refl _ _) | (with_reducible assumption) | (with_reducible refine Below.alloc ?_ ?_ _) | (with_reducible refine below_drewN ?_ _) | (with_reducible refine Below.drew ?_) | (with_reducible refine Below.setCell ?_ ?_ _) | (with_reducible refine below_call (by assumption) ?_ ?_) | go_size)))
    · (intro v w1 K hb hF hK; (try simp at hF); simp at hK; (try simp only [hF] at hK); have hz := hb.size; (try simp at hz); (try (have hk := bcl hb (b) (by first | omega | (simp; done) | (simp; omega)); have hc := hk.1; have hf := hk.2.1; have hk := hk.2.2)))
      go_simp
      (try simp only [])
      exact hK _ _ rfl (by (repeat' (first | (with_reducible exact Below.refl _ _) | (with_reducible assumption) | (with_reducible refine Below.alloc ?_ ?_ _) | (with_reducible refine below_drewN ?_ _) | (with_reducible refine Below.drew ?_) | (with_reducible refine Below.setCell ?_ ?_ _) | (with_reducible refine below_call (by assumption) ?_ ?_) | go_size)))
    · (intro v w1 K hb hF hK; (try simp at hF); simp at hK; (try simp only [hF] at hK); have hz := hb.size; (try simp at hz))
      go_simp
      (try simp only [])
      exact hK _ _ rfl (by (repeat' (first | (with_reducible exact Below.refl _ _) | (with_reducible assumption) | (with_reducible refine Below.alloc ?_ ?_ _) | (with_reducible refine below_drewN ?_ _) | (with_reducible refine Below.drew ?_) | (with_reducible refine Below.setCell ?_ ?_ _) | (with_reducible refine below_call (by assumption) ?_ ?_) | go_size)))
    · (intro v w1 K hb hF hK; (try simp at hF); simp at hK; (try simp only [hF] at hK); have hz := hb.size; (try simp at hz))
      go_simp
      (try simp only [])
      exact hK _ _ rfl (by (repeat' (first | (with_reducible exact Below.refl _ _) | (with_reducible assumption) | (with_reducible refine Below.alloc ?_ ?_ _) | (with_reducible refine below_drewN ?_ _) | (with_reducible refine Below.drew ?_) | (with_reducible refine Below.setCell ?_ ?_ _) | (with_reducible refine below_call (by assumption) ?_ ?_) | go_size)))
    · (intro v w1 K hb hF hK; (try simp at hF); simp at hK; (try simp only [hF] at hK); have hz := hb.size; (try simp at hz))
      go_simp
      (try simp only [])
      exact hK _ _ rfl (by (repeat' (first | (with_reducible exact Below.refl _ _) | (with_reducible assumption) | (with_reducible refine Below.alloc ?_ ?_ _) | (with_reducible refine below_drewN ?_ _) | (with_reducible refine Below.drew ?_) | (with_reducible refine Below.setCell ?_ ?_ _) | (with_reducible refine below_call (by assumption) ?_ ?_) | go_size)))
    · (intro v w1 K hb hF hK; (try simp at hF); simp at hK; (try simp only [hF] at hK); have hz := hb.size; (try simp at hz); (try (have hk := bcl hb (b) (by first | omega | (simp; done) | (simp; omega)); have hc := hk.1; have hf := hk.2.1; have hk := hk.2.2)))
      go_simp
      (try simp only [])
      exact hK _ _ rfl (by (repeat' (first | (with_reducible exact Below.refl _ _) | (with_reducible assumption) | (with_reducible refine Below.alloc ?_ ?_ _) | (with_reducible refine below_drewN ?_ _) | (with_reducible refine Below.drew ?_) | (with_reducible refine Below.setCell ?_ ?_ _) | (with_reducible refine below_call (by assumption) ?_ ?_) | go_size)))
    · (intro v w1 K hb hF hK; (try simp at hF); simp at hK; (try simp only [hF] at hK); have hz := hb.size; (try simp at hz))
      go_simp
      (try simp only [])
      exact hK _ _ rfl (by (repeat' (first | (with_reducible exact Below.refl _ _) | (with_reducible assumption) | (with_reducible refine Below.alloc ?_ ?_ _) | (with_reducible refine below_drewN ?_ _) | (with_reducible refine Below.drew ?_) | (with_reducible refine Below.setCell ?_ ?_ _) | (with_reducible refine below_call (by assumption) ?_ ?_) | go_size)))
    · (intro v w1 K hb hF hK; (try simp at hF); simp at hK; (try simp only [hF] at hK); have hz := hb.size; (try simp at hz))
      go_simp
      (try simp only [])
      exact hK _ _ rfl (by (repeat' (first | (with_reducible exact Below.refl _ _) | (with_reducible assumption) | (with_reducible refine Below.alloc ?_ ?_ _) | (with_reducible refine below_drewN ?_ _) | (with_reducible refine Below.drew ?_) | (with_reducible refine Below.setCell ?_ ?_ _) | (with_reducible refine below_call (by assumption) ?_ ?_) | go_size)))
    · (intro v w1 K hb hF hK; (try simp at hF); simp at hK; (try simp only [hF] at hK); have hz := hb.size; (try simp at hz))
      go_simp
      (try simp only [])
      exact hK _ _ rfl (by (repeat' (first | (with_reducible exact Below.refl _ _) | (with_reducible assumption) | (with_reducible refine Below.alloc ?_ ?_ _) | (with_reducible refine below_drewN ?_ _) | (with_reducible refine Below.drew ?_) | (with_reducible refine Below.setCell ?_ ?_ _) | (with_reducible refine below_call (by assumption) ?_ ?_) | go_size)))
    · (intro v w1 K hb hF hK; (try simp at hF); simp at hK; (try simp only [hF] at hK); have hz := hb.size; (try simp at hz); (try (have hk := bcl hb (b) (by first | omega | (simp; done) | (simp; omega)); have hc := hk.1; have hf := hk.2.1; have hk := hk.2.2)))
      go_simp
      (try simp only [])
      exact hK _ _ rfl (by (repeat' (first | (with_reducible exact Below.refl _ _) | (with_reducible assumption) | (with_reducible refine Below.alloc ?_ ?_ _) | (with_reducible refine below_drewN ?_ _) | (with_reducible refine Below.drew ?_) | (with_reducible refine Below.setCell ?_ ?_ _) | (with_reducible refine below_call (by assumption) ?_ ?_) | go_size)))
    · (intro v w1 K hb hF hK; (try simp at hF); simp at hK; (try simp only [hF] at hK); have hz := hb.size; (try simp at hz))
      go_simp
      (try simp only [])
      exact hK _ _ rfl (by (repeat' (first | (with_reducible exact Below.refl _ _) | (with_reducible assumption) | (with_reducible refine Below.alloc ?_ ?_ _) | (with_reducible refine below_drewN ?_ _) | (with_reducible refine Below.drew ?_) | (with_reducible refine Below.setCell ?_ ?_ _) | (with_reducible refine below_call (by assumption) ?_ ?_) | go_size)))
    · (intro v w1 K hb hF hK; (try simp at hF); simp at hK; (try simp only [hF] at hK); have hz := hb.size; (try simp at hz))
      go_simp
      (try simp only [])
      exact hK _ _ (isBox_new _ _ hb.size) (by (repeat' (first | (with_reducible exact Below.refl _ _) | (with_reducible assumption) | (with_reducible refine Below.alloc ?_ ?_ _) | (with_reducible refine below_drewN ?_ _) | (with_reducible refine Below.drew ?_) | (with_reducible refine Below.setCell ?_ ?_ _) | (with_reducible refine below_call (by assumption) ?_ ?_) | go_size)))
  case hfo => exact trivial
  (intro v w1 hb hF; simp [List.range, List.range.loop] at hF; have hz := hb.size; (try simp at hz); (try (have hk := bcl hb (b) (by first | omega | (simp; done) | (simp; omega)); have hc := hk.1; have hf := hk.2.1; have hk := hk.2.2)))
  obtain ⟨e0, e1, e2, e3, e4, e5, e6, e7, e8, e9, e10, e11, e12, e13, e14, e15, e16, g, e17, hg, hgs, hgb⟩ := hF
  simp only [List.length_cons, List.length_nil, List.drop_succ_cons, List.drop_zero, e0, e1, e2, e3, e4, e5, e6, e7, e8, e9, e10, e11, e12, e13, e14, e15, e16, e17]
  clear e0 e1 e2 e3 e4 e5 e6 e7 e8 e9 e10 e11 e12 e13 e14 e15 e16 e17 v
  have hcg := blk_cell hgb; have hfg := blk_free hgb; have Hg := Lib.hid hgb; clear hgb; (try simp at hg)
  have Hw := Lib.hid (blk_set4 Hg.out (.int .i64 (px l 0)) (.int .i64 (py l 0)) (.int .i64 (px l 0)) (.int .i64 (py l 0)))
  have Hr := Lib.hid (blk_far4 (blk_below (blk_new w _) hb) (g' := g) (i := 0) (j := 1) (k := 2) (m := 3) (by omega) (.int .i64 (px l 0)) (.int .i64 (py l 0)) (.int .i64 (px l 0)) (.int .i64 (py l 0)))
  go_wp2
  go_loopw [25] (fun i wr => ∃ k : Nat, k ≤ n ∧ i = .int .i64 (k : Int) ∧ wr.heap[g]? = some (.cells #[.int .i64 (bbx l (k - 1)).l, .int .i64 (bbx l (k - 1)).t, .int .i64 (bbx l (k - 1)).r, .int .i64 (bbx l (k - 1)).b] 29 (0, 0)) ∧
      wr.heap[w.heap.size]? = some (.cells #[.int .i64 0, .int .i64 0, .int .i64 0, .int .i64 0] 29 (0, 0)) ∧ Below w.heap.size w wr) (fun i _ => n - (intOf i).toNat)
  case atStart => exact ⟨0, by omega, by simp, Hw.out, Hr.out, by (repeat' (first | (with_reducible exact Below.refl _ _) | (with_reducible assumption) | (with_reducible refine Below.alloc ?_ ?_ _) | (with_reducible refine below_drewN ?_ _) | (with_reducible refine Below.drew ?_) | (with_reducible refine Below.setCell ?_ ?_ _) | (with_reducible refine below_call (by assumption) ?_ ?_) | (with_reducible refine below_grown (by assumption) ?_ ?_ ?_) | omega | (simp; done) | (simp; omega)))⟩
  case round =>
    obtain ⟨k, hk, rfl, hb1, hb0, hbel⟩ := hrel
    have hcb := blk_cell hb1
    have hfb := blk_free hb1
    have hcr := blk_cell hb0
    have hfr := blk_free hb0
    have hl1 := blk_lt hb1
    have hl0 := blk_lt hb0
    have hsz := hbel.size
    have Hb1 := Lib.hid hb1
    have Hb0 := Lib.hid hb0
    clear hb1 hb0 Hw Hr hb hcg hfg
    by_cases hlt : k < n
    · have hx := (hbel.cell (p := ⟨b, _, none⟩) hbl).trans ((hcell.out k (by omega)).1)
      have hy := (hbel.cell (p := ⟨b, _, none⟩) hbl).trans ((hcell.out k (by omega)).2)
      have eb : decide ((k : Int) < n) = true := by simp; omega
      have hbl1 := Nat.lt_of_lt_of_le hbl hbel.size
      have Hk : Hid (bbx l k = ⟨min (bbx l (k - 1)).l (px l k), min (bbx l (k - 1)).t (py l k), max (bbx l (k - 1)).r (px l k), max (bbx l (k - 1)).b (py l k)⟩) := Lib.hid (by
        cases k with
        | zero => simp [bbx]
        | succ k => rfl)
      clear c0 c1
      go_wp2
      go_roundw
      case rel => exact ⟨k + 1, by omega, by go_num, by rw [show k + 1 - 1 = k by omega, Hk.out]; exact blk_alloc (blk_set4 Hb1.out _ _ _ _) _, blk_alloc (blk_far4 Hb0.out (by omega) _ _ _ _) _, by (repeat' (first | (with_reducible exact Below.refl _ _) | (with_reducible assumption) | (with_reducible refine Below.alloc ?_ ?_ _) | (with_reducible refine below_drewN ?_ _) | (with_reducible refine Below.drew ?_) | (with_reducible refine Below.setCell ?_ ?_ _) | (with_reducible refine below_call (by assumption) ?_ ?_) | (with_reducible refine below_grown (by assumption) ?_ ?_ ?_) | omega | (simp; done) | (simp; omega)))⟩
      case measure => simp [intOf]; omega
    · obtain rfl : k = n := by omega
      have eb : decide ((k : Int) < k) = false := by simp
      go_wp2
      ((try simp only [Exit.inBlock, Exit.then]); refine bodyPost_ret (by simp [results, Try.results49, go_sem, *]; try rfl) rfl ?_)
      exact ⟨rfl, by (repeat' (first | (with_reducible exact Below.refl _ _) | (with_reducible assumption) | (with_reducible refine Below.alloc ?_ ?_ _) | (with_reducible refine below_drewN ?_ _) | (with_reducible refine Below.drew ?_) | (with_reducible refine Below.setCell ?_ ?_ _) | (with_reducible refine below_call (by assumption) ?_ ?_) | (with_reducible refine below_grown (by assumption) ?_ ?_ ?_) | omega | (simp; done) | (simp; omega)))⟩

set_option maxHeartbeats 1000000 in
theorem BoxOf_eq {A : Option Addr} {n : Nat} {l : List Pt} {w : World} (c : Nat) (h : IsPts w A n l) (hn : n ≤ 1000000000000) {x : Bx} {v : Bool} (hv : boxOk l = v) (hx : boxR l = x) :
    Calls Try.prog 20 #[.slice A n c] w (BxOk x v w) := by
  have hl := h.1
  subst hx
  unfold boxR
  rw [hv]
  rcases Nat.eq_zero_or_pos n with h0 | h0
  · subst h0
    have : v = false := by rw [← hv, boxOk, List.length_eq_zero_iff.1 hl]; rfl
    subst this
    clear hv h
    simp only [Bool.false_eq_true, if_false, zero]
    go_enter Try.func20, Try.ntmps20
    go_wp2
    ((try simp only [Exit.inBlock, Exit.then]); refine bodyPost_ret (by simp [results, Try.results20, go_sem, *]; try rfl) rfl ?_)
    exact ⟨rfl, by (repeat' (first | (with_reducible exact Below.refl _ _) | (with_reducible assumption) | (with_reducible refine Below.alloc ?_ ?_ _) | (with_reducible refine below_drewN ?_ _) | (with_reducible refine Below.drew ?_) | (with_reducible refine Below.setCell ?_ ?_ _) | (with_reducible refine below_call (by assumption) ?_ ?_) | (with_reducible refine below_grown (by assumption) ?_ ?_ ?_) | omega | (simp; done) | (simp; omega)))⟩
  · have e0 : ((n : Int) == 0) = false := by simp; omega
    have hv' : validL l = v := by rw [← hv, boxOk]; cases l with
      | nil => simp at hl; omega
      | cons => simp
    have HV := Lib.hid hv'
    have HP := Lib.hid h
    cases v with
    | true =>
      have h40 := validL_len hv'
      clear hv hv' h
      simp only [if_true]
      rw [hl]
      obtain ⟨b, o, rfl, hp⟩ := HP.out.2 h0
      have Hp := Lib.hid hp
      have HL := Lib.hid hl
      clear hp hl
      go_enter Try.func20, Try.ntmps20
      go_wp2_with fail
      refine (pointsValid_eq c (HP.out.below (by (repeat' (first | (with_reducible exact Below.refl _ _) | (with_reducible assumption) | (with_reducible refine Below.alloc ?_ ?_ _) | (with_reducible refine below_drewN ?_ _) | (with_reducible refine Below.drew ?_) | (with_reducible refine Below.setCell ?_ ?_ _) | (with_reducible refine below_call (by assumption) ?_ ?_) | go_size)))) hn (Hid.out (by with_reducible assumption))).mono ?_
      rintro e w1 ⟨rfl, hb⟩
      (have hz := hb.size; (try simp at hz); (try (have hk := bcl hb (w.heap.size) (by first | omega | (simp; done) | (simp; omega)); have hc := hk.1; have hf := hk.2.1; have hk := hk.2.2)))
      go_wp2_with fail
      refine (boxOf_any (Hp.out.below (by (repeat' (first | (with_reducible exact Below.refl _ _) | (with_reducible assumption) | (with_reducible refine Below.alloc ?_ ?_ _) | (with_reducible refine below_drewN ?_ _) | (with_reducible refine Below.drew ?_) | (with_reducible refine Below.setCell ?_ ?_ _) | (with_reducible refine below_call (by assumption) ?_ ?_) | (with_reducible refine below_grown (by assumption) ?_ ?_ ?_) | omega | (simp; done) | (simp; omega))))) HL.out h0 (by have := HL.out; omega)).mono ?_
      rintro e w2 ⟨rfl, hb⟩
      (have hz := hb.size; (try simp at hz); (try (have hk := bcl hb (w.heap.size) (by first | omega | (simp; done) | (simp; omega)); have hc := hk.1; have hf := hk.2.1; have hk := hk.2.2)))
      go_wp2
      ((try simp only [Exit.inBlock, Exit.then]); refine bodyPost_ret (by simp [results, Try.results20, go_sem, *]; try rfl) rfl ?_)
      exact ⟨rfl, by (repeat' (first | (with_reducible exact Below.refl _ _) | (with_reducible assumption) | (with_reducible refine Below.alloc ?_ ?_ _) | (with_reducible refine below_drewN ?_ _) | (with_reducible refine Below.drew ?_) | (with_reducible refine Below.setCell ?_ ?_ _) | (with_reducible refine below_call (by assumption) ?_ ?_) | (with_reducible refine below_grown (by assumption) ?_ ?_ ?_) | omega | (simp; done) | (simp; omega)))⟩
    | false =>
      clear hv hv' h
      simp only [Bool.false_eq_true, if_false, zero]
      go_enter Try.func20, Try.ntmps20
      go_wp2_with fail
      refine (pointsValid_eq c (HP.out.below (by (repeat' (first | (with_reducible exact Below.refl _ _) | (with_reducible assumption) | (with_reducible refine Below.alloc ?_ ?_ _) | (with_reducible refine below_drewN ?_ _) | (with_reducible refine Below.drew ?_) | (with_reducible refine Below.setCell ?_ ?_ _) | (with_reducible refine below_call (by assumption) ?_ ?_) | go_size)))) hn (Hid.out (by with_reducible assumption))).mono ?_
      rintro e w1 ⟨rfl, hb⟩
      (have hz := hb.size; (try simp at hz); (try (have hk := bcl hb (w.heap.size) (by first | omega | (simp; done) | (simp; omega)); have hc := hk.1; have hf := hk.2.1; have hk := hk.2.2)))
      go_wp2
      ((try simp only [Exit.inBlock, Exit.then]); refine bodyPost_ret (by simp [results, Try.results20, go_sem, *]; try rfl) rfl ?_)
      exact ⟨rfl, by (repeat' (first | (with_reducible exact Below.refl _ _) | (with_reducible assumption) | (with_reducible refine Below.alloc ?_ ?_ _) | (with_reducible refine below_drewN ?_ _) | (with_reducible refine Below.drew ?_) | (with_reducible refine Below.setCell ?_ ?_ _) | (with_reducible refine below_call (by assumption) ?_ ?_) | (with_reducible refine below_grown (by assumption) ?_ ?_ ?_) | omega | (simp; done) | (simp; omega)))⟩

end Go.Proofs.Ytmddkhincpibhaa
