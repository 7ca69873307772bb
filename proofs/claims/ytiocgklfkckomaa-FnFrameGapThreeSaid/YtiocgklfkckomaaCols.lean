/-
  Colors and frames: their validity, in the program and in the reference.
-/
import Derived.Test.YtiocgklfkckomaaPlG
import Derived.Test.YtiocgklfkckomaaIntF
import Derived.Test.YtiocgklfkckomaaTile
import Derived.Test.YtiocgklfkckomaaRdr
namespace Go.Proofs.Ytiocgklfkckomaa
open Go.RowKit Pl

set_option linter.unusedSimpArgs false
set_option linter.unusedVariables false

/-- Colors in memory. -/
def IsCs (w : World) (A : Option Addr) (n : Nat) (l : List Cl) : Prop := l.length = n ∧ (0 < n → ∃ b o, A = some ⟨b, o, none⟩ ∧ b < w.heap.size ∧ ∀ i, i < n →
  w.cell? ⟨b, o + i * 4, none⟩ = some (.int .i64 (cl l i).1) ∧ w.cell? ⟨b, o + i * 4 + 1, none⟩ = some (.int .i64 (cl l i).2.1) ∧ w.cell? ⟨b, o + i * 4 + 2, none⟩ = some (.int .i64 (cl l i).2.2.1) ∧ w.cell? ⟨b, o + i * 4 + 3, none⟩ = some (.int .i64 (cl l i).2.2.2))
theorem IsCs.below {w w' : World} {A : Option Addr} {n : Nat} {l : List Cl} (h : IsCs w A n l) (hb : Below w.heap.size w w') : IsCs w' A n l :=
  ⟨h.1, fun hn => by
    obtain ⟨b, o, e, hl, hc⟩ := h.2 hn
    refine ⟨b, o, e, Nat.lt_of_lt_of_le hl hb.size, fun i hi => ?_⟩
    obtain ⟨c0, c1, c2, c3⟩ := hc i hi
    exact ⟨(hb.cell (p := ⟨b, _, none⟩) hl).trans c0, (hb.cell (p := ⟨b, _, none⟩) hl).trans c1, (hb.cell (p := ⟨b, _, none⟩) hl).trans c2, (hb.cell (p := ⟨b, _, none⟩) hl).trans c3⟩⟩
theorem IsCs.at_ {w : World} {A : Option Addr} {n : Nat} {l : List Cl} (h : IsCs w A n l) {k : Nat} (hk : k < n) :
    ∃ b o r g u a, A = some ⟨b, o, none⟩ ∧ b < w.heap.size ∧ cl l k = (r, g, u, a) ∧ w.cell? ⟨b, o + k * 4, none⟩ = some (.int .i64 r) ∧ w.cell? ⟨b, o + k * 4 + 1, none⟩ = some (.int .i64 g) ∧
      w.cell? ⟨b, o + k * 4 + 2, none⟩ = some (.int .i64 u) ∧ w.cell? ⟨b, o + k * 4 + 3, none⟩ = some (.int .i64 a) := by
  obtain ⟨b, o, e, hb, hc⟩ := h.2 (by omega)
  obtain ⟨c0, c1, c2, c3⟩ := hc k hk
  exact ⟨b, o, (cl l k).1, (cl l k).2.1, (cl l k).2.2.1, (cl l k).2.2.2, e, hb, rfl, c0, c1, c2, c3⟩
theorem IsCs.nil (w : World) (A : Option Addr) : IsCs w A 0 [] := ⟨rfl, fun h => absurd h (Nat.lt_irrefl _)⟩

theorem colorB_ins (r g u a : Int) : colorB (r, g, u, a) = (inB a 0 255 && (inB r 0 a && (inB g 0 a && inB u 0 a))) := by
  rw [Bool.eq_iff_iff]
  simp only [colorB_true, inB, Bool.and_eq_true, decide_eq_true_eq]
  omega

set_option maxHeartbeats 2000000 in
theorem ValidColor_eq {r g u a : Int} {v : Bool} (h : colorB (r, g, u, a) = v) (w : World) :
    Calls Try.prog 43 #[.agg #[.int .i64 r, .int .i64 g, .int .i64 u, .int .i64 a]] w fun e w' => e = .returned (.bool v) ∧ Below w.heap.size w w' := by
  subst h
  obtain ⟨b0, h0⟩ : ∃ b, inB a 0 255 = b := ⟨_, rfl⟩
  obtain ⟨b1, h1⟩ : ∃ b, inB r 0 a = b := ⟨_, rfl⟩
  obtain ⟨b2, h2⟩ : ∃ b, inB g 0 a = b := ⟨_, rfl⟩
  obtain ⟨b3, h3⟩ : ∃ b, inB u 0 a = b := ⟨_, rfl⟩
  have HV := Lib.hid (colorB_ins r g u a)
  rw [h0, h1, h2, h3] at HV
  have H0 := Lib.hid h0
  have H1 := Lib.hid h1
  have H2 := Lib.hid h2
  have H3 := Lib.hid h3
  clear h0 h1 h2 h3
  cases b0 <;> cases b1 <;> cases b2 <;> cases b3
  all_goals
    simp only [Bool.false_and, Bool.true_and, Bool.and_false, Bool.and_self] at HV
    go_enter Try.func43, Try.ntmps43
    go_wp2_with (first | (go_at_call 35; (with_reducible refine (in_eq H0.out _).mono ?_); rintro e w1 ⟨rfl, rfl⟩) | (go_at_call 35; (with_reducible refine (in_eq H1.out _).mono ?_); rintro e w1 ⟨rfl, rfl⟩) | (go_at_call 35; (with_reducible refine (in_eq H2.out _).mono ?_); rintro e w1 ⟨rfl, rfl⟩) | (go_at_call 35; (with_reducible refine (in_eq H3.out _).mono ?_); rintro e w1 ⟨rfl, rfl⟩))
    go_ret
    exact ⟨by rw [HV.out]; rfl, by (repeat' (first | (with_reducible exact Below.refl _ _) | (with_reducible assumption) | (with_reducible refine Below.alloc ?_ ?_ _) | (with_reducible refine below_drewN ?_ _) | (with_reducible refine Below.drew ?_) | (with_reducible refine Below.setCell ?_ ?_ _) | (with_reducible refine below_call (by assumption) ?_ ?_) | go_size))⟩

set_option maxHeartbeats 1000000 in
theorem validColor_eq {r g u a : Int} {v : Bool} (h : colorB (r, g, u, a) = v) (w : World) :
    Calls Try.prog 38 #[.agg #[.int .i64 r, .int .i64 g, .int .i64 u, .int .i64 a]] w fun e w' => e = .returned (.bool v) ∧ Below w.heap.size w w' := by
  subst h
  obtain ⟨b0, h0⟩ : ∃ b, inB a 0 255 = b := ⟨_, rfl⟩
  obtain ⟨b1, h1⟩ : ∃ b, ([r, g, u].all fun x => inB x 0 a) = b := ⟨_, rfl⟩
  have hv := colorB_ins r g u a
  have hl : ([r, g, u].all fun x => inB x 0 a) = (inB r 0 a && (inB g 0 a && inB u 0 a)) := by simp
  rw [← hl, h0, h1] at hv
  have HV := Lib.hid hv
  have H0 := Lib.hid h0
  have H1 := Lib.hid h1
  clear h0 h1 hv hl
  cases b0 with
  | false =>
    simp only [Bool.false_and] at HV
    go_enter Try.func38, Try.ntmps38
    go_wp2_with ((go_at_call 54; (with_reducible refine (inRange_eq H0.out _).mono ?_); rintro e w1 ⟨rfl, rfl⟩))
    go_ret
    exact ⟨by rw [HV.out]; rfl, by (repeat' (first | (with_reducible exact Below.refl _ _) | (with_reducible assumption) | (with_reducible refine Below.alloc ?_ ?_ _) | (with_reducible refine below_drewN ?_ _) | (with_reducible refine Below.drew ?_) | (with_reducible refine Below.setCell ?_ ?_ _) | (with_reducible refine below_call (by assumption) ?_ ?_) | go_size))⟩
  | true =>
    simp only [Bool.true_and] at HV
    go_enter Try.func38, Try.ntmps38
    go_wp2_with fail
    refine (inRange_eq H0.out _).mono ?_
    rintro e w1 ⟨rfl, rfl⟩
    go_wp2_with fail
    have hI : IsI ((w.alloc (.cells #[.int .i64 r, .int .i64 g, .int .i64 u, .int .i64 a] 49)).alloc (.cells #[.int .i64 r, .int .i64 g, .int .i64 u] 3)) (some ⟨w.heap.size + 1, 0, none⟩) 3 [r, g, u] :=
      OwnW.isV (OwnV.made (T := 3) (base := 0) (n := 3) (us := iv [r, g, u]) (Nat.zero_le _) (blk_new1 w _ _) rfl (by omega) rfl).weak
    refine (allIn_eq 3 hI (by omega) H1.out).mono ?_
    rintro e w2 ⟨rfl, hb⟩
    go_wp2
    go_ret
    exact ⟨by rw [HV.out]; rfl, by (repeat' (first | (with_reducible exact Below.refl _ _) | (with_reducible assumption) | (with_reducible refine Below.alloc ?_ ?_ _) | (with_reducible refine below_drewN ?_ _) | (with_reducible refine Below.drew ?_) | (with_reducible refine Below.setCell ?_ ?_ _) | (with_reducible refine below_call (by assumption) ?_ ?_) | (with_reducible refine below_grown (by assumption) ?_ ?_ ?_) | omega | (simp; done) | (simp; omega)))⟩

/-- All of the first k colors are valid. -/
def allC (l : List Cl) (k : Nat) : Bool := (l.take k).all colorB
theorem allC_succ {l : List Cl} {k : Nat} (h : k < l.length) : allC l (k + 1) = (allC l k && colorB (cl l k)) := by
  rw [allC, List.take_succ_eq_append_getElem h, List.all_append, cl_eq h]; simp [allC]
theorem allC_all (l : List Cl) : allC l l.length = l.all colorB := by simp [allC]
theorem allC_not {l : List Cl} {k : Nat} (h : k < l.length) (hv : colorB (cl l k) = false) : l.all colorB = false := by
  rw [cl_eq h] at hv
  rw [List.all_eq_false]
  exact ⟨_, List.getElem_mem h, by rw [hv]; decide⟩

set_option maxHeartbeats 400000 in
theorem notColor_eq {r g u a : Int} {v : Bool} (h : colorB (r, g, u, a) = v) (w : World) :
    Calls Try.prog 42 #[.agg #[.int .i64 r, .int .i64 g, .int .i64 u, .int .i64 a]] w fun e w' => e = .returned (.bool !v) ∧ Below w.heap.size w w' := by
  have H := Lib.hid h
  clear h
  go_enter Try.func42, Try.ntmps42
  go_wp2_with fail
  refine (ValidColor_eq H.out _).mono ?_
  rintro e w1 ⟨rfl, hb⟩
  go_wp2
  go_ret
  exact ⟨rfl, by (repeat' (first | (with_reducible exact Below.refl _ _) | (with_reducible assumption) | (with_reducible refine Below.alloc ?_ ?_ _) | (with_reducible refine below_drewN ?_ _) | (with_reducible refine Below.drew ?_) | (with_reducible refine Below.setCell ?_ ?_ _) | (with_reducible refine below_call (by assumption) ?_ ?_) | (with_reducible refine below_grown (by assumption) ?_ ?_ ?_) | omega | (simp; done) | (simp; omega)))⟩

/-- A place, or -1: from 0 on if one of the colors is not valid. -/
def IdxC (l : List Cl) (w : World) (e : Ending) (w' : World) : Prop := ∃ r : Int, e = .returned (.int .i64 r) ∧ decide (0 ≤ r) = !(l.all colorB) ∧ Below w.heap.size w w'

set_option maxHeartbeats 1000000 in
theorem IndexFuncC_any {A : Option Addr} {n : Nat} {l : List Cl} {w : World} (c : Nat) (h : IsCs w A n l) (hn : n ≤ 1000000000000) :
    Calls Try.prog 56 #[.slice A n c, .func (.func 42) #[] #[]] w (IdxC l w) := by
  have hl := h.1
  have HP := Lib.hid h
  clear h
  go_enter Try.func56, Try.ntmps56
  go_wp2
  go_loopw [8] (fun i wr => ∃ k : Nat, k ≤ n ∧ i = .int .i64 k ∧ allC l k = true ∧ Below w.heap.size w wr) (fun i _ => n - (intOf i).toNat)
  case atStart => exact ⟨0, by omega, rfl, rfl, by (repeat' (first | (with_reducible exact Below.refl _ _) | (with_reducible assumption) | (with_reducible refine Below.alloc ?_ ?_ _) | (with_reducible refine below_drewN ?_ _) | (with_reducible refine Below.drew ?_) | (with_reducible refine Below.setCell ?_ ?_ _) | (with_reducible refine below_call (by assumption) ?_ ?_) | (with_reducible refine below_grown (by assumption) ?_ ?_ ?_) | omega | (simp; done) | (simp; omega)))⟩
  case round =>
    obtain ⟨k, hk, rfl, hv, hbel⟩ := hrel
    have hsz := hbel.size
    have HV := Lib.hid hv
    have HL := Lib.hid hl
    clear hv hl
    by_cases hlt : k < n
    · have eb : decide ((k : Int) < n) = true := by simp; omega
      obtain ⟨b, o, r, g, u, a, rfl, hbl, hcl, c0, c1, c2, c3⟩ := (HP.out.below hbel).at_ hlt
      rcases Bool.eq_false_or_eq_true (colorB (r, g, u, a)) with h1 | h1
      · have H1 := Lib.hid h1
        have HC := Lib.hid hcl
        clear h1 hcl
        go_wp2_with ((go_at_call 42; (with_reducible refine (notColor_eq (Hid.out (by with_reducible assumption)) _).mono ?_); rintro e w1 ⟨rfl, hb⟩; have hz := hb.size; (try simp at hz); (try (have hk := bcl hb (b) (by first | omega | (simp; done) | (simp; omega)); have hc := hk.1; have hf := hk.2.1; have hk := hk.2.2))))
        go_roundw
        case rel => exact ⟨k + 1, by omega, by go_num, by rw [allC_succ (by rw [HL.out]; exact hlt), HV.out, HC.out, H1.out]; rfl, by (repeat' (first | (with_reducible exact Below.refl _ _) | (with_reducible assumption) | (with_reducible refine Below.alloc ?_ ?_ _) | (with_reducible refine below_drewN ?_ _) | (with_reducible refine Below.drew ?_) | (with_reducible refine Below.setCell ?_ ?_ _) | (with_reducible refine below_call (by assumption) ?_ ?_) | (with_reducible refine below_grown (by assumption) ?_ ?_ ?_) | omega | (simp; done) | (simp; omega)))⟩
        case measure => simp [intOf]; omega
      · have H1 := Lib.hid h1
        have H2 := Lib.hid (allC_not (by rw [HL.out]; exact hlt) (by rw [hcl]; exact h1))
        clear h1 hcl
        go_wp2_with ((go_at_call 42; (with_reducible refine (notColor_eq (Hid.out (by with_reducible assumption)) _).mono ?_); rintro e w1 ⟨rfl, hb⟩; have hz := hb.size; (try simp at hz); (try (have hk := bcl hb (b) (by first | omega | (simp; done) | (simp; omega)); have hc := hk.1; have hf := hk.2.1; have hk := hk.2.2))))
        go_ret
        exact ⟨k, rfl, by rw [H2.out]; simp, by (repeat' (first | (with_reducible exact Below.refl _ _) | (with_reducible assumption) | (with_reducible refine Below.alloc ?_ ?_ _) | (with_reducible refine below_drewN ?_ _) | (with_reducible refine Below.drew ?_) | (with_reducible refine Below.setCell ?_ ?_ _) | (with_reducible refine below_call (by assumption) ?_ ?_) | (with_reducible refine below_grown (by assumption) ?_ ?_ ?_) | omega | (simp; done) | (simp; omega)))⟩
    · obtain rfl : k = n := by omega
      have H2 : Hid (l.all colorB = true) := Lib.hid (by rw [← allC_all, HL.out]; exact HV.out)
      have eb : decide ((k : Int) < k) = false := by simp
      go_wp2
      go_ret
      exact ⟨-1, rfl, by rw [H2.out]; decide, by (repeat' (first | (with_reducible exact Below.refl _ _) | (with_reducible assumption) | (with_reducible refine Below.alloc ?_ ?_ _) | (with_reducible refine below_drewN ?_ _) | (with_reducible refine Below.drew ?_) | (with_reducible refine Below.setCell ?_ ?_ _) | (with_reducible refine below_call (by assumption) ?_ ?_) | (with_reducible refine below_grown (by assumption) ?_ ?_ ?_) | omega | (simp; done) | (simp; omega)))⟩

set_option maxHeartbeats 400000 in
theorem ContainsFuncC_any {A : Option Addr} {n : Nat} {l : List Cl} {w : World} {v : Bool} (c : Nat) (h : IsCs w A n l) (hn : n ≤ 1000000000000) (hv : l.all colorB = v) :
    Calls Try.prog 41 #[.slice A n c, .func (.func 42) #[] #[]] w fun e w' => e = .returned (.bool !v) ∧ Below w.heap.size w w' := by
  have HP := Lib.hid h
  have HV := Lib.hid hv
  clear h hv
  go_enter Try.func41, Try.ntmps41
  go_wp2_with fail
  refine (IndexFuncC_any c HP.out hn).mono ?_
  rintro e w1 ⟨r, rfl, hr, hb⟩
  rw [HV.out] at hr
  go_wp2
  go_ret
  exact ⟨rfl, by (repeat' (first | (with_reducible exact Below.refl _ _) | (with_reducible assumption) | (with_reducible refine Below.alloc ?_ ?_ _) | (with_reducible refine below_drewN ?_ _) | (with_reducible refine Below.drew ?_) | (with_reducible refine Below.setCell ?_ ?_ _) | (with_reducible refine below_call (by assumption) ?_ ?_) | (with_reducible refine below_grown (by assumption) ?_ ?_ ?_) | omega | (simp; done) | (simp; omega)))⟩

theorem side_small {x y p : Int} (hs : sizedB x y = true) (hp : x * y = p) : 1 ≤ p ∧ p ≤ 144 := by
  obtain ⟨a1, a2, b1, b2⟩ := sizedB_true.1 hs
  have h1 := Int.mul_le_mul_of_nonneg_left b2 (show 0 ≤ x by omega)
  have h2 := Int.mul_le_mul_of_nonneg_left b1 (show 0 ≤ x by omega)
  omega

set_option maxHeartbeats 2000000 in
theorem frameValid_eq {A : Option Addr} {n : Nat} {l : List Cl} {x y : Int} {w : World} {v : Bool} (c : Nat) (h : IsCs w A n l) (hn : n ≤ 1000000000000) (hv : frameB x y l = v) :
    Calls Try.prog 24 #[.agg #[.int .i64 x, .int .i64 y, .slice A n c]] w fun e w' => e = .returned (.bool v) ∧ Below w.heap.size w w' := by
  subst hv
  have HP := Lib.hid h
  have hl := h.1
  obtain ⟨s, hs⟩ : ∃ s, sizedB x y = s := ⟨_, rfl⟩
  have HS := Lib.hid hs
  obtain ⟨p, hp⟩ : ∃ p, x * y = p := ⟨_, rfl⟩
  obtain ⟨q, hq⟩ : ∃ q, l.all colorB = q := ⟨_, rfl⟩
  have HQ := Lib.hid hq
  have hvv : frameB x y l = (s && (decide ((n : Int) = p) && q)) := by rw [frameB, hs, hl, hp, hq]
  have HV := Lib.hid hvv
  clear h hl hvv hq
  cases s with
  | false =>
    simp only [Bool.false_and] at HV
    go_enter Try.func24, Try.ntmps24
    go_wp2_with fail
    refine (sized_eq HS.out _).mono ?_
    rintro e w1 ⟨rfl, hb1⟩
    go_wp2
    go_ret
    exact ⟨by rw [HV.out]; rfl, by (repeat' (first | (with_reducible exact Below.refl _ _) | (with_reducible assumption) | (with_reducible refine Below.alloc ?_ ?_ _) | (with_reducible refine below_drewN ?_ _) | (with_reducible refine Below.drew ?_) | (with_reducible refine Below.setCell ?_ ?_ _) | (with_reducible refine below_call (by assumption) ?_ ?_) | (with_reducible refine below_grown (by assumption) ?_ ?_ ?_) | omega | (simp; done) | (simp; omega)))⟩
  | true =>
    simp only [Bool.true_and] at HV
    have hps := side_small hs hp
    obtain ⟨a1, a2, b1, b2⟩ := sizedB_true.1 hs
    clear hs
    by_cases hnp : (n : Int) = p
    · have e1 : decide ((n : Int) = p) = true := decide_eq_true hnp
      have e2 : ((n : Int) == p) = true := by simp [hnp]
      rw [e1, Bool.true_and] at HV
      clear hnp
      go_enter Try.func24, Try.ntmps24
      go_wp2_with fail
      refine (sized_eq HS.out _).mono ?_
      rintro e w1 ⟨rfl, hb1⟩
      have hz1 := hb1.size
      (try simp at hz1)
      have hk1 := blk_below (blk_new w (.cells #[.int .i64 x, .int .i64 y, .slice A n c] 29)) hb1
      have hc1 := blk_cell hk1
      have hl1 := blk_lt hk1
      go_wp2_with fail
      refine (ContainsFuncC_any c (HP.out.below (by (repeat' (first | (with_reducible exact Below.refl _ _) | (with_reducible assumption) | (with_reducible refine Below.alloc ?_ ?_ _) | (with_reducible refine below_drewN ?_ _) | (with_reducible refine Below.drew ?_) | (with_reducible refine Below.setCell ?_ ?_ _) | (with_reducible refine below_call (by assumption) ?_ ?_) | (with_reducible refine below_grown (by assumption) ?_ ?_ ?_) | omega | (simp; done) | (simp; omega))))) hn HQ.out).mono ?_
      rintro e w2 ⟨rfl, hb2⟩
      go_wp2
      go_ret
      exact ⟨by rw [HV.out]; first | rfl | (refine ret_bool ?_; simp), by (repeat' (first | (with_reducible exact Below.refl _ _) | (with_reducible assumption) | (with_reducible refine Below.alloc ?_ ?_ _) | (with_reducible refine below_drewN ?_ _) | (with_reducible refine Below.drew ?_) | (with_reducible refine Below.setCell ?_ ?_ _) | (with_reducible refine below_call (by assumption) ?_ ?_) | (with_reducible refine below_grown (by assumption) ?_ ?_ ?_) | omega | (simp; done) | (simp; omega)))⟩
    · have e1 : decide ((n : Int) = p) = false := decide_eq_false hnp
      have e2 : ((n : Int) == p) = false := by simp [hnp]
      rw [e1, Bool.false_and] at HV
      go_enter Try.func24, Try.ntmps24
      go_wp2_with fail
      refine (sized_eq HS.out _).mono ?_
      rintro e w1 ⟨rfl, hb1⟩
      have hz1 := hb1.size
      (try simp at hz1)
      have hk1 := blk_below (blk_new w (.cells #[.int .i64 x, .int .i64 y, .slice A n c] 29)) hb1
      have hc1 := blk_cell hk1
      have hl1 := blk_lt hk1
      go_wp2
      go_ret
      exact ⟨by rw [HV.out]; rfl, by (repeat' (first | (with_reducible exact Below.refl _ _) | (with_reducible assumption) | (with_reducible refine Below.alloc ?_ ?_ _) | (with_reducible refine below_drewN ?_ _) | (with_reducible refine Below.drew ?_) | (with_reducible refine Below.setCell ?_ ?_ _) | (with_reducible refine below_call (by assumption) ?_ ?_) | (with_reducible refine below_grown (by assumption) ?_ ?_ ?_) | omega | (simp; done) | (simp; omega)))⟩

set_option maxHeartbeats 2000000 in
theorem validFrame_eq {A : Option Addr} {n : Nat} {l : List Cl} {x y : Int} {w : World} {v : Bool} (c : Nat) (h : IsCs w A n l) (hn : n ≤ 1000000000000) (hv : frameB x y l = v) :
    Calls Try.prog 21 #[.agg #[.int .i64 x, .int .i64 y, .slice A n c]] w fun e w' => e = .returned (.bool v) ∧ Below w.heap.size w w' := by
  subst hv
  have HP := Lib.hid h
  have hl := h.1
  have HL := Lib.hid hl
  obtain ⟨s, hs⟩ : ∃ s, sizedB x y = s := ⟨_, rfl⟩
  have HS := Lib.hid hs
  obtain ⟨p, hp⟩ : ∃ p, x * y = p := ⟨_, rfl⟩
  obtain ⟨q, hq⟩ : ∃ q, l.all colorB = q := ⟨_, rfl⟩
  have HQ := Lib.hid hq
  have hvv : frameB x y l = (s && (decide ((n : Int) = p) && q)) := by rw [frameB, hs, hl, hp, hq]
  have HV := Lib.hid hvv
  have hsp : s = true → (1 ≤ p ∧ p ≤ 144 ∧ 1 ≤ x ∧ x ≤ 12 ∧ 1 ≤ y ∧ y ≤ 12) := fun e => by
    rw [e] at hs
    have := side_small hs hp
    obtain ⟨a1, a2, b1, b2⟩ := sizedB_true.1 hs
    omega
  have HSP := Lib.hid hsp
  clear h hl hvv hq hs hsp
  go_enter Try.func21, Try.ntmps21
  go_wp2
  go_loopw [3] (fun i wr => ∃ k : Nat, k ≤ n ∧ i = .int .i64 k ∧ allC l k = true ∧ wr.heap[w.heap.size]? = some (.cells #[.int .i64 x, .int .i64 y, .slice A n c] 29 (0, 0)) ∧ Below w.heap.size w wr) (fun i _ => n - (intOf i).toNat)
  case atStart => exact ⟨0, by omega, rfl, rfl, blk_new w _, by (repeat' (first | (with_reducible exact Below.refl _ _) | (with_reducible assumption) | (with_reducible refine Below.alloc ?_ ?_ _) | (with_reducible refine below_drewN ?_ _) | (with_reducible refine Below.drew ?_) | (with_reducible refine Below.setCell ?_ ?_ _) | (with_reducible refine below_call (by assumption) ?_ ?_) | (with_reducible refine below_grown (by assumption) ?_ ?_ ?_) | omega | (simp; done) | (simp; omega)))⟩
  case round =>
    obtain ⟨k, hk, rfl, hv, hkb, hbel⟩ := hrel
    obtain ⟨wo, rfl⟩ : ∃ wo : World, wo = wr := ⟨_, rfl⟩
    have hsz := hbel.size
    have hcb := blk_cell hkb
    have hlb := blk_lt hkb
    have HK := Lib.hid hkb
    have HVV := Lib.hid hv
    clear hv hkb
    by_cases hlt : k < n
    · have eb : decide ((k : Int) < n) = true := by simp; omega
      have hki : (k : Int) < n := by omega
      obtain ⟨b, o, r, g, u, a, rfl, hbl, hcl, c0, c1, c2, c3⟩ := (HP.out.below hbel).at_ hlt
      rcases Bool.eq_false_or_eq_true (colorB (r, g, u, a)) with h1 | h1
      · have H1 := Lib.hid h1
        have HC := Lib.hid hcl
        clear h1 hcl
        go_wp2_with fail
        refine (validColor_eq H1.out _).mono ?_
        rintro e w1 ⟨rfl, hb1⟩
        have hz1 := hb1.size
        go_wp2
        go_roundw
        case rel => exact ⟨k + 1, by omega, by go_num, by rw [allC_succ (by rw [HL.out]; exact hlt), HVV.out, HC.out, H1.out]; rfl, blk_below HK.out hb1, by (repeat' (first | (with_reducible exact Below.refl _ _) | (with_reducible assumption) | (with_reducible refine Below.alloc ?_ ?_ _) | (with_reducible refine below_drewN ?_ _) | (with_reducible refine Below.drew ?_) | (with_reducible refine Below.setCell ?_ ?_ _) | (with_reducible refine below_call (by assumption) ?_ ?_) | (with_reducible refine below_grown (by assumption) ?_ ?_ ?_) | omega | (simp; done) | (simp; omega)))⟩
        case measure => simp [intOf]; omega
      · have H1 := Lib.hid h1
        have H2 := Lib.hid (allC_not (by rw [HL.out]; exact hlt) (by rw [hcl]; exact h1))
        clear h1 hcl
        have hq0 : q = false := by rw [← HQ.out, H2.out]
        have HV2 : Hid (frameB x y l = false) := Lib.hid (by rw [HV.out, hq0]; simp)
        clear hq0
        go_wp2_with fail
        refine (validColor_eq H1.out _).mono ?_
        rintro e w1 ⟨rfl, hb1⟩
        have hz1 := hb1.size
        go_wp2
        go_ret
        exact ⟨by rw [HV2.out]; rfl, by (repeat' (first | (with_reducible exact Below.refl _ _) | (with_reducible assumption) | (with_reducible refine Below.alloc ?_ ?_ _) | (with_reducible refine below_drewN ?_ _) | (with_reducible refine Below.drew ?_) | (with_reducible refine Below.setCell ?_ ?_ _) | (with_reducible refine below_call (by assumption) ?_ ?_) | (with_reducible refine below_grown (by assumption) ?_ ?_ ?_) | omega | (simp; done) | (simp; omega)))⟩
    · obtain rfl : k = n := by omega
      have eb : decide ((k : Int) < k) = false := by simp
      have hq1 : q = true := by rw [← HQ.out, ← allC_all, HL.out]; exact HVV.out
      have HV2 : Hid (frameB x y l = (s && decide ((k : Int) = p))) := Lib.hid (by rw [HV.out, hq1, Bool.and_true])
      clear hq1
      go_wp2_with fail
      refine (validSize_eq HS.out _).mono ?_
      rintro e w1 ⟨rfl, hb1⟩
      have hz1 := hb1.size
      have hk1 := blk_below HK.out hb1
      have hc1 := blk_cell hk1
      have hl1 := blk_lt hk1
      clear hcb hlb
      cases s with
      | false =>
        simp only [Bool.false_and] at HV2
        go_wp2
        go_ret
        exact ⟨by rw [HV2.out]; rfl, by (repeat' (first | (with_reducible exact Below.refl _ _) | (with_reducible assumption) | (with_reducible refine Below.alloc ?_ ?_ _) | (with_reducible refine below_drewN ?_ _) | (with_reducible refine Below.drew ?_) | (with_reducible refine Below.setCell ?_ ?_ _) | (with_reducible refine below_call (by assumption) ?_ ?_) | (with_reducible refine below_grown (by assumption) ?_ ?_ ?_) | omega | (simp; done) | (simp; omega)))⟩
      | true =>
        simp only [Bool.true_and] at HV2
        obtain ⟨p1, p2, a1, a2, b1, b2⟩ := HSP.out rfl
        go_wp2
        go_ret
        exact ⟨by rw [HV2.out]; first | rfl | (refine ret_bool ?_; simp), by (repeat' (first | (with_reducible exact Below.refl _ _) | (with_reducible assumption) | (with_reducible refine Below.alloc ?_ ?_ _) | (with_reducible refine below_drewN ?_ _) | (with_reducible refine Below.drew ?_) | (with_reducible refine Below.setCell ?_ ?_ _) | (with_reducible refine below_call (by assumption) ?_ ?_) | (with_reducible refine below_grown (by assumption) ?_ ?_ ?_) | omega | (simp; done) | (simp; omega)))⟩

end Go.Proofs.Ytiocgklfkckomaa
