/-
  Whether there are tiles, workers and turns: the program's check.
-/
import Derived.Test.YtadpmigppjjmhaaWkV
namespace Go.Proofs.Ytadpmigppjjmhaa
open Go.RowKit Pl

set_option linter.unusedSimpArgs false
set_option linter.unusedVariables false

/-- A box holds a number. -/
def BoxN (b : Nat) (x : Int) (w : World) : Prop := b < w.heap.size ∧ w.cell? ⟨b, 0, none⟩ = some (.int .i64 x)
theorem BoxN.below {b : Nat} {x : Int} {w w' : World} (h : BoxN b x w) (hb : Below w.heap.size w w') : BoxN b x w' :=
  ⟨Nat.lt_of_lt_of_le h.1 hb.size, (hb.cell (p := ⟨b, 0, none⟩) h.1).trans h.2⟩

set_option maxHeartbeats 1000000 in
theorem turnBad_eq {p q ws : Int} {v : Bool} {b : Nat} {w : World} (hb : BoxN b ws w) (hw1 : -1000000 ≤ ws) (hw2 : ws ≤ 1000000) (h : tnB ws (p, q) = v) :
    Calls Try.prog 20 #[.agg #[.int .i64 p, .int .i64 q], .pointer (some ⟨b, 0, none⟩)] w fun e w' => e = .returned (.bool !v) ∧ Below w.heap.size w w' := by
  obtain ⟨hbl, hc⟩ := hb
  obtain ⟨b1, hb1⟩ : ∃ v, inB p 0 (ws - 1) = v := ⟨_, rfl⟩
  obtain ⟨b2, hb2⟩ : ∃ v, inB q 0 (ws - 1) = v := ⟨_, rfl⟩
  have hv : v = (b1 && b2) := by rw [← h, tnB, hb1, hb2]
  have H1 := Lib.hid hb1
  have H2 := Lib.hid hb2
  subst hv
  clear hb1 hb2 h
  cases b1 with
  | false =>
    go_enter Try.func20, Try.ntmps20
    go_wp2_with ((go_at_call 18; (with_reducible refine (in_eq (Hid.out (by with_reducible assumption)) _).mono ?_); rintro e w1 ⟨rfl, rfl⟩))
    go_ret
    exact ⟨rfl, by (repeat' (first | (with_reducible exact Below.refl _ _) | (with_reducible assumption) | (with_reducible refine Below.alloc ?_ ?_ _) | (with_reducible refine below_drewN ?_ _) | (with_reducible refine Below.drew ?_) | (with_reducible refine Below.setCell ?_ ?_ _) | (with_reducible refine below_call (by assumption) ?_ ?_) | (with_reducible refine below_grown (by assumption) ?_ ?_ ?_) | omega | (simp; done) | (simp; omega)))⟩
  | true =>
    cases b2
    all_goals
      go_enter Try.func20, Try.ntmps20
      go_wp2_with ((go_at_call 18; (with_reducible refine (in_eq (Hid.out (by with_reducible assumption)) _).mono ?_); rintro e w1 ⟨rfl, rfl⟩))
      go_ret
      exact ⟨rfl, by (repeat' (first | (with_reducible exact Below.refl _ _) | (with_reducible assumption) | (with_reducible refine Below.alloc ?_ ?_ _) | (with_reducible refine below_drewN ?_ _) | (with_reducible refine Below.drew ?_) | (with_reducible refine Below.setCell ?_ ?_ _) | (with_reducible refine below_call (by assumption) ?_ ?_) | (with_reducible refine below_grown (by assumption) ?_ ?_ ?_) | omega | (simp; done) | (simp; omega)))⟩

/-- A place, or -1: from 0 on if one of the turns is not valid. -/
def IdxT (ws : Int) (l : List Tn) (w : World) (e : Ending) (w' : World) : Prop := ∃ r : Int, e = .returned (.int .i64 r) ∧ decide (0 ≤ r) = !(l.all (tnB ws)) ∧ Below w.heap.size w w'

set_option maxHeartbeats 1000000 in
theorem IndexFuncT_any {A : Option Addr} {n : Nat} {l : List Tn} {w : World} {ws : Int} {g : Nat} (c : Nat) (h : IsPts w A n l) (hn : n ≤ 1000000000000) (hg : BoxN g ws w) (hw1 : -1000000 ≤ ws) (hw2 : ws ≤ 1000000) :
    Calls Try.prog 24 #[.slice A n c, .func (.func 20) #[] #[.pointer (some ⟨g, 0, none⟩)]] w (IdxT ws l w) := by
  have hl := h.1
  have HP := Lib.hid h
  have HG := Lib.hid hg
  have HL := Lib.hid hl
  clear h hg hl
  go_enter Try.func24, Try.ntmps24
  go_wp2
  go_loopw [8] (fun i wr => ∃ k : Nat, k ≤ n ∧ i = .int .i64 k ∧ (l.take k).all (tnB ws) = true ∧ Below w.heap.size w wr) (fun i _ => n - (intOf i).toNat)
  case atStart => exact ⟨0, by omega, rfl, rfl, by (repeat' (first | (with_reducible exact Below.refl _ _) | (with_reducible assumption) | (with_reducible refine Below.alloc ?_ ?_ _) | (with_reducible refine below_drewN ?_ _) | (with_reducible refine Below.drew ?_) | (with_reducible refine Below.setCell ?_ ?_ _) | (with_reducible refine below_call (by assumption) ?_ ?_) | (with_reducible refine below_grown (by assumption) ?_ ?_ ?_) | omega | (simp; done) | (simp; omega)))⟩
  case round =>
    obtain ⟨wo, rfl⟩ : ∃ wo : World, wo = wr := ⟨_, rfl⟩
    obtain ⟨k, hk, rfl, hv, hbel⟩ := hrel
    have hsz := hbel.size
    have HV := Lib.hid hv
    clear hv
    by_cases hlt : k < n
    · have eb : decide ((k : Int) < n) = true := by simp; omega
      have hki : (k : Int) < n := by omega
      obtain ⟨b, o, rfl, hbl, c0, c1⟩ := (HP.out.below hbel).at_ hlt
      obtain ⟨p, hp⟩ : ∃ x, px l k = x := ⟨_, rfl⟩
      obtain ⟨q, hq⟩ : ∃ x, py l k = x := ⟨_, rfl⟩
      rw [hp] at c0
      rw [hq] at c1
      rcases Bool.eq_false_or_eq_true (tnB ws (p, q)) with h1 | h1
      · have H2 : Hid ((l.take (k + 1)).all (tnB ws) = true) := Lib.hid (by rw [tn_take (by rw [HL.out]; exact hlt), HV.out, hp, hq, h1]; rfl)
        have H1 := Lib.hid h1
        clear h1 hp hq
        go_wp2_with ((go_at_call 20; (with_reducible refine (turnBad_eq (HG.out.below hbel) hw1 hw2 H1.out).mono ?_); rintro e w1 ⟨rfl, hb⟩; have hz := hb.size; (try simp at hz); (try (have hk := bcl hb (b) (by first | omega | (simp; done) | (simp; omega)); have hc := hk.1; have hf := hk.2.1; have hk := hk.2.2))))
        go_roundw
        case rel => exact ⟨k + 1, by omega, by go_num, H2.out, by (repeat' (first | (with_reducible exact Below.refl _ _) | (with_reducible assumption) | (with_reducible refine Below.alloc ?_ ?_ _) | (with_reducible refine below_drewN ?_ _) | (with_reducible refine Below.drew ?_) | (with_reducible refine Below.setCell ?_ ?_ _) | (with_reducible refine below_call (by assumption) ?_ ?_) | (with_reducible refine below_grown (by assumption) ?_ ?_ ?_) | omega | (simp; done) | (simp; omega)))⟩
        case measure => simp [intOf]; omega
      · have H2 : Hid (l.all (tnB ws) = false) := Lib.hid (tn_not (k := k) (by rw [HL.out]; exact hlt) (by rw [hp, hq]; exact h1))
        have H1 := Lib.hid h1
        clear h1 hp hq
        go_wp2_with ((go_at_call 20; (with_reducible refine (turnBad_eq (HG.out.below hbel) hw1 hw2 H1.out).mono ?_); rintro e w1 ⟨rfl, hb⟩; have hz := hb.size; (try simp at hz); (try (have hk := bcl hb (b) (by first | omega | (simp; done) | (simp; omega)); have hc := hk.1; have hf := hk.2.1; have hk := hk.2.2))))
        go_ret
        exact ⟨k, rfl, by rw [H2.out]; simp, by (repeat' (first | (with_reducible exact Below.refl _ _) | (with_reducible assumption) | (with_reducible refine Below.alloc ?_ ?_ _) | (with_reducible refine below_drewN ?_ _) | (with_reducible refine Below.drew ?_) | (with_reducible refine Below.setCell ?_ ?_ _) | (with_reducible refine below_call (by assumption) ?_ ?_) | (with_reducible refine below_grown (by assumption) ?_ ?_ ?_) | omega | (simp; done) | (simp; omega)))⟩
    · obtain rfl : k = n := by omega
      have H2 : Hid (l.all (tnB ws) = true) := Lib.hid (by have := HV.out; rw [← HL.out, List.take_length] at this; exact this)
      have eb : decide ((k : Int) < k) = false := by simp
      go_wp2
      go_ret
      exact ⟨-1, rfl, by rw [H2.out]; decide, by (repeat' (first | (with_reducible exact Below.refl _ _) | (with_reducible assumption) | (with_reducible refine Below.alloc ?_ ?_ _) | (with_reducible refine below_drewN ?_ _) | (with_reducible refine Below.drew ?_) | (with_reducible refine Below.setCell ?_ ?_ _) | (with_reducible refine below_call (by assumption) ?_ ?_) | (with_reducible refine below_grown (by assumption) ?_ ?_ ?_) | omega | (simp; done) | (simp; omega)))⟩

set_option maxHeartbeats 400000 in
theorem ContainsFuncT_any {A : Option Addr} {n : Nat} {l : List Tn} {w : World} {ws : Int} {g : Nat} {v : Bool} (c : Nat) (h : IsPts w A n l) (hn : n ≤ 1000000000000) (hg : BoxN g ws w) (hw1 : -1000000 ≤ ws) (hw2 : ws ≤ 1000000) (hv : l.all (tnB ws) = v) :
    Calls Try.prog 19 #[.slice A n c, .func (.func 20) #[] #[.pointer (some ⟨g, 0, none⟩)]] w fun e w' => e = .returned (.bool !v) ∧ Below w.heap.size w w' := by
  have HP := Lib.hid h
  have HV := Lib.hid hv
  have HG := Lib.hid hg
  clear h hv hg
  go_enter Try.func19, Try.ntmps19
  go_wp2_with fail
  refine (IndexFuncT_any c HP.out hn HG.out hw1 hw2).mono ?_
  rintro e w1 ⟨r, rfl, hr, hb⟩
  rw [HV.out] at hr
  go_wp2
  go_ret
  exact ⟨rfl, by (repeat' (first | (with_reducible exact Below.refl _ _) | (with_reducible assumption) | (with_reducible refine Below.alloc ?_ ?_ _) | (with_reducible refine below_drewN ?_ _) | (with_reducible refine Below.drew ?_) | (with_reducible refine Below.setCell ?_ ?_ _) | (with_reducible refine below_call (by assumption) ?_ ?_) | (with_reducible refine below_grown (by assumption) ?_ ?_ ?_) | omega | (simp; done) | (simp; omega)))⟩

set_option maxHeartbeats 1000000 in
theorem workValid_eq {AS : Option Addr} {m : Nat} {script : List Tn} {w : World} {count ws : Int} {v : Bool} (c : Nat) (h : IsPts w AS m script) (hm : m ≤ 1000000000) (hw1 : -1000000 ≤ ws) (hw2 : ws ≤ 1000000) (hv : workB script count ws = v) :
    Calls Try.prog 12 #[.int .i64 count, .int .i64 ws, .slice AS m c] w fun e w' => e = .returned (.bool v) ∧ Below w.heap.size w w' := by
  have hl := h.1
  have HP := Lib.hid h
  obtain ⟨b1, hb1⟩ : ∃ v, inB count 0 16 = v := ⟨_, rfl⟩
  obtain ⟨b2, hb2⟩ : ∃ v, inB ws 1 4 = v := ⟨_, rfl⟩
  obtain ⟨b4, hb4⟩ : ∃ v, script.all (tnB ws) = v := ⟨_, rfl⟩
  have hW : v = (b1 && (b4 && (b2 && decide (m ≤ 30)))) := by
    rw [← hv]; unfold workB; rw [wOk_split, hb4, hb2, hl, ← hb1]; rfl
  have H1 := Lib.hid hb1
  have H2 := Lib.hid hb2
  have H4 := Lib.hid hb4
  have hg0 : BoxN w.heap.size ws (w.alloc (.cells #[.int .i64 ws] 3)) := ⟨by simp, by rw [blk_cell (blk_new w _)]; rfl⟩
  have HG := Lib.hid hg0
  have hcg := hg0.2
  subst hW
  clear h hv hl hb1 hb2 hb4 hg0
  cases b1 with
  | false =>
    go_enter Try.func12, Try.ntmps12
    go_wp2_with ((go_at_call 18; (with_reducible refine (in_eq (Hid.out (by with_reducible assumption)) _).mono ?_); rintro e w1 ⟨rfl, rfl⟩))
    go_ret
    exact ⟨rfl, by (repeat' (first | (with_reducible exact Below.refl _ _) | (with_reducible assumption) | (with_reducible refine Below.alloc ?_ ?_ _) | (with_reducible refine below_drewN ?_ _) | (with_reducible refine Below.drew ?_) | (with_reducible refine Below.setCell ?_ ?_ _) | (with_reducible refine below_call (by assumption) ?_ ?_) | (with_reducible refine below_grown (by assumption) ?_ ?_ ?_) | omega | (simp; done) | (simp; omega)))⟩
  | true =>
    cases b2 with
    | false =>
      go_enter Try.func12, Try.ntmps12
      go_wp2_with ((go_at_call 18; (with_reducible refine (in_eq (Hid.out (by with_reducible assumption)) _).mono ?_); rintro e w1 ⟨rfl, rfl⟩))
      go_ret
      exact ⟨by simp, by (repeat' (first | (with_reducible exact Below.refl _ _) | (with_reducible assumption) | (with_reducible refine Below.alloc ?_ ?_ _) | (with_reducible refine below_drewN ?_ _) | (with_reducible refine Below.drew ?_) | (with_reducible refine Below.setCell ?_ ?_ _) | (with_reducible refine below_call (by assumption) ?_ ?_) | (with_reducible refine below_grown (by assumption) ?_ ?_ ?_) | omega | (simp; done) | (simp; omega)))⟩
    | true =>
      by_cases h30 : m ≤ 30
      · have e30 : decide (m ≤ 30) = true := decide_eq_true h30
        have e30' : decide ((m : Int) ≤ 30) = true := decide_eq_true (by omega)
        simp only [e30, Bool.and_true, Bool.true_and]
        go_enter Try.func12, Try.ntmps12
        go_wp2_with (first | (go_at_call 18; (with_reducible refine (in_eq (Hid.out (by with_reducible assumption)) _).mono ?_); rintro e w1 ⟨rfl, rfl⟩) | (go_at_call 19; (with_reducible refine (ContainsFuncT_any c (HP.out.below (by (repeat' (first | (with_reducible exact Below.refl _ _) | (with_reducible assumption) | (with_reducible refine Below.alloc ?_ ?_ _) | (with_reducible refine below_drewN ?_ _) | (with_reducible refine Below.drew ?_) | (with_reducible refine Below.setCell ?_ ?_ _) | (with_reducible refine below_call (by assumption) ?_ ?_) | (with_reducible refine below_grown (by assumption) ?_ ?_ ?_) | omega | (simp; done) | (simp; omega))))) (by omega) HG.out hw1 hw2 H4.out).mono ?_); rintro e w1 ⟨rfl, hb⟩; have hz := hb.size; (try simp at hz)))
        go_ret
        exact ⟨by simp, by (repeat' (first | (with_reducible exact Below.refl _ _) | (with_reducible assumption) | (with_reducible refine Below.alloc ?_ ?_ _) | (with_reducible refine below_drewN ?_ _) | (with_reducible refine Below.drew ?_) | (with_reducible refine Below.setCell ?_ ?_ _) | (with_reducible refine below_call (by assumption) ?_ ?_) | (with_reducible refine below_grown (by assumption) ?_ ?_ ?_) | omega | (simp; done) | (simp; omega)))⟩
      · have e30 : decide (m ≤ 30) = false := decide_eq_false h30
        have e30' : decide ((m : Int) ≤ 30) = false := decide_eq_false (by omega)
        simp only [e30, Bool.and_false]
        go_enter Try.func12, Try.ntmps12
        go_wp2_with ((go_at_call 18; (with_reducible refine (in_eq (Hid.out (by with_reducible assumption)) _).mono ?_); rintro e w1 ⟨rfl, rfl⟩))
        go_ret
        exact ⟨rfl, by (repeat' (first | (with_reducible exact Below.refl _ _) | (with_reducible assumption) | (with_reducible refine Below.alloc ?_ ?_ _) | (with_reducible refine below_drewN ?_ _) | (with_reducible refine Below.drew ?_) | (with_reducible refine Below.setCell ?_ ?_ _) | (with_reducible refine below_call (by assumption) ?_ ?_) | (with_reducible refine below_grown (by assumption) ?_ ?_ ?_) | omega | (simp; done) | (simp; omega)))⟩

end Go.Proofs.Ytadpmigppjjmhaa
