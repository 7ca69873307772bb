/-
  Whether turns are valid; the order of work by the reference.
-/
import Derived.Test.YtadpmigppjjmhaaWkP
namespace Go.Proofs.Ytadpmigppjjmhaa
open Go.RowKit Pl

set_option linter.unusedSimpArgs false
set_option linter.unusedVariables false

def tnB (ws : Int) (t : Tn) : Bool := inB t.1 0 (ws - 1) && inB t.2 0 (ws - 1)
theorem wOk_split (script : List Tn) (ws : Int) : wOk script ws = (script.all (tnB ws) && (inB ws 1 4 && decide (script.length ≤ 30))) := by
  have e : (fun t : Tn => decide (0 ≤ t.1 ∧ t.1 < ws ∧ 0 ≤ t.2 ∧ t.2 < ws)) = tnB ws := by
    funext t
    unfold tnB inB
    rw [← Bool.decide_and]
    congr 1
    simp only [eq_iff_iff]
    omega
  unfold wOk
  rw [e, Bool.and_comm]
  congr 1
  unfold inB
  rw [← Bool.decide_and]
  congr 1
  simp only [eq_iff_iff]
  omega
theorem tn_take {f : Tn → Bool} {l : List Tn} {k : Nat} (h : k < l.length) : (l.take (k + 1)).all f = ((l.take k).all f && f (px l k, py l k)) := by
  rw [List.take_succ_eq_append_getElem h, List.all_append]
  congr 1
  simp [px, py, h]
theorem tn_not {f : Tn → Bool} {l : List Tn} {k : Nat} (h : k < l.length) (hf : f (px l k, py l k) = false) : l.all f = false := by
  rcases Bool.eq_false_or_eq_true (l.all f) with h1 | h1
  · have := (List.all_eq_true.1 h1) l[k] (List.getElem_mem h)
    have e : l[k] = (px l k, py l k) := by simp [px, py, h]
    rw [e, hf] at this; cases this
  · exact h1

set_option maxHeartbeats 2000000 in
theorem validTurns_eq {AS : Option Addr} {m : Nat} {script : List Tn} {w : World} {ws : Int} {v : Bool} (c : Nat) (h : IsPts w AS m script) (hm : m ≤ 1000000000) (hw1 : -1000000 ≤ ws) (hw2 : ws ≤ 1000000) (hv : wOk script ws = v) :
    Calls Try.prog 15 #[.int .i64 ws, .slice AS m c] w fun e w' => e = .returned (.bool v) ∧ Below w.heap.size w w' := by
  rw [wOk_split] at hv
  have hl := h.1
  rw [hl] at hv
  have HP := Lib.hid h
  have HL := Lib.hid hl
  have HV := Lib.hid hv
  clear h hl hv
  go_enter Try.func15, Try.ntmps15
  go_wp2
  go_loopw [5] (fun i wr => ∃ k : Nat, k ≤ m ∧ i = .int .i64 (k : Int) ∧ (script.take k).all (tnB ws) = true ∧ Below w.heap.size w wr) (fun i _ => m - (intOf i).toNat)
  case atStart => exact ⟨0, by omega, rfl, rfl, by (repeat' (first | (with_reducible exact Below.refl _ _) | (with_reducible assumption) | (with_reducible refine Below.alloc ?_ ?_ _) | (with_reducible refine below_drewN ?_ _) | (with_reducible refine Below.drew ?_) | (with_reducible refine Below.setCell ?_ ?_ _) | (with_reducible refine below_call (by assumption) ?_ ?_) | (with_reducible refine below_grown (by assumption) ?_ ?_ ?_) | omega | (simp; done) | (simp; omega)))⟩
  case round =>
    obtain ⟨wo, rfl⟩ : ∃ wo : World, wo = wr := ⟨_, rfl⟩
    obtain ⟨k, hk, rfl, hall, hbel⟩ := hrel
    have hsz := hbel.size
    have HA := Lib.hid hall
    clear hall
    by_cases hlt : k < m
    · have eb : decide ((k : Int) < m) = true := decide_eq_true (by omega)
      have hki : (k : Int) < m := by omega
      obtain ⟨b, o, hAS, hbl, c0, c1⟩ := (HP.out.below hbel).at_ hlt
      obtain ⟨p, hp⟩ : ∃ x, px script k = x := ⟨_, rfl⟩
      obtain ⟨q, hq⟩ : ∃ x, py script k = x := ⟨_, rfl⟩
      rw [hp] at c0
      rw [hq] at c1
      have HN : Hid (tnB ws (p, q) = false → script.all (tnB ws) = false) := Lib.hid fun hf => tn_not (k := k) (by rw [HL.out]; exact hlt) (by rw [hp, hq]; exact hf)
      have HY : Hid (tnB ws (p, q) = true → (script.take (k + 1)).all (tnB ws) = true) := Lib.hid fun hf => by rw [tn_take (by rw [HL.out]; exact hlt), HA.out, hp, hq, hf]; rfl
      obtain ⟨b1, hb1⟩ : ∃ v, inB p 0 (ws - 1) = v := ⟨_, rfl⟩
      obtain ⟨b2, hb2⟩ : ∃ v, inB q 0 (ws - 1) = v := ⟨_, rfl⟩
      have H1 := Lib.hid hb1
      have H2 := Lib.hid hb2
      have HT : Hid (tnB ws (p, q) = (b1 && b2)) := Lib.hid (by unfold tnB; rw [hb1, hb2])
      subst hAS
      clear hp hq hb1 hb2
      cases b1 with
      | false =>
        have hvf : v = false := by rw [← HV.out, HN.out (by rw [HT.out]; rfl)]; rfl
        subst hvf
        go_wp2_with ((go_at_call 14; (with_reducible refine (inRange_eq (Hid.out (by with_reducible assumption)) _).mono ?_); rintro e w1 ⟨rfl, rfl⟩))
        go_ret
        exact ⟨rfl, hbel⟩
      | true =>
        cases b2 with
        | false =>
          have hvf : v = false := by rw [← HV.out, HN.out (by rw [HT.out]; rfl)]; rfl
          subst hvf
          go_wp2_with ((go_at_call 14; (with_reducible refine (inRange_eq (Hid.out (by with_reducible assumption)) _).mono ?_); rintro e w1 ⟨rfl, rfl⟩))
          go_ret
          exact ⟨rfl, hbel⟩
        | true =>
          go_wp2_with ((go_at_call 14; (with_reducible refine (inRange_eq (Hid.out (by with_reducible assumption)) _).mono ?_); rintro e w1 ⟨rfl, rfl⟩))
          go_roundw
          case rel => exact ⟨k + 1, by omega, congrArg (Value.int .i64) (by push_cast; omega), HY.out (by rw [HT.out]; rfl), hbel⟩
          case measure => simp [intOf]; omega
    · obtain rfl : k = m := by omega
      have eb : decide ((k : Int) < k) = false := by simp
      have ht : script.take k = script := by rw [← HL.out, List.take_length]
      have hV : (inB ws 1 4 && decide (k ≤ 30)) = v := by have a := HA.out; have b := HV.out; rw [ht] at a; rw [a] at b; exact b
      obtain ⟨b1, hb1⟩ : ∃ v, inB ws 1 4 = v := ⟨_, rfl⟩
      have H1 := Lib.hid hb1
      rw [hb1] at hV
      clear hb1 ht
      cases b1 with
      | false =>
        have hvf : v = false := hV.symm
        subst hvf
        clear hV
        go_wp2_with ((go_at_call 14; (with_reducible refine (inRange_eq (Hid.out (by with_reducible assumption)) _).mono ?_); rintro e w1 ⟨rfl, rfl⟩))
        go_ret
        exact ⟨rfl, hbel⟩
      | true =>
        by_cases h30 : k ≤ 30
        · have e30 : decide (k ≤ 30) = true := decide_eq_true h30
          have e30' : decide ((k : Int) ≤ 30) = true := decide_eq_true (by omega)
          rw [e30] at hV
          simp only [Bool.and_true, Bool.and_false] at hV
          subst hV
          go_wp2_with ((go_at_call 14; (with_reducible refine (inRange_eq (Hid.out (by with_reducible assumption)) _).mono ?_); rintro e w1 ⟨rfl, rfl⟩))
          go_ret
          exact ⟨rfl, hbel⟩
        · have e30 : decide (k ≤ 30) = false := decide_eq_false h30
          have e30' : decide ((k : Int) ≤ 30) = false := decide_eq_false (by omega)
          rw [e30] at hV
          simp only [Bool.and_true, Bool.and_false] at hV
          subst hV
          go_wp2_with ((go_at_call 14; (with_reducible refine (inRange_eq (Hid.out (by with_reducible assumption)) _).mono ?_); rintro e w1 ⟨rfl, rfl⟩))
          go_ret
          exact ⟨rfl, hbel⟩

theorem RetW.no {script : List Tn} {count ws : Int} {w w' : World} (h : workB script count ws = false) (hb : Below w.heap.size w w') : RetW script count ws w (.returned (.slice none 0 0)) w' :=
  ⟨none, 0, [], rfl, IsPts.nil _ _, by unfold WorkIs; rw [h]; rfl, Nat.le_refl _, by unfold maxLen; omega, hb⟩

set_option maxHeartbeats 2000000 in
theorem sWorkOrder_any {AS : Option Addr} {m : Nat} {script : List Tn} {w : World} {count ws : Int} (c : Nat) (h : IsPts w AS m script) (hm : m ≤ 1000000000) (hw1 : -1000000 ≤ ws) (hw2 : ws ≤ 1000000) :
    Calls Try.prog 8 #[.int .i64 count, .int .i64 ws, .slice AS m c] w (RetW script count ws w) := by
  have HP := Lib.hid h
  clear h
  obtain ⟨b1, hb1⟩ : ∃ v, inB count 0 16 = v := ⟨_, rfl⟩
  obtain ⟨b2, hb2⟩ : ∃ v, wOk script ws = v := ⟨_, rfl⟩
  have hW : workB script count ws = (b1 && b2) := by unfold workB; rw [hb2, ← hb1]; rfl
  have H1 := Lib.hid hb1
  have H2 := Lib.hid hb2
  have HW := Lib.hid hW
  clear hb1 hb2 hW
  cases b1 with
  | false =>
    go_enter Try.func8, Try.ntmps8
    go_wp2_with ((go_at_call 14; (with_reducible refine (inRange_eq (Hid.out (by with_reducible assumption)) _).mono ?_); rintro e w1 ⟨rfl, rfl⟩))
    go_ret
    exact RetW.no HW.out (by (repeat' (first | (with_reducible exact Below.refl _ _) | (with_reducible assumption) | (with_reducible refine Below.alloc ?_ ?_ _) | (with_reducible refine below_drewN ?_ _) | (with_reducible refine Below.drew ?_) | (with_reducible refine Below.setCell ?_ ?_ _) | (with_reducible refine below_call (by assumption) ?_ ?_) | (with_reducible refine below_grown (by assumption) ?_ ?_ ?_) | omega | (simp; done) | (simp; omega))))
  | true =>
    cases b2 with
    | false =>
      go_enter Try.func8, Try.ntmps8
      go_wp2_with ((go_at_call 14; (with_reducible refine (inRange_eq (Hid.out (by with_reducible assumption)) _).mono ?_); rintro e w1 ⟨rfl, rfl⟩))
      refine (validTurns_eq c HP.out hm hw1 hw2 H2.out).mono ?_
      rintro e w1 ⟨rfl, hb⟩
      go_wp2
      go_ret
      exact RetW.no HW.out (by (repeat' (first | (with_reducible exact Below.refl _ _) | (with_reducible assumption) | (with_reducible refine Below.alloc ?_ ?_ _) | (with_reducible refine below_drewN ?_ _) | (with_reducible refine Below.drew ?_) | (with_reducible refine Below.setCell ?_ ?_ _) | (with_reducible refine below_call (by assumption) ?_ ?_) | (with_reducible refine below_grown (by assumption) ?_ ?_ ?_) | omega | (simp; done) | (simp; omega))))
    | true =>
      obtain ⟨p1, p2⟩ := workB_parts HW.out
      obtain ⟨q1, _⟩ := wOk_parts p2
      obtain ⟨n, rfl⟩ : ∃ n : Nat, count = n := ⟨count.toNat, by omega⟩
      obtain ⟨s, rfl⟩ : ∃ n : Nat, ws = n := ⟨ws.toNat, by omega⟩
      have hn16 : n ≤ 16 := by omega
      clear p1 p2 q1
      go_enter Try.func8, Try.ntmps8
      go_wp2_with ((go_at_call 14; (with_reducible refine (inRange_eq (Hid.out (by with_reducible assumption)) _).mono ?_); rintro e w1 ⟨rfl, rfl⟩))
      refine (validTurns_eq c HP.out hm hw1 hw2 H2.out).mono ?_
      rintro e w1 ⟨rfl, hb⟩
      have hz := hb.size
      go_wp2_with fail
      refine (run_any c (HP.out.below hb) H2.out hn16).mono ?_
      rintro e w2 ⟨A, c2, L, rfl, hI, hWk, hc1, hc2, hb2⟩
      go_wp2
      go_ret
      exact ⟨A, c2, L, rfl, hI, hWk, hc1, hc2, by (repeat' (first | (with_reducible exact Below.refl _ _) | (with_reducible assumption) | (with_reducible refine Below.alloc ?_ ?_ _) | (with_reducible refine below_drewN ?_ _) | (with_reducible refine Below.drew ?_) | (with_reducible refine Below.setCell ?_ ?_ _) | (with_reducible refine below_call (by assumption) ?_ ?_) | (with_reducible refine below_grown (by assumption) ?_ ?_ ?_) | omega | (simp; done) | (simp; omega)))⟩

end Go.Proofs.Ytadpmigppjjmhaa
