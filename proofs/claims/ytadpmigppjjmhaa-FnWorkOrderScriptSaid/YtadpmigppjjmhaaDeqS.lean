/-
  Queues that are valid, by the reference.
-/
import Derived.Test.YtadpmigppjjmhaaDeq
namespace Go.Proofs.Ytadpmigppjjmhaa
open Go.RowKit Pl

set_option linter.unusedSimpArgs false
set_option linter.unusedVariables false

set_option maxHeartbeats 2000000 in
theorem filled_eq {A : Option Addr} {l : List Int} {T B : Nat} {w : World} {v : Bool} (c : Nat) (h : IsI w A 16 l) (htb : T ≤ B) (hb : B ≤ T + 16) (h5 : B ≤ 1000) (hv : filledB l T B 16 = v) :
    Calls Try.prog 33 #[.agg #[.slice A 16 c, .int .i64 T, .int .i64 B]] w fun e w' => e = .returned (.bool v) ∧ Below w.heap.size w w' := by
  subst hv
  have HP := Lib.hid h
  clear h
  go_enter Try.func33, Try.ntmps33
  go_wp2
  go_loopw [3] (fun vi wr => ∃ k : Nat, k ≤ 16 ∧ vi = .int .i64 k ∧ filledB l T B k = true ∧ wr.heap[w.heap.size]? = some (.cells #[.slice A 16 c, .int .i64 T, .int .i64 B] 56 (0, 0)) ∧ Below w.heap.size w wr) (fun vi _ => 16 - (intOf vi).toNat)
  case atStart => exact ⟨0, by omega, rfl, rfl, blk_new w _, by (repeat' (first | (with_reducible exact Below.refl _ _) | (with_reducible assumption) | (with_reducible refine Below.alloc ?_ ?_ _) | (with_reducible refine below_drewN ?_ _) | (with_reducible refine Below.drew ?_) | (with_reducible refine Below.setCell ?_ ?_ _) | (with_reducible refine below_call (by assumption) ?_ ?_) | (with_reducible refine below_grown (by assumption) ?_ ?_ ?_) | omega | (simp; done) | (simp; omega)))⟩
  case round =>
    obtain ⟨wo, rfl⟩ : ∃ wo : World, wo = wr := ⟨_, rfl⟩
    obtain ⟨k, hk, rfl, hfl, hd, hbel⟩ := hrel
    have hsz := hbel.size
    have hcd := blk_cell hd
    have hld := blk_lt hd
    have HD := Lib.hid hd
    have HF := Lib.hid hfl
    clear hd hfl
    by_cases hlt : k < 16
    · have eb : decide ((k : Int) < 16) = true := by simp; omega
      have hki : (k : Int) < 16 := by omega
      obtain ⟨b, o, rfl, hbl, c0⟩ := (HP.out.below hbel).at_ hlt
      go_wp2
      go_loop [4, 5] (fun vu vm => ∃ m : Nat, T ≤ m ∧ m ≤ B ∧ vm = .int .i64 m ∧ vu = .bool (usedB T m k)) (fun _ vm => B - (intOf vm).toNat)
      case atStart => exact ⟨T, by omega, htb, rfl, by rw [usedB_zero]⟩
      case round =>
        obtain ⟨m, hm0, hm1, rfl, rfl⟩ := hrel
        by_cases hlt2 : m < B
        · obtain ⟨i1, hi1, hi16⟩ : ∃ i1 : Nat, (m : Int).tmod 16 = (i1 : Int) ∧ i1 < 16 := ⟨m % 16, by rw [Int.tmod_eq_emod_of_nonneg (by omega)]; simp, Nat.mod_lt _ (by omega)⟩
          have hi2 : (i1 : Int) = (m : Int) % 16 := by rw [← hi1, Int.tmod_eq_emod_of_nonneg (by omega)]
          have hS := usedB_succ (t := (T : Int)) (m := (m : Int)) (i := (k : Int)) (by omega) (by omega) (by omega) (by omega)
          rw [← hi2] at hS
          have eb2 : decide ((m : Int) < B) = true := by simp; omega
          obtain ⟨u, hu⟩ : ∃ u, usedB T m k = u := ⟨_, rfl⟩
          rw [hu] at hS ⊢
          have HS := Lib.hid hS
          clear hS hu hi2
          cases u with
          | true =>
            go_wp2
            go_round
            case rel => exact ⟨m + 1, by omega, by omega, by go_num, by rw [show (((m + 1 : Nat) : Int)) = (m : Int) + 1 by omega, HS.out]; rfl⟩
            case measure => simp [intOf]; omega
          | false =>
            by_cases hik : i1 = k
            · subst hik
              have e1 : decide ((i1 : Int) = i1) = true := by simp
              go_wp2
              go_round
              case rel => exact ⟨m + 1, by omega, by omega, by go_num, by rw [show (((m + 1 : Nat) : Int)) = (m : Int) + 1 by omega, HS.out]; simp⟩
              case measure => simp [intOf]; omega
            · have e1 : ¬ (i1 : Int) = k := by omega
              have e2 : decide ((i1 : Int) = k) = false := decide_eq_false e1
              have e3 : ((i1 : Int) == k) = false := by simpa using e1
              go_wp2
              go_round
              case rel => exact ⟨m + 1, by omega, by omega, by go_num, by rw [show (((m + 1 : Nat) : Int)) = (m : Int) + 1 by omega, HS.out, e2]; rfl⟩
              case measure => simp [intOf]; omega
        · obtain rfl : m = B := by omega
          have eb2 : decide ((m : Int) < m) = false := by simp
          obtain ⟨x, hx⟩ : ∃ x, nt l k = x := ⟨_, rfl⟩
          rw [hx] at c0
          obtain ⟨u, hu⟩ : ∃ u, usedB T m k = u := ⟨_, rfl⟩
          have hfs : filledB l T m (k + 1) = (u == decide (0 ≤ x)) := by rw [filledB, HF.out, hu, ← hx]; simp [nt]
          have hfn : (u == decide (0 ≤ x)) = false → filledB l T m 16 = false := fun hne => filledB_not (k := k) (by rw [hu, ← hx] at *; exact hne) 16 (by omega)
          have HFS := Lib.hid hfs
          have HFN := Lib.hid hfn
          rw [hu]
          clear hx hu hfs hfn
          by_cases hx0 : 0 ≤ x
          · have e1 : decide (0 ≤ x) = true := decide_eq_true hx0
            cases u with
            | true =>
              have HK : Hid (filledB l T m (k + 1) = true) := Lib.hid (by rw [HFS.out, e1]; rfl)
              go_wp2
              go_roundw
              case rel => exact ⟨k + 1, by omega, by go_num, HK.out, HD.out, by (repeat' (first | (with_reducible exact Below.refl _ _) | (with_reducible assumption) | (with_reducible refine Below.alloc ?_ ?_ _) | (with_reducible refine below_drewN ?_ _) | (with_reducible refine Below.drew ?_) | (with_reducible refine Below.setCell ?_ ?_ _) | (with_reducible refine below_call (by assumption) ?_ ?_) | (with_reducible refine below_grown (by assumption) ?_ ?_ ?_) | omega | (simp; done) | (simp; omega)))⟩
              case measure => simp [intOf]; omega
            | false =>
              have HK : Hid (filledB l T m 16 = false) := Lib.hid (HFN.out (by rw [e1]; rfl))
              go_wp2
              go_ret
              exact ⟨by rw [HK.out]; rfl, by (repeat' (first | (with_reducible exact Below.refl _ _) | (with_reducible assumption) | (with_reducible refine Below.alloc ?_ ?_ _) | (with_reducible refine below_drewN ?_ _) | (with_reducible refine Below.drew ?_) | (with_reducible refine Below.setCell ?_ ?_ _) | (with_reducible refine below_call (by assumption) ?_ ?_) | (with_reducible refine below_grown (by assumption) ?_ ?_ ?_) | omega | (simp; done) | (simp; omega)))⟩
          · have e1 : decide (0 ≤ x) = false := decide_eq_false hx0
            cases u with
            | true =>
              have HK : Hid (filledB l T m 16 = false) := Lib.hid (HFN.out (by rw [e1]; rfl))
              go_wp2
              go_ret
              exact ⟨by rw [HK.out]; rfl, by (repeat' (first | (with_reducible exact Below.refl _ _) | (with_reducible assumption) | (with_reducible refine Below.alloc ?_ ?_ _) | (with_reducible refine below_drewN ?_ _) | (with_reducible refine Below.drew ?_) | (with_reducible refine Below.setCell ?_ ?_ _) | (with_reducible refine below_call (by assumption) ?_ ?_) | (with_reducible refine below_grown (by assumption) ?_ ?_ ?_) | omega | (simp; done) | (simp; omega)))⟩
            | false =>
              have HK : Hid (filledB l T m (k + 1) = true) := Lib.hid (by rw [HFS.out, e1]; rfl)
              go_wp2
              go_roundw
              case rel => exact ⟨k + 1, by omega, by go_num, HK.out, HD.out, by (repeat' (first | (with_reducible exact Below.refl _ _) | (with_reducible assumption) | (with_reducible refine Below.alloc ?_ ?_ _) | (with_reducible refine below_drewN ?_ _) | (with_reducible refine Below.drew ?_) | (with_reducible refine Below.setCell ?_ ?_ _) | (with_reducible refine below_call (by assumption) ?_ ?_) | (with_reducible refine below_grown (by assumption) ?_ ?_ ?_) | omega | (simp; done) | (simp; omega)))⟩
              case measure => simp [intOf]; omega
    · obtain rfl : k = 16 := by omega
      go_wp2
      go_ret
      exact ⟨by rw [HF.out]; rfl, by (repeat' (first | (with_reducible exact Below.refl _ _) | (with_reducible assumption) | (with_reducible refine Below.alloc ?_ ?_ _) | (with_reducible refine below_drewN ?_ _) | (with_reducible refine Below.drew ?_) | (with_reducible refine Below.setCell ?_ ?_ _) | (with_reducible refine below_call (by assumption) ?_ ?_) | (with_reducible refine below_grown (by assumption) ?_ ?_ ?_) | omega | (simp; done) | (simp; omega)))⟩

set_option maxHeartbeats 2000000 in
theorem validDeque_eq {A : Option Addr} {n : Nat} {l : List Int} {t b : Int} {w : World} {v : Bool} (c : Nat) (h : IsI w A n l) (hn : n ≤ 1000000000000) (hv : validD ⟨l, t, b⟩ = v) :
    Calls Try.prog 30 #[.agg #[.slice A n c, .int .i64 t, .int .i64 b]] w fun e w' => e = .returned (.bool v) ∧ Below w.heap.size w w' := by
  subst hv
  have hl := h.len
  have HP := Lib.hid h
  clear h
  by_cases h16 : n = 16
  · subst h16
    have HV := Lib.hid (validD_spec (t := t) (b := b) hl)
    obtain ⟨va, hva⟩ : ∃ va, (l.all fun x => inB x (-1) 99) = va := ⟨_, rfl⟩
    have HVA := Lib.hid hva
    rw [show (fun x => inB x (-1) 99) = (fun x => decide (-1 ≤ x ∧ x ≤ 99)) from rfl] at hva
    cases va with
    | false =>
      have HW : Hid (validD ⟨l, t, b⟩ = false) := Lib.hid (by rw [HV.out, hva]; rfl)
      clear hva hl HV
      go_enter Try.func30, Try.ntmps30
      go_wp2_with (first | (go_at_call 32; (with_reducible refine (allIn_eq c (HP.out.below (by (repeat' (first | (with_reducible exact Below.refl _ _) | (with_reducible assumption) | (with_reducible refine Below.alloc ?_ ?_ _) | (with_reducible refine below_drewN ?_ _) | (with_reducible refine Below.drew ?_) | (with_reducible refine Below.setCell ?_ ?_ _) | (with_reducible refine below_call (by assumption) ?_ ?_) | (with_reducible refine below_grown (by assumption) ?_ ?_ ?_) | omega | (simp; done) | (simp; omega))))) hn (Hid.out (by with_reducible assumption))).mono ?_); rintro e w1 ⟨rfl, hb⟩; have hz := hb.size; (try simp at hz); (try (have hk := bcl hb (w.heap.size) (by first | omega | (simp; done) | (simp; omega)); have hc := hk.1; have hf := hk.2.1; have hk := hk.2.2)); (try (have hk := bcl hb (w.heap.size + 1) (by first | omega | (simp; done) | (simp; omega)); have hc := hk.1; have hf := hk.2.1; have hk := hk.2.2))) | (go_at_call 14; (with_reducible refine (inRange_eq (Hid.out (by with_reducible assumption)) _).mono ?_); rintro e w1 ⟨rfl, rfl⟩))
      go_ret
      exact ⟨by rw [HW.out]; rfl, by (repeat' (first | (with_reducible exact Below.refl _ _) | (with_reducible assumption) | (with_reducible refine Below.alloc ?_ ?_ _) | (with_reducible refine below_drewN ?_ _) | (with_reducible refine Below.drew ?_) | (with_reducible refine Below.setCell ?_ ?_ _) | (with_reducible refine below_call (by assumption) ?_ ?_) | (with_reducible refine below_grown (by assumption) ?_ ?_ ?_) | omega | (simp; done) | (simp; omega)))⟩
    | true =>
      rcases Bool.eq_false_or_eq_true (inB t 0 500) with h1 | h1
      · obtain ⟨t0, t1⟩ := inB_true.1 h1
        have tw : IntKind.i64.wrap (t + 16) = t + 16 := IntWalk.i64_in _ (by omega)
        rcases Bool.eq_false_or_eq_true (inB b t (t + 16)) with h2 | h2
        · obtain ⟨b0, b1⟩ := inB_true.1 h2
          by_cases h5 : b ≤ 500
          · have HW : Hid (validD ⟨l, t, b⟩ = filledB l t b 16) := Lib.hid (by rw [HV.out, hva, decide_eq_true (by omega : 0 ≤ t ∧ t ≤ 500), decide_eq_true (by omega : t ≤ b ∧ b ≤ t + 16), decide_eq_true h5]; rfl)
            have e5 : decide (b ≤ 500) = true := decide_eq_true h5
            have H1 := Lib.hid h1
            have H2 := Lib.hid h2
            obtain ⟨T, rfl⟩ := Int.eq_ofNat_of_zero_le t0
            obtain ⟨B, rfl⟩ := Int.eq_ofNat_of_zero_le (show 0 ≤ b by omega)
            obtain ⟨f, hf⟩ : ∃ f, filledB l T B 16 = f := ⟨_, rfl⟩
            have HFl := Lib.hid hf
            rw [HW.out, hf]
            clear h1 h2 hl HV hva hf HW
            obtain ⟨hb5, hb16, htb⟩ : B ≤ 500 ∧ B ≤ T + 16 ∧ T ≤ B := by omega
            go_enter Try.func30, Try.ntmps30
            go_wp2_with (first | (go_at_call 32; (with_reducible refine (allIn_eq c (HP.out.below (by (repeat' (first | (with_reducible exact Below.refl _ _) | (with_reducible assumption) | (with_reducible refine Below.alloc ?_ ?_ _) | (with_reducible refine below_drewN ?_ _) | (with_reducible refine Below.drew ?_) | (with_reducible refine Below.setCell ?_ ?_ _) | (with_reducible refine below_call (by assumption) ?_ ?_) | (with_reducible refine below_grown (by assumption) ?_ ?_ ?_) | omega | (simp; done) | (simp; omega))))) hn (Hid.out (by with_reducible assumption))).mono ?_); rintro e w1 ⟨rfl, hb⟩; have hz := hb.size; (try simp at hz); (try (have hk := bcl hb (w.heap.size) (by first | omega | (simp; done) | (simp; omega)); have hc := hk.1; have hf := hk.2.1; have hk := hk.2.2))) | (go_at_call 14; (with_reducible refine (inRange_eq (Hid.out (by with_reducible assumption)) _).mono ?_); rintro e w1 ⟨rfl, rfl⟩) | (go_at_call 33; (with_reducible refine (filled_eq c (HP.out.below (by (repeat' (first | (with_reducible exact Below.refl _ _) | (with_reducible assumption) | (with_reducible refine Below.alloc ?_ ?_ _) | (with_reducible refine below_drewN ?_ _) | (with_reducible refine Below.drew ?_) | (with_reducible refine Below.setCell ?_ ?_ _) | (with_reducible refine below_call (by assumption) ?_ ?_) | (with_reducible refine below_grown (by assumption) ?_ ?_ ?_) | omega | (simp; done) | (simp; omega))))) htb hb16 (by omega) (Hid.out (by with_reducible assumption))).mono ?_); rintro e w1 ⟨rfl, hb⟩; have hz := hb.size; (try simp at hz); (try (have hk := bcl hb (w.heap.size) (by first | omega | (simp; done) | (simp; omega)); have hc := hk.1; have hf := hk.2.1; have hk := hk.2.2))))
            go_ret
            exact ⟨rfl, by (repeat' (first | (with_reducible exact Below.refl _ _) | (with_reducible assumption) | (with_reducible refine Below.alloc ?_ ?_ _) | (with_reducible refine below_drewN ?_ _) | (with_reducible refine Below.drew ?_) | (with_reducible refine Below.setCell ?_ ?_ _) | (with_reducible refine below_call (by assumption) ?_ ?_) | (with_reducible refine below_grown (by assumption) ?_ ?_ ?_) | omega | (simp; done) | (simp; omega)))⟩
          · have HW : Hid (validD ⟨l, t, b⟩ = false) := Lib.hid (by rw [HV.out, decide_eq_false h5]; simp)
            have e5 : decide (b ≤ 500) = false := decide_eq_false h5
            have H1 := Lib.hid h1
            have H2 := Lib.hid h2
            clear h1 h2 hl HV hva
            go_enter Try.func30, Try.ntmps30
            go_wp2_with (first | (go_at_call 32; (with_reducible refine (allIn_eq c (HP.out.below (by (repeat' (first | (with_reducible exact Below.refl _ _) | (with_reducible assumption) | (with_reducible refine Below.alloc ?_ ?_ _) | (with_reducible refine below_drewN ?_ _) | (with_reducible refine Below.drew ?_) | (with_reducible refine Below.setCell ?_ ?_ _) | (with_reducible refine below_call (by assumption) ?_ ?_) | (with_reducible refine below_grown (by assumption) ?_ ?_ ?_) | omega | (simp; done) | (simp; omega))))) hn (Hid.out (by with_reducible assumption))).mono ?_); rintro e w1 ⟨rfl, hb⟩; have hz := hb.size; (try simp at hz); (try (have hk := bcl hb (w.heap.size) (by first | omega | (simp; done) | (simp; omega)); have hc := hk.1; have hf := hk.2.1; have hk := hk.2.2))) | (go_at_call 14; (with_reducible refine (inRange_eq (Hid.out (by with_reducible assumption)) _).mono ?_); rintro e w1 ⟨rfl, rfl⟩))
            go_ret
            exact ⟨by rw [HW.out]; rfl, by (repeat' (first | (with_reducible exact Below.refl _ _) | (with_reducible assumption) | (with_reducible refine Below.alloc ?_ ?_ _) | (with_reducible refine below_drewN ?_ _) | (with_reducible refine Below.drew ?_) | (with_reducible refine Below.setCell ?_ ?_ _) | (with_reducible refine below_call (by assumption) ?_ ?_) | (with_reducible refine below_grown (by assumption) ?_ ?_ ?_) | omega | (simp; done) | (simp; omega)))⟩
        · have HW : Hid (validD ⟨l, t, b⟩ = false) := Lib.hid (by
            have : ¬ (t ≤ b ∧ b ≤ t + 16) := by rw [← inB_true, h2]; simp
            rw [HV.out, decide_eq_false this]; simp)
          have H1 := Lib.hid h1
          have H2 := Lib.hid h2
          clear h1 h2 hl HV hva
          go_enter Try.func30, Try.ntmps30
          go_wp2_with (first | (go_at_call 32; (with_reducible refine (allIn_eq c (HP.out.below (by (repeat' (first | (with_reducible exact Below.refl _ _) | (with_reducible assumption) | (with_reducible refine Below.alloc ?_ ?_ _) | (with_reducible refine below_drewN ?_ _) | (with_reducible refine Below.drew ?_) | (with_reducible refine Below.setCell ?_ ?_ _) | (with_reducible refine below_call (by assumption) ?_ ?_) | (with_reducible refine below_grown (by assumption) ?_ ?_ ?_) | omega | (simp; done) | (simp; omega))))) hn (Hid.out (by with_reducible assumption))).mono ?_); rintro e w1 ⟨rfl, hb⟩; have hz := hb.size; (try simp at hz); (try (have hk := bcl hb (w.heap.size) (by first | omega | (simp; done) | (simp; omega)); have hc := hk.1; have hf := hk.2.1; have hk := hk.2.2))) | (go_at_call 14; (with_reducible refine (inRange_eq (Hid.out (by with_reducible assumption)) _).mono ?_); rintro e w1 ⟨rfl, rfl⟩))
          go_ret
          exact ⟨by rw [HW.out]; rfl, by (repeat' (first | (with_reducible exact Below.refl _ _) | (with_reducible assumption) | (with_reducible refine Below.alloc ?_ ?_ _) | (with_reducible refine below_drewN ?_ _) | (with_reducible refine Below.drew ?_) | (with_reducible refine Below.setCell ?_ ?_ _) | (with_reducible refine below_call (by assumption) ?_ ?_) | (with_reducible refine below_grown (by assumption) ?_ ?_ ?_) | omega | (simp; done) | (simp; omega)))⟩
      · have HW : Hid (validD ⟨l, t, b⟩ = false) := Lib.hid (by
          have : ¬ (0 ≤ t ∧ t ≤ 500) := by rw [← inB_true, h1]; simp
          rw [HV.out, decide_eq_false this]; simp)
        have H1 := Lib.hid h1
        clear h1 hl HV hva
        go_enter Try.func30, Try.ntmps30
        go_wp2_with (first | (go_at_call 32; (with_reducible refine (allIn_eq c (HP.out.below (by (repeat' (first | (with_reducible exact Below.refl _ _) | (with_reducible assumption) | (with_reducible refine Below.alloc ?_ ?_ _) | (with_reducible refine below_drewN ?_ _) | (with_reducible refine Below.drew ?_) | (with_reducible refine Below.setCell ?_ ?_ _) | (with_reducible refine below_call (by assumption) ?_ ?_) | (with_reducible refine below_grown (by assumption) ?_ ?_ ?_) | omega | (simp; done) | (simp; omega))))) hn (Hid.out (by with_reducible assumption))).mono ?_); rintro e w1 ⟨rfl, hb⟩; have hz := hb.size; (try simp at hz); (try (have hk := bcl hb (w.heap.size) (by first | omega | (simp; done) | (simp; omega)); have hc := hk.1; have hf := hk.2.1; have hk := hk.2.2))) | (go_at_call 14; (with_reducible refine (inRange_eq (Hid.out (by with_reducible assumption)) _).mono ?_); rintro e w1 ⟨rfl, rfl⟩))
        go_ret
        exact ⟨by rw [HW.out]; rfl, by (repeat' (first | (with_reducible exact Below.refl _ _) | (with_reducible assumption) | (with_reducible refine Below.alloc ?_ ?_ _) | (with_reducible refine below_drewN ?_ _) | (with_reducible refine Below.drew ?_) | (with_reducible refine Below.setCell ?_ ?_ _) | (with_reducible refine below_call (by assumption) ?_ ?_) | (with_reducible refine below_grown (by assumption) ?_ ?_ ?_) | omega | (simp; done) | (simp; omega)))⟩
  · have HW : Hid (validD ⟨l, t, b⟩ = false) := Lib.hid (validD_len (by omega))
    have e1 : ¬ (n : Int) = 16 := by omega
    have e2 : decide ((n : Int) = 16) = false := decide_eq_false e1
    have e3 : ((n : Int) == 16) = false := by simpa using e1
    clear hl
    go_enter Try.func30, Try.ntmps30
    go_wp2
    go_ret
    exact ⟨by rw [HW.out]; rfl, by (repeat' (first | (with_reducible exact Below.refl _ _) | (with_reducible assumption) | (with_reducible refine Below.alloc ?_ ?_ _) | (with_reducible refine below_drewN ?_ _) | (with_reducible refine Below.drew ?_) | (with_reducible refine Below.setCell ?_ ?_ _) | (with_reducible refine below_call (by assumption) ?_ ?_) | (with_reducible refine below_grown (by assumption) ?_ ?_ ?_) | omega | (simp; done) | (simp; omega)))⟩

end Go.Proofs.Ytadpmigppjjmhaa
