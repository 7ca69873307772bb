/-
  Queues: which are valid, by the program and by the reference.
-/
import Derived.Test.YtclfocdghbmmlaaIntF
import Derived.Test.YtclfocdghbmmlaaPlD2
import Derived.Test.YtclfocdghbmmlaaRdr
namespace Go.Proofs.Ytclfocdghbmmlaa
open Go.RowKit Pl

set_option linter.unusedSimpArgs false
set_option linter.unusedVariables false

/-- The block of the slots that are used. -/
def usedC (t m : Int) : Array Value := ((usedL t m).map Value.bool).toArray
theorem usedC_zero (t : Int) : usedC t t = #[.bool false, .bool false, .bool false, .bool false, .bool false, .bool false, .bool false, .bool false, .bool false, .bool false, .bool false, .bool false, .bool false, .bool false, .bool false, .bool false] := by
  unfold usedC; rw [usedL_zero]; rfl
theorem usedC_at {t m : Int} {i : Nat} (h : i < 16) : (usedC t m)[i]? = some (.bool (usedB t m i)) := by
  unfold usedC; rw [List.getElem?_toArray, List.getElem?_map, usedL_at h]; rfl
theorem usedC_succ {t m : Int} {k : Nat} (h2 : t ≤ m) (h3 : m < t + 16) (hk : (k : Int) = m % 16) : (usedC t m).setIfInBounds k (.bool true) = usedC t (m + 1) := by
  unfold usedC
  rw [← usedL_succ h2 h3, show (m % 16).toNat = k by omega, List.setIfInBounds_toArray, List.map_set]

set_option maxHeartbeats 2000000 in
theorem ValidDeque_eq {A : Option Addr} {n : Nat} {l : List Int} {t b : Int} {w : World} {v : Bool} (c : Nat) (h : IsI w A n l) (hn : n ≤ 1000000000000) (hv : validD ⟨l, t, b⟩ = v) :
    Calls Try.prog 28 #[.agg #[.slice A n c, .int .i64 t, .int .i64 b]] w fun e w' => e = .returned (.bool v) ∧ Below w.heap.size w w' := by
  subst hv
  have hl := h.len
  have HP := Lib.hid h
  clear h
  by_cases h16 : n = 16
  · subst h16
    have HV := Lib.hid (validD_impl (l := l) (t := t) (b := b))
    rcases Bool.eq_false_or_eq_true (inB t 0 500) with h1 | h1
    · obtain ⟨t0, t1⟩ := inB_true.1 h1
      have hmin : min (500 : Int) (t + 16) ≤ 500 ∧ min (500 : Int) (t + 16) ≤ t + 16 := by omega
      have tw : IntKind.i64.wrap (t + 16) = t + 16 := IntWalk.i64_in _ (by omega)
      rcases Bool.eq_false_or_eq_true (inB b t (min 500 (t + 16))) with h2 | h2
      · obtain ⟨b0, b1⟩ := inB_true.1 h2
        have HW : Hid (validD ⟨l, t, b⟩ = slotsOk l t b 16) := Lib.hid (by rw [HV.out, decide_eq_true hl, decide_eq_true (by omega : 0 ≤ t ∧ t ≤ 500), decide_eq_true (by omega : t ≤ b ∧ b ≤ min 500 (t + 16))]; rfl)
        have H1 := Lib.hid h1
        have H2 := Lib.hid h2
        have U0 := Lib.hid (usedC_zero t)
        obtain ⟨T, rfl⟩ := Int.eq_ofNat_of_zero_le t0
        obtain ⟨B, rfl⟩ := Int.eq_ofNat_of_zero_le (show 0 ≤ b by omega)
        obtain ⟨hb5, hb16⟩ : B ≤ 500 ∧ B ≤ T + 16 := by omega
        have htb : T ≤ B := by omega
        clear h1 h2 hmin hl HV b0 b1 t0
        go_enter Try.func28, Try.ntmps28
        go_wp2_with (go_at_call 52; (with_reducible refine (in_eq (Hid.out (by with_reducible assumption)) _).mono ?_); rintro e w1 ⟨rfl, rfl⟩)
        go_loopw [4] (fun vm wr => ∃ m : Nat, T ≤ m ∧ m ≤ B ∧ vm = .int .i64 m ∧ wr.heap[w.heap.size + 1]? = some (.cells (usedC T m) 60 (0, 0)) ∧ wr.heap[w.heap.size]? = some (.cells #[.slice A 16 c, .int .i64 T, .int .i64 B] 24 (0, 0)) ∧ Below w.heap.size w wr) (fun vm _ => B - (intOf vm).toNat)
        case atStart => exact ⟨T, by omega, htb, rfl, by rw [U0.out]; exact blk_new1 w _ _, blk_alloc (blk_new w _) _, by (repeat' (first | (with_reducible exact Below.refl _ _) | (with_reducible assumption) | (with_reducible refine Below.alloc ?_ ?_ _) | (with_reducible refine below_drewN ?_ _) | (with_reducible refine Below.drew ?_) | (with_reducible refine Below.setCell ?_ ?_ _) | (with_reducible refine below_call (by assumption) ?_ ?_) | (with_reducible refine below_grown (by assumption) ?_ ?_ ?_) | omega | (simp; done) | (simp; omega)))⟩
        case round =>
          obtain ⟨m, hm0, hm1, rfl, hu, hd, hbel⟩ := hrel
          have hsz := hbel.size
          have hcu := blk_cell hu
          have hfu := blk_free hu
          have hlu := blk_lt hu
          have hcd := blk_cell hd
          have hld := blk_lt hd
          have HU := Lib.hid hu
          have HD := Lib.hid hd
          clear hu hd U0
          by_cases hlt : m < B
          · obtain ⟨i1, hi1, hi16⟩ : ∃ i1 : Nat, (m : Int).tmod 16 = (i1 : Int) ∧ i1 < 16 := ⟨m % 16, by rw [Int.tmod_eq_emod_of_nonneg (by omega)]; simp, Nat.mod_lt _ (by omega)⟩
            have hi2 : (i1 : Int) = (m : Int) % 16 := by rw [← hi1, Int.tmod_eq_emod_of_nonneg (by omega)]
            have hu1 := hcu i1
            rw [usedC_at hi16] at hu1
            have eb : decide ((m : Int) < B) = true := by simp; omega
            have hS := Lib.hid (usedC_succ (t := (T : Int)) (m := (m : Int)) (k := i1) (by omega) (by omega) hi2)
            clear hcu hi2
            go_wp2
            go_roundw
            case rel => exact ⟨m + 1, by omega, by omega, by go_num, by rw [show (((m + 1 : Nat) : Int)) = (m : Int) + 1 by omega, ← hS.out]; exact blk_set HU.out _ _, blk_far HD.out _ (by simp), by (repeat' (first | (with_reducible exact Below.refl _ _) | (with_reducible assumption) | (with_reducible refine Below.alloc ?_ ?_ _) | (with_reducible refine below_drewN ?_ _) | (with_reducible refine Below.drew ?_) | (with_reducible refine Below.setCell ?_ ?_ _) | (with_reducible refine below_call (by assumption) ?_ ?_) | (with_reducible refine below_grown (by assumption) ?_ ?_ ?_) | omega | (simp; done) | (simp; omega)))⟩
            case measure => simp [intOf]; omega
          · obtain rfl : m = B := by omega
            have eb : decide ((m : Int) < m) = false := by simp
            clear hcu
            go_wp2
            go_loopw [44] (fun vi wr => ∃ k : Nat, k ≤ 16 ∧ vi = .int .i64 k ∧ slotsOk l T m k = true ∧ wr.heap[w.heap.size + 1]? = some (.cells (usedC T m) 60 (0, 0)) ∧ Below w.heap.size w wr) (fun vi _ => 16 - (intOf vi).toNat)
            case atStart => exact ⟨0, by omega, rfl, rfl, HU.out, hbel⟩
            case round =>
              obtain ⟨k, hk, rfl, hso, hu, hbel⟩ := hrel
              have hsz := hbel.size
              have hcu := blk_cell hu
              have hfu := blk_free hu
              have hlu := blk_lt hu
              have HU := Lib.hid hu
              have HS := Lib.hid hso
              clear hu hso
              by_cases hlt : k < 16
              · have eb : decide ((k : Int) < 16) = true := by simp; omega
                have hki : (k : Int) < 16 := by omega
                obtain ⟨b, o, rfl, hbl, c0⟩ := (HP.out.below hbel).at_ hlt
                have hu1 := hcu k
                rw [usedC_at hlt] at hu1
                obtain ⟨u, hu⟩ : ∃ u, usedB T m k = u := ⟨_, rfl⟩
                rw [hu] at hu1
                obtain ⟨x, hx⟩ : ∃ x, nt l k = x := ⟨_, rfl⟩
                rw [hx] at c0
                have HX := Lib.hid hx
                have hso : slotOk T m k (l.getD k 0) = if u then decide (0 ≤ x ∧ x ≤ 99) else decide (x = -1) := by rw [slotOk, hu, ← hx]; rfl
                have HSO := Lib.hid hso
                clear hcu hx hu hso
                cases u with
                | true =>
                  rcases Bool.eq_false_or_eq_true (inB x 0 99) with h3 | h3
                  · have H3 := Lib.hid h3
                    have HK : Hid (slotsOk l T m (k + 1) = true) := Lib.hid (by rw [slotsOk, HS.out, HSO.out, if_pos rfl]; simpa [inB] using h3)
                    clear h3
                    go_wp2_with (go_at_call 52; (with_reducible refine (in_eq (Hid.out (by with_reducible assumption)) _).mono ?_); rintro e w1 ⟨rfl, rfl⟩)
                    go_roundw
                    case rel => exact ⟨k + 1, by omega, by go_num, HK.out, HU.out, by (repeat' (first | (with_reducible exact Below.refl _ _) | (with_reducible assumption) | (with_reducible refine Below.alloc ?_ ?_ _) | (with_reducible refine below_drewN ?_ _) | (with_reducible refine Below.drew ?_) | (with_reducible refine Below.setCell ?_ ?_ _) | (with_reducible refine below_call (by assumption) ?_ ?_) | (with_reducible refine below_grown (by assumption) ?_ ?_ ?_) | omega | (simp; done) | (simp; omega)))⟩
                    case measure => simp [intOf]; omega
                  · have H3 := Lib.hid h3
                    have HK : Hid (validD ⟨l, T, m⟩ = false) := Lib.hid (by rw [HW.out, slotsOk_not (k := k) (by rw [HSO.out, if_pos rfl]; simpa [inB] using h3) 16 (by omega)])
                    clear h3
                    go_wp2_with (go_at_call 52; (with_reducible refine (in_eq (Hid.out (by with_reducible assumption)) _).mono ?_); rintro e w1 ⟨rfl, rfl⟩)
                    go_ret
                    exact ⟨by rw [HK.out]; rfl, by (repeat' (first | (with_reducible exact Below.refl _ _) | (with_reducible assumption) | (with_reducible refine Below.alloc ?_ ?_ _) | (with_reducible refine below_drewN ?_ _) | (with_reducible refine Below.drew ?_) | (with_reducible refine Below.setCell ?_ ?_ _) | (with_reducible refine below_call (by assumption) ?_ ?_) | (with_reducible refine below_grown (by assumption) ?_ ?_ ?_) | omega | (simp; done) | (simp; omega)))⟩
                | false =>
                  by_cases h3 : x = -1
                  · have HK : Hid (slotsOk l T m (k + 1) = true) := Lib.hid (by rw [slotsOk, HS.out, HSO.out]; simpa using h3)
                    subst h3
                    go_wp2
                    go_roundw
                    case rel => exact ⟨k + 1, by omega, by go_num, HK.out, HU.out, by (repeat' (first | (with_reducible exact Below.refl _ _) | (with_reducible assumption) | (with_reducible refine Below.alloc ?_ ?_ _) | (with_reducible refine below_drewN ?_ _) | (with_reducible refine Below.drew ?_) | (with_reducible refine Below.setCell ?_ ?_ _) | (with_reducible refine below_call (by assumption) ?_ ?_) | (with_reducible refine below_grown (by assumption) ?_ ?_ ?_) | omega | (simp; done) | (simp; omega)))⟩
                    case measure => simp [intOf]; omega
                  · have HK : Hid (validD ⟨l, T, m⟩ = false) := Lib.hid (by rw [HW.out, slotsOk_not (k := k) (by rw [HSO.out]; simpa using h3) 16 (by omega)])
                    have e3 : (x == -1) = false := by simpa using h3
                    have e4 : (x != -1) = true := by simpa using h3
                    go_wp2
                    go_ret
                    exact ⟨by rw [HK.out]; rfl, by (repeat' (first | (with_reducible exact Below.refl _ _) | (with_reducible assumption) | (with_reducible refine Below.alloc ?_ ?_ _) | (with_reducible refine below_drewN ?_ _) | (with_reducible refine Below.drew ?_) | (with_reducible refine Below.setCell ?_ ?_ _) | (with_reducible refine below_call (by assumption) ?_ ?_) | (with_reducible refine below_grown (by assumption) ?_ ?_ ?_) | omega | (simp; done) | (simp; omega)))⟩
              · obtain rfl : k = 16 := by omega
                have HK : Hid (validD ⟨l, T, m⟩ = true) := Lib.hid (by rw [HW.out, HS.out])
                go_wp2
                go_ret
                exact ⟨by rw [HK.out]; rfl, by (repeat' (first | (with_reducible exact Below.refl _ _) | (with_reducible assumption) | (with_reducible refine Below.alloc ?_ ?_ _) | (with_reducible refine below_drewN ?_ _) | (with_reducible refine Below.drew ?_) | (with_reducible refine Below.setCell ?_ ?_ _) | (with_reducible refine below_call (by assumption) ?_ ?_) | (with_reducible refine below_grown (by assumption) ?_ ?_ ?_) | omega | (simp; done) | (simp; omega)))⟩
      · have HW : Hid (validD ⟨l, t, b⟩ = false) := Lib.hid (by
          have : ¬ (t ≤ b ∧ b ≤ min 500 (t + 16)) := by rw [← inB_true, h2]; simp
          rw [HV.out, decide_eq_false this]; simp)
        have H1 := Lib.hid h1
        have H2 := Lib.hid h2
        clear h1 h2 hmin hl HV
        go_enter Try.func28, Try.ntmps28
        go_wp2_with (go_at_call 52; (with_reducible refine (in_eq (Hid.out (by with_reducible assumption)) _).mono ?_); rintro e w1 ⟨rfl, rfl⟩)
        go_ret
        exact ⟨by rw [HW.out]; rfl, by (repeat' (first | (with_reducible exact Below.refl _ _) | (with_reducible assumption) | (with_reducible refine Below.alloc ?_ ?_ _) | (with_reducible refine below_drewN ?_ _) | (with_reducible refine Below.drew ?_) | (with_reducible refine Below.setCell ?_ ?_ _) | (with_reducible refine below_call (by assumption) ?_ ?_) | (with_reducible refine below_grown (by assumption) ?_ ?_ ?_) | omega | (simp; done) | (simp; omega)))⟩
    · have HW : Hid (validD ⟨l, t, b⟩ = false) := Lib.hid (by
        have : ¬ (0 ≤ t ∧ t ≤ 500) := by rw [← inB_true, h1]; simp
        rw [HV.out, decide_eq_false this]; simp)
      have H1 := Lib.hid h1
      clear h1 hl HV
      go_enter Try.func28, Try.ntmps28
      go_wp2_with (go_at_call 52; (with_reducible refine (in_eq (Hid.out (by with_reducible assumption)) _).mono ?_); rintro e w1 ⟨rfl, rfl⟩)
      go_ret
      exact ⟨by rw [HW.out]; rfl, by (repeat' (first | (with_reducible exact Below.refl _ _) | (with_reducible assumption) | (with_reducible refine Below.alloc ?_ ?_ _) | (with_reducible refine below_drewN ?_ _) | (with_reducible refine Below.drew ?_) | (with_reducible refine Below.setCell ?_ ?_ _) | (with_reducible refine below_call (by assumption) ?_ ?_) | (with_reducible refine below_grown (by assumption) ?_ ?_ ?_) | omega | (simp; done) | (simp; omega)))⟩
  · have HW : Hid (validD ⟨l, t, b⟩ = false) := Lib.hid (validD_len (by omega))
    have e1 : ¬ (n : Int) = 16 := by omega
    have e2 : decide ((n : Int) = 16) = false := decide_eq_false e1
    have e3 : ((n : Int) == 16) = false := by simpa using e1
    have e4 : ((n : Int) != 16) = true := by simpa using e1
    clear hl
    go_enter Try.func28, Try.ntmps28
    go_wp2
    go_ret
    exact ⟨by rw [HW.out]; rfl, by (repeat' (first | (with_reducible exact Below.refl _ _) | (with_reducible assumption) | (with_reducible refine Below.alloc ?_ ?_ _) | (with_reducible refine below_drewN ?_ _) | (with_reducible refine Below.drew ?_) | (with_reducible refine Below.setCell ?_ ?_ _) | (with_reducible refine below_call (by assumption) ?_ ?_) | (with_reducible refine below_grown (by assumption) ?_ ?_ ?_) | omega | (simp; done) | (simp; omega)))⟩

end Go.Proofs.Ytclfocdghbmmlaa
