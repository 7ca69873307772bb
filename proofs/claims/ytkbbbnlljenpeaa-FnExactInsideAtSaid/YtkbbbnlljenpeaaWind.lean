/-
  Windings, of the program and of the reference.
-/
import Derived.Test.YtkbbbnlljenpeaaSteps
import Derived.Test.YtkbbbnlljenpeaaPtsF
namespace Go.Proofs.Ytkbbbnlljenpeaa
open Go.RowKit Pl

set_option linter.unusedSimpArgs false
set_option linter.unusedVariables false

def stepF (u h : Int) (a b : Pt) : Int := stepN a b u h
theorem wind_edges (L : List (List Pt)) (u h : Int) : windN L u h = sumE (stepF u h) (edgesL L) := by rw [windN, sumE_edges]; rfl
theorem stepF_small (L : List (List Pt)) (u h : Int) : ∀ e ∈ edgesL L, -1 ≤ stepF u h e.1 e.2 ∧ stepF u h e.1 e.2 ≤ 1 := fun e _ => step_small _ _ _ _
theorem wind_small {L : List (List Pt)} (hok : ringsOk L = true) (u h : Int) : -200 ≤ windN L u h ∧ windN L u h ≤ 200 := by
  have := sum_small (M := 1) (f := stepF u h) (by decide) hok (preE_rings L L.length) (stepF_small L u h)
  rw [List.take_length, ← wind_edges] at this
  omega

set_option maxHeartbeats 2000000 in
theorem winding_eq {A : Option Addr} {n : Nat} {L : List (List Pt)} {w : World} {u h v : Int} (c : Nat) (hp0 : IsRs w A n L) (hsz : sizeR L ≤ 1048576) (hok : ringsOk L = true) (hpt : -1000 ≤ u ∧ u ≤ 1000 ∧ -1000 ≤ h ∧ h ≤ 1000) (hv : windN L u h = v) :
    Calls Try.prog 40 #[.slice A n c, .int .i64 u, .int .i64 h] w fun e w' => e = .returned (.int .i64 v) ∧ Below w.heap.size w w' := by
  have HP := Lib.hid hp0
  have HOK := Lib.hid hok
  have HVE : Hid (sumE (stepF u h) (edgesL L) = v) := Lib.hid (by rw [← wind_edges]; exact hv)
  clear hp0 hv hok
  go_enter Try.func40, Try.ntmps40
  go_wp2_with fail
  refine (edges_any c HP.out hsz).mono ?_
  rintro e w2 ⟨A2, c2, rfl, hE, hb2⟩
  have hz2 := hb2.size
  obtain ⟨E, hEn⟩ : ∃ E, (edgesL L).length = E := ⟨_, rfl⟩
  rw [hEn] at hE ⊢
  have HE := Lib.hid hE
  have HN := Lib.hid hEn
  have hE2 : E ≤ 200 := by rw [← hEn, edgesL_len]; exact (ringsOk_parts HOK.out).2.2
  have B2 : Hid (Below w.heap.size w w2) := Lib.hid (by (repeat' (first | (with_reducible exact Below.refl _ _) | (with_reducible assumption) | (with_reducible refine Below.alloc ?_ ?_ _) | (with_reducible refine below_drewN ?_ _) | (with_reducible refine Below.drew ?_) | (with_reducible refine Below.setCell ?_ ?_ _) | (with_reducible refine below_call (by assumption) ?_ ?_) | (with_reducible refine below_grown (by assumption) ?_ ?_ ?_) | omega | (simp; done) | (simp; omega))))
  clear hE hEn
  go_wp2
  go_loopw [7, 14] (fun vs vi wr => ∃ k : Nat, k ≤ E ∧ vi = .int .i64 k ∧ vs = .int .i64 (sumE (stepF u h) ((edgesL L).take k)) ∧ Below w2.heap.size w2 wr) (fun _ vi _ => E - (intOf vi).toNat)
  case atStart => exact ⟨0, by omega, rfl, rfl, Below.refl _ _⟩
  case round =>
    obtain ⟨k, hk, rfl, rfl, hbel⟩ := hrel
    obtain ⟨wo, rfl⟩ : ∃ wo : World, wo = wr := ⟨_, rfl⟩
    have hso := hbel.size
    have hss := sum_small (M := 1) (by decide) HOK.out (preE_take L k) (stepF_small L u h)
    obtain ⟨z, hz⟩ : ∃ z, sumE (stepF u h) ((edgesL L).take k) = z := ⟨_, rfl⟩
    rw [hz] at hss ⊢
    have HZ := Lib.hid hz
    clear hz
    by_cases hlt : k < E
    · have eb : decide ((k : Int) < E) = true := by simp; omega
      have hki : (k : Int) < E := by omega
      obtain ⟨b, o, x, y, x', y', rfl, hbl, hat, c0, c1, c2', c3⟩ := (HE.out.below hbel).at_ hlt
      obtain ⟨ha0, hb0⟩ := edges_valid (ringsOk_parts HOK.out).1 _ (List.mem_of_getElem? hat)
      simp only at ha0 hb0
      obtain ⟨cr, hcr⟩ : ∃ c, crossY (x, y) (x', y') h = c := ⟨_, rfl⟩
      have hcr1 : -1 ≤ cr ∧ cr ≤ 1 := by rw [← hcr]; exact cross_small _ _ _
      obtain ⟨lf, hlf⟩ : ∃ c, leftB (x, y) (x', y') u h = c := ⟨_, rfl⟩
      have HS : Hid (sumE (stepF u h) ((edgesL L).take (k + 1)) = z + (if cr = 0 then 0 else if lf then cr else 0)) := Lib.hid (by
        have hkl : k < (edgesL L).length := by rw [HN.out]; exact hlt
        have e : (edgesL L)[k] = ((x, y), (x', y')) := by rw [List.getElem?_eq_getElem hkl] at hat; exact Option.some.inj hat
        rw [sumE_take_succ _ hkl, e, HZ.out, stepF, step_cross, hcr, hlf])
      have HC := Lib.hid hcr
      have HF := Lib.hid hlf
      clear hat hcr hlf
      go_wp2_with fail
      refine (step_eq HC.out _).mono ?_
      rintro e w3 ⟨rfl, hb3⟩
      have hz3 := hb3.size
      (try simp at hz3)
      have hk3 := blk_below (blk_new wo (.cells #[.int .i64 x, .int .i64 y, .int .i64 x', .int .i64 y'] 54)) hb3
      have hck3 := blk_cell hk3
      have hlk3 := blk_lt hk3
      have B3 : Hid (Below w2.heap.size w2 w3) := Lib.hid (by (repeat' (first | (with_reducible exact Below.refl _ _) | (with_reducible assumption) | (with_reducible refine Below.alloc ?_ ?_ _) | (with_reducible refine below_drewN ?_ _) | (with_reducible refine Below.drew ?_) | (with_reducible refine Below.setCell ?_ ?_ _) | (with_reducible refine below_call (by assumption) ?_ ?_) | (with_reducible refine below_grown (by assumption) ?_ ?_ ?_) | omega | (simp; done) | (simp; omega))))
      by_cases h0 : cr = 0
      · subst h0
        simp only [if_true, Int.add_zero] at HS
        go_wp2
        go_roundw
        case rel => exact ⟨k + 1, by omega, by go_num, by rw [HS.out], B3.out⟩
        case measure => simp [intOf]; omega
      · have e1 : decide (cr = 0) = false := decide_eq_false h0
        have e2 : (cr == 0) = false := by simp [h0]
        rw [if_neg h0] at HS
        go_wp2_with fail
        refine (left_eq ha0 hb0 hpt HF.out _).mono ?_
        rintro e w4 ⟨rfl, hb4⟩
        have hz4 := hb4.size
        have B4 : Hid (Below w2.heap.size w2 w4) := Lib.hid (B3.out.trans (hb4.mono (by have := B3.out.size; omega)))
        cases lf with
        | true =>
          simp only [if_true] at HS
          go_wp2
          go_roundw
          case rel => exact ⟨k + 1, by omega, by go_num, by rw [HS.out], B4.out⟩
          case measure => simp [intOf]; omega
        | false =>
          simp only [Bool.false_eq_true, if_false, Int.add_zero] at HS
          go_wp2
          go_roundw
          case rel => exact ⟨k + 1, by omega, by go_num, by rw [HS.out], B4.out⟩
          case measure => simp [intOf]; omega
    · obtain rfl : k = E := by omega
      have eb : decide ((k : Int) < k) = false := by simp
      have hv1 : z = v := by rw [← HZ.out, ← HN.out, List.take_length]; exact HVE.out
      subst hv1
      go_wp2
      go_ret
      exact ⟨rfl, B2.out.trans (hbel.mono (by have := B2.out.size; omega))⟩

set_option maxHeartbeats 4000000 in
theorem swinding_eq {A : Option Addr} {n : Nat} {L : List (List Pt)} {w : World} {u h v : Int} (c : Nat) (hp0 : IsRs w A n L) (hok : ringsOk L = true) (hpt : -1000 ≤ u ∧ u ≤ 1000 ∧ -1000 ≤ h ∧ h ≤ 1000) (hv : windN L u h = v) :
    Calls Try.prog 38 #[.slice A n c, .int .i64 u, .int .i64 h] w fun e w' => e = .returned (.int .i64 v) ∧ Below w.heap.size w w' := by
  have HP := Lib.hid hp0
  have HL := Lib.hid hp0.len
  have HOK := Lib.hid hok
  have HVE : Hid (sumE (stepF u h) (edgesL L) = v) := Lib.hid (by rw [← wind_edges]; exact hv)
  clear hp0 hv hok
  go_enter Try.func38, Try.ntmps38
  · have hn8 : n ≤ 8 := by rw [← HL.out]; exact (ringsOk_parts HOK.out).2.1
    go_wp2
    go_loopw [7, 8] (fun vs vi wr => ∃ k : Nat, k ≤ n ∧ vi = .int .i64 k ∧ vs = .int .i64 (sumE (stepF u h) (edgesL (L.take k))) ∧ Below w.heap.size w wr) (fun _ vi _ => n - (intOf vi).toNat)
    case atStart => exact ⟨0, by omega, rfl, rfl, by (repeat' (first | (with_reducible exact Below.refl _ _) | (with_reducible assumption) | (with_reducible refine Below.alloc ?_ ?_ _) | (with_reducible refine below_drewN ?_ _) | (with_reducible refine Below.drew ?_) | (with_reducible refine Below.setCell ?_ ?_ _) | (with_reducible refine below_call (by assumption) ?_ ?_) | (with_reducible refine below_grown (by assumption) ?_ ?_ ?_) | omega | (simp; done) | (simp; omega)))⟩
    case round =>
      obtain ⟨k, hk, rfl, rfl, hbel⟩ := hrel
      obtain ⟨wo, rfl⟩ : ∃ wo : World, wo = wr := ⟨_, rfl⟩
      have hso := hbel.size
      obtain ⟨z0, hz0⟩ : ∃ z, sumE (stepF u h) (edgesL (L.take k)) = z := ⟨_, rfl⟩
      rw [hz0]
      have HZ0 := Lib.hid hz0
      clear hz0
      by_cases hlt : k < n
      · have eb : decide ((k : Int) < n) = true := by simp; omega
        have hki : (k : Int) < n := by omega
        obtain ⟨r, b, o, B, cr, hr, rfl, hbl, x0, q1, q2, hp⟩ := HP.out.at_ hlt
        have hst := edgesL_take hr
        have hpre := preE_in hr
        obtain ⟨hr0, hrv⟩ := ringOk_parts ((ringsOk_parts HOK.out).1 r (List.mem_of_getElem? hr))
        have hr40 := validL_len hrv
        obtain ⟨m, hm⟩ : ∃ m, r.length = m := ⟨_, rfl⟩
        rw [hm] at x0 hp hr0 hr40
        have HM := Lib.hid hm
        have HQ := Lib.hid hp
        have HT := Lib.hid hst
        have HPRE := Lib.hid hpre
        have HRV := Lib.hid hrv
        have HX0 := Lib.hid x0
        clear hr hp hm hst hpre hrv x0 q1 q2
        go_wp2
        go_loopw [7, 9] (fun vs vj wr => ∃ j : Nat, j ≤ m ∧ vj = .int .i64 j ∧ vs = .int .i64 (sumE (stepF u h) (edgesL (L.take k) ++ (ringEdges r).take j)) ∧ Below w.heap.size w wr) (fun _ vj _ => m - (intOf vj).toNat)
        case atStart => exact ⟨0, by omega, rfl, by rw [List.take_zero, List.append_nil, HZ0.out], hbel⟩
        case round =>
          obtain ⟨j, hj, rfl, rfl, hbel2⟩ := hrel
          obtain ⟨wi, rfl⟩ : ∃ wi : World, wi = wr := ⟨_, rfl⟩
          have hsi := hbel2.size
          have hss := sum_small (M := 1) (by decide) HOK.out (HPRE.out j) (stepF_small L u h)
          obtain ⟨z, hz⟩ : ∃ z, sumE (stepF u h) (edgesL (L.take k) ++ (ringEdges r).take j) = z := ⟨_, rfl⟩
          rw [hz] at hss ⊢
          have HZ := Lib.hid hz
          clear hz
          have x1 := (hbel2.cell (p := ⟨b, o + k, none⟩) hbl).trans HX0.out
          have hbli : b < wi.heap.size := by omega
          by_cases hlt2 : j < m
          · have eb2 : decide ((j : Int) < m) = true := by simp; omega
            have hji : (j : Int) < m := by omega
            obtain ⟨nx, hnx⟩ : ∃ nx, (j + 1) % m = nx := ⟨_, rfl⟩
            have hnx1 : nx < m := by rw [← hnx]; exact Nat.mod_lt _ (by omega)
            obtain ⟨B', o', rfl, hBl, c0, c1⟩ := (HQ.out.below hbel2).at_ hlt2
            obtain ⟨_, _, e0, _, d0, d1⟩ := (HQ.out.below hbel2).at_ hnx1
            cases e0
            have hRT := ringEdges_take (r := r) (j := j) (by rw [HM.out]; exact hlt2)
            rw [nxt, HM.out, hnx] at hRT
            have hv0 := validL_at HRV.out (k := j) (by rw [HM.out]; exact hlt2)
            have hv1 := validL_at HRV.out (k := nx) (by rw [HM.out]; exact hnx1)
            obtain ⟨x, hx⟩ : ∃ x, px r j = x := ⟨_, rfl⟩
            obtain ⟨y, hy⟩ : ∃ y, py r j = y := ⟨_, rfl⟩
            obtain ⟨x', hx'⟩ : ∃ x, px r nx = x := ⟨_, rfl⟩
            obtain ⟨y', hy'⟩ : ∃ y, py r nx = y := ⟨_, rfl⟩
            rw [hx] at c0
            rw [hy] at c1
            rw [hx'] at d0
            rw [hy'] at d1
            rw [hx, hy] at hv0
            rw [hx', hy'] at hv1
            obtain ⟨a1, a2, a3, a4⟩ := hv0
            obtain ⟨b1, b2, b3, b4⟩ := hv1
            have hPA : ptA r j = (x, y) := by rw [ptA, hx, hy]
            have hPB : ptA r nx = (x', y') := by rw [ptA, hx', hy']
            obtain ⟨st, hst⟩ : ∃ s, stepN (x, y) (x', y') u h = s := ⟨_, rfl⟩
            have hst1 : -1 ≤ st ∧ st ≤ 1 := by rw [← hst]; exact step_small _ _ _ _
            have HST := Lib.hid hst
            have ew : IntKind.i64.wrap (z + st) = z + st := IntWalk.i64_in (z + st) (by omega)
            have HS : Hid (sumE (stepF u h) (edgesL (L.take k) ++ (ringEdges r).take (j + 1)) = z + st) := Lib.hid (by
              rw [hRT, hPA, hPB, ← List.append_assoc, sumE_one, HZ.out, stepF, hst])
            have ha0 : -1000 ≤ x ∧ x ≤ 1000 ∧ -1000 ≤ y ∧ y ≤ 1000 := ⟨a1, a2, a3, a4⟩
            have hb0 : -1000 ≤ x' ∧ x' ≤ 1000 ∧ -1000 ≤ y' ∧ y' ≤ 1000 := ⟨b1, b2, b3, b4⟩
            clear hst
            have e1 : IntKind.i64.wrap ((j : Int) + 1) = (j : Int) + 1 := IntWalk.i64_in _ (by omega)
            have e2 : Int.tmod ((j : Int) + 1) (m : Int) = (nx : Int) := by rw [← hnx]; rfl
            have hm0 : ¬ m = 0 := by omega
            have hnxi : (nx : Int) < m := by omega
            clear hRT hx hy hx' hy' hnx hPA hPB
            go_wp2_with fail
            apply wp_region_pure (by kernel_rfl) ([] :: [] :: [] :: [1, 2] :: [3] :: [] :: [4, 5] :: [6] :: [] :: [] :: [8, 9] :: [10] :: [] :: [12] :: [] :: [] :: [14, 15] :: [16] :: [17] :: [13, 18] :: [11, 19] :: [20] :: [] :: [] :: [7, 21, 22, 23] :: [0, 24] :: []) (RS.det [] _ :: RS.det [] _ :: RS.det [] _ :: RS.det [1, 2] _ :: RS.det [3] _ :: RS.det [] _ :: RS.det [4, 5] _ :: RS.det [6] _ :: RS.det [] _ :: RS.det [] _ :: RS.det [8, 9] _ :: RS.det [10] _ :: RS.det [] _ :: RS.det [12] _ :: RS.det [] _ :: RS.det [] _ :: RS.det [14, 15] _ :: RS.det [16] _ :: RS.det [17] _ :: RS.det [13, 18] _ :: RS.det [11, 19] _ :: RS.det [20] _ :: RS.det [] _ :: RS.det [] _ :: RS.det [7, 21, 22, 23] _ :: RS.det [0, 24] _ :: []) [] rfl (by kernel_rfl) (fun h => absurd rfl h) (by kernel_rfl) (by kernel_rfl) (st_det (st_det (st_det (st_det (st_det (st_det (st_det (st_det (st_det (st_det (st_det (st_det (st_det (st_det (st_det (st_det (st_det (st_det (st_det (st_det (st_det (st_det (st_det (st_det (st_det (st_det st_nil)))))))))))))))))))))))))) _ (fun v => by simp; rfl)
            case hop =>
              simp only [Obls]
              refine ⟨?_, ?_, ?_, ?_, ?_, ?_, ?_, ?_, ?_, ?_, ?_, ?_, ?_, ?_, ?_, ?_, ?_, ?_, ?_, ?_, ?_, ?_, ?_, ?_, ?_, ?_, trivial⟩
              · (intro v w1 K hb hF hK; (try simp at hF); simp at hK; (try simp only [hF] at hK); have hz := hb.size; (try simp at hz))
                go_simp
                (try simp only [])
                exact hK _ _ rfl (by (repeat' (first | (with_reducible exact Below.refl _ _) | (with_reducible assumption) | (with_reducible refine Below.alloc ?_ ?_ _) | (with_reducible refine below_drewN ?_ _) | (with_reducible refine Below.drew ?_) | (with_reducible refine Below.setCell ?_ ?_ _) | (with_reducible refine below_call (by assumption) ?_ ?_) | go_size)))
              · (intro v w1 K hb hF hK; (try simp at hF); simp at hK; (try simp only [hF] at hK); have hz := hb.size; (try simp at hz))
                go_simp
                (try simp only [])
                exact hK _ _ rfl (by (repeat' (first | (with_reducible exact Below.refl _ _) | (with_reducible assumption) | (with_reducible refine Below.alloc ?_ ?_ _) | (with_reducible refine below_drewN ?_ _) | (with_reducible refine Below.drew ?_) | (with_reducible refine Below.setCell ?_ ?_ _) | (with_reducible refine below_call (by assumption) ?_ ?_) | go_size)))
              · (intro v w1 K hb hF hK; (try simp at hF); simp at hK; (try simp only [hF] at hK); have hz := hb.size; (try simp at hz))
                go_simp
                (try simp only [])
                exact hK _ _ rfl (by (repeat' (first | (with_reducible exact Below.refl _ _) | (with_reducible assumption) | (with_reducible refine Below.alloc ?_ ?_ _) | (with_reducible refine below_drewN ?_ _) | (with_reducible refine Below.drew ?_) | (with_reducible refine Below.setCell ?_ ?_ _) | (with_reducible refine below_call (by assumption) ?_ ?_) | go_size)))
              · (intro v w1 K hb hF hK; (try simp at hF); simp at hK; (try simp only [hF] at hK); have hz := hb.size; (try simp at hz))
                go_simp
                (try simp only [])
                exact hK _ _ rfl (by (repeat' (first | (with_reducible exact Below.refl _ _) | (with_reducible assumption) | (with_reducible refine Below.alloc ?_ ?_ _) | (with_reducible refine below_drewN ?_ _) | (with_reducible refine Below.drew ?_) | (with_reducible refine Below.setCell ?_ ?_ _) | (with_reducible refine below_call (by assumption) ?_ ?_) | go_size)))
              · (intro v w1 K hb hF hK; (try simp at hF); simp at hK; (try simp only [hF] at hK); have hz := hb.size; (try simp at hz); (try (have hk := bcl hb (b) (by first | omega | (simp; done) | (simp; omega)); have hc := hk.1; have hf := hk.2.1; have hk := hk.2.2)); (try (have hk := bcl hb (B') (by first | omega | (simp; done) | (simp; omega)); have hc := hk.1; have hf := hk.2.1; have hk := hk.2.2)))
                go_simp
                (try simp only [])
                exact hK _ _ rfl (by (repeat' (first | (with_reducible exact Below.refl _ _) | (with_reducible assumption) | (with_reducible refine Below.alloc ?_ ?_ _) | (with_reducible refine below_drewN ?_ _) | (with_reducible refine Below.drew ?_) | (with_reducible refine Below.setCell ?_ ?_ _) | (with_reducible refine below_call (by assumption) ?_ ?_) | go_size)))
              · (intro v w1 K hb hF hK; (try simp at hF); simp at hK; (try simp only [hF] at hK); have hz := hb.size; (try simp at hz))
                go_simp
                (try simp only [])
                exact hK _ _ rfl (by (repeat' (first | (with_reducible exact Below.refl _ _) | (with_reducible assumption) | (with_reducible refine Below.alloc ?_ ?_ _) | (with_reducible refine below_drewN ?_ _) | (with_reducible refine Below.drew ?_) | (with_reducible refine Below.setCell ?_ ?_ _) | (with_reducible refine below_call (by assumption) ?_ ?_) | go_size)))
              · (intro v w1 K hb hF hK; (try simp at hF); simp at hK; (try simp only [hF] at hK); have hz := hb.size; (try simp at hz))
                go_simp
                (try simp only [])
                exact hK _ _ rfl (by (repeat' (first | (with_reducible exact Below.refl _ _) | (with_reducible assumption) | (with_reducible refine Below.alloc ?_ ?_ _) | (with_reducible refine below_drewN ?_ _) | (with_reducible refine Below.drew ?_) | (with_reducible refine Below.setCell ?_ ?_ _) | (with_reducible refine below_call (by assumption) ?_ ?_) | go_size)))
              · (intro v w1 K hb hF hK; (try simp at hF); simp at hK; (try simp only [hF] at hK); have hz := hb.size; (try simp at hz); (try (have hk := bcl hb (b) (by first | omega | (simp; done) | (simp; omega)); have hc := hk.1; have hf := hk.2.1; have hk := hk.2.2)); (try (have hk := bcl hb (B') (by first | omega | (simp; done) | (simp; omega)); have hc := hk.1; have hf := hk.2.1; have hk := hk.2.2)))
                go_simp
                (try simp only [])
                exact hK _ _ rfl (by (repeat' (first | (with_reducible exact Below.refl _ _) | (with_reducible assumption) | (with_reducible refine Below.alloc ?_ ?_ _) | (with_reducible refine below_drewN ?_ _) | (with_reducible refine Below.drew ?_) | (with_reducible refine Below.setCell ?_ ?_ _) | (with_reducible refine below_call (by assumption) ?_ ?_) | go_size)))
              · (intro v w1 K hb hF hK; (try simp at hF); simp at hK; (try simp only [hF] at hK); have hz := hb.size; (try simp at hz))
                go_simp
                (try simp only [])
                exact hK _ _ rfl (by (repeat' (first | (with_reducible exact Below.refl _ _) | (with_reducible assumption) | (with_reducible refine Below.alloc ?_ ?_ _) | (with_reducible refine below_drewN ?_ _) | (with_reducible refine Below.drew ?_) | (with_reducible refine Below.setCell ?_ ?_ _) | (with_reducible refine below_call (by assumption) ?_ ?_) | go_size)))
              · (intro v w1 K hb hF hK; (try simp at hF); simp at hK; (try simp only [hF] at hK); have hz := hb.size; (try simp at hz))
                go_simp
                (try simp only [])
                exact hK _ _ rfl (by (repeat' (first | (with_reducible exact Below.refl _ _) | (with_reducible assumption) | (with_reducible refine Below.alloc ?_ ?_ _) | (with_reducible refine below_drewN ?_ _) | (with_reducible refine Below.drew ?_) | (with_reducible refine Below.setCell ?_ ?_ _) | (with_reducible refine below_call (by assumption) ?_ ?_) | go_size)))
              · (intro v w1 K hb hF hK; (try simp at hF); simp at hK; (try simp only [hF] at hK); have hz := hb.size; (try simp at hz))
                go_simp
                (try simp only [])
                exact hK _ _ rfl (by (repeat' (first | (with_reducible exact Below.refl _ _) | (with_reducible assumption) | (with_reducible refine Below.alloc ?_ ?_ _) | (with_reducible refine below_drewN ?_ _) | (with_reducible refine Below.drew ?_) | (with_reducible refine Below.setCell ?_ ?_ _) | (with_reducible refine below_call (by assumption) ?_ ?_) | go_size)))
              · (intro v w1 K hb hF hK; (try simp at hF); simp at hK; (try simp only [hF] at hK); have hz := hb.size; (try simp at hz); (try (have hk := bcl hb (b) (by first | omega | (simp; done) | (simp; omega)); have hc := hk.1; have hf := hk.2.1; have hk := hk.2.2)); (try (have hk := bcl hb (B') (by first | omega | (simp; done) | (simp; omega)); have hc := hk.1; have hf := hk.2.1; have hk := hk.2.2)))
                go_simp
                (try simp only [])
                exact hK _ _ rfl (by (repeat' (first | (with_reducible exact Below.refl _ _) | (with_reducible assumption) | (with_reducible refine Below.alloc ?_ ?_ _) | (with_reducible refine below_drewN ?_ _) | (with_reducible refine Below.drew ?_) | (with_reducible refine Below.setCell ?_ ?_ _) | (with_reducible refine below_call (by assumption) ?_ ?_) | go_size)))
              · (intro v w1 K hb hF hK; (try simp at hF); simp at hK; (try simp only [hF] at hK); have hz := hb.size; (try simp at hz))
                go_simp
                (try simp only [])
                exact hK _ _ rfl (by (repeat' (first | (with_reducible exact Below.refl _ _) | (with_reducible assumption) | (with_reducible refine Below.alloc ?_ ?_ _) | (with_reducible refine below_drewN ?_ _) | (with_reducible refine Below.drew ?_) | (with_reducible refine Below.setCell ?_ ?_ _) | (with_reducible refine below_call (by assumption) ?_ ?_) | go_size)))
              · (intro v w1 K hb hF hK; (try simp at hF); simp at hK; (try simp only [hF] at hK); have hz := hb.size; (try simp at hz))
                go_simp
                (try simp only [])
                exact hK _ _ rfl (by (repeat' (first | (with_reducible exact Below.refl _ _) | (with_reducible assumption) | (with_reducible refine Below.alloc ?_ ?_ _) | (with_reducible refine below_drewN ?_ _) | (with_reducible refine Below.drew ?_) | (with_reducible refine Below.setCell ?_ ?_ _) | (with_reducible refine below_call (by assumption) ?_ ?_) | go_size)))
              · (intro v w1 K hb hF hK; (try simp at hF); simp at hK; (try simp only [hF] at hK); have hz := hb.size; (try simp at hz))
                go_simp
                (try simp only [])
                exact hK _ _ rfl (by (repeat' (first | (with_reducible exact Below.refl _ _) | (with_reducible assumption) | (with_reducible refine Below.alloc ?_ ?_ _) | (with_reducible refine below_drewN ?_ _) | (with_reducible refine Below.drew ?_) | (with_reducible refine Below.setCell ?_ ?_ _) | (with_reducible refine below_call (by assumption) ?_ ?_) | go_size)))
              · (intro v w1 K hb hF hK; (try simp at hF); simp at hK; (try simp only [hF] at hK); have hz := hb.size; (try simp at hz))
                go_simp
                (try simp only [])
                exact hK _ _ rfl (by (repeat' (first | (with_reducible exact Below.refl _ _) | (with_reducible assumption) | (with_reducible refine Below.alloc ?_ ?_ _) | (with_reducible refine below_drewN ?_ _) | (with_reducible refine Below.drew ?_) | (with_reducible refine Below.setCell ?_ ?_ _) | (with_reducible refine below_call (by assumption) ?_ ?_) | go_size)))
              · (intro v w1 K hb hF hK; (try simp at hF); simp at hK; (try simp only [hF] at hK); have hz := hb.size; (try simp at hz))
                go_simp
                (try simp only [])
                exact hK _ _ rfl (by (repeat' (first | (with_reducible exact Below.refl _ _) | (with_reducible assumption) | (with_reducible refine Below.alloc ?_ ?_ _) | (with_reducible refine below_drewN ?_ _) | (with_reducible refine Below.drew ?_) | (with_reducible refine Below.setCell ?_ ?_ _) | (with_reducible refine below_call (by assumption) ?_ ?_) | go_size)))
              · (intro v w1 K hb hF hK; (try simp at hF); simp at hK; (try simp only [hF] at hK); have hz := hb.size; (try simp at hz); (try (have hk := bcl hb (b) (by first | omega | (simp; done) | (simp; omega)); have hc := hk.1; have hf := hk.2.1; have hk := hk.2.2)); (try (have hk := bcl hb (B') (by first | omega | (simp; done) | (simp; omega)); have hc := hk.1; have hf := hk.2.1; have hk := hk.2.2)))
                go_simp
                (try simp only [])
                exact hK _ _ rfl (by (repeat' (first | (with_reducible exact Below.refl _ _) | (with_reducible assumption) | (with_reducible refine Below.alloc ?_ ?_ _) | (with_reducible refine below_drewN ?_ _) | (with_reducible refine Below.drew ?_) | (with_reducible refine Below.setCell ?_ ?_ _) | (with_reducible refine below_call (by assumption) ?_ ?_) | go_size)))
              · (intro v w1 K hb hF hK; (try simp at hF); simp at hK; (try simp only [hF] at hK); have hz := hb.size; (try simp at hz))
                go_simp
                (try simp only [])
                exact hK _ _ rfl (by (repeat' (first | (with_reducible exact Below.refl _ _) | (with_reducible assumption) | (with_reducible refine Below.alloc ?_ ?_ _) | (with_reducible refine below_drewN ?_ _) | (with_reducible refine Below.drew ?_) | (with_reducible refine Below.setCell ?_ ?_ _) | (with_reducible refine below_call (by assumption) ?_ ?_) | go_size)))
              · (intro v w1 K hb hF hK; (try simp at hF); simp at hK; (try simp only [hF] at hK); have hz := hb.size; (try simp at hz))
                go_simp
                (try simp only [])
                exact hK _ _ rfl (by (repeat' (first | (with_reducible exact Below.refl _ _) | (with_reducible assumption) | (with_reducible refine Below.alloc ?_ ?_ _) | (with_reducible refine below_drewN ?_ _) | (with_reducible refine Below.drew ?_) | (with_reducible refine Below.setCell ?_ ?_ _) | (with_reducible refine below_call (by assumption) ?_ ?_) | go_size)))
              · (intro v w1 K hb hF hK; (try simp at hF); simp at hK; (try simp only [hF] at hK); have hz := hb.size; (try simp at hz))
                go_simp
                (try simp only [])
                exact hK _ _ rfl (by (repeat' (first | (with_reducible exact Below.refl _ _) | (with_reducible assumption) | (with_reducible refine Below.alloc ?_ ?_ _) | (with_reducible refine below_drewN ?_ _) | (with_reducible refine Below.drew ?_) | (with_reducible refine Below.setCell ?_ ?_ _) | (with_reducible refine below_call (by assumption) ?_ ?_) | go_size)))
              · (intro v w1 K hb hF hK; (try simp at hF); simp at hK; (try simp only [hF] at hK); have hz := hb.size; (try simp at hz); (try (have hk := bcl hb (b) (by first | omega | (simp; done) | (simp; omega)); have hc := hk.1; have hf := hk.2.1; have hk := hk.2.2)); (try (have hk := bcl hb (B') (by first | omega | (simp; done) | (simp; omega)); have hc := hk.1; have hf := hk.2.1; have hk := hk.2.2)))
                go_simp
                (try simp only [])
                exact hK _ _ rfl (by (repeat' (first | (with_reducible exact Below.refl _ _) | (with_reducible assumption) | (with_reducible refine Below.alloc ?_ ?_ _) | (with_reducible refine below_drewN ?_ _) | (with_reducible refine Below.drew ?_) | (with_reducible refine Below.setCell ?_ ?_ _) | (with_reducible refine below_call (by assumption) ?_ ?_) | go_size)))
              · (intro v w1 K hb hF hK; (try simp at hF); simp at hK; (try simp only [hF] at hK); have hz := hb.size; (try simp at hz))
                go_simp
                (try simp only [])
                exact hK _ _ rfl (by (repeat' (first | (with_reducible exact Below.refl _ _) | (with_reducible assumption) | (with_reducible refine Below.alloc ?_ ?_ _) | (with_reducible refine below_drewN ?_ _) | (with_reducible refine Below.drew ?_) | (with_reducible refine Below.setCell ?_ ?_ _) | (with_reducible refine below_call (by assumption) ?_ ?_) | go_size)))
              · (intro v w1 K hb hF hK; (try simp at hF); simp at hK; (try simp only [hF] at hK); have hz := hb.size; (try simp at hz))
                go_simp
                (try simp only [])
                exact hK _ _ rfl (by (repeat' (first | (with_reducible exact Below.refl _ _) | (with_reducible assumption) | (with_reducible refine Below.alloc ?_ ?_ _) | (with_reducible refine below_drewN ?_ _) | (with_reducible refine Below.drew ?_) | (with_reducible refine Below.setCell ?_ ?_ _) | (with_reducible refine below_call (by assumption) ?_ ?_) | go_size)))
              · (intro v w1 K hb hF hK; (try simp at hF); simp at hK; (try simp only [hF] at hK); have hz := hb.size; (try simp at hz); (try (have hk := bcl hb (b) (by first | omega | (simp; done) | (simp; omega)); have hc := hk.1; have hf := hk.2.1; have hk := hk.2.2)); (try (have hk := bcl hb (B') (by first | omega | (simp; done) | (simp; omega)); have hc := hk.1; have hf := hk.2.1; have hk := hk.2.2)))
                go_simp
                (first | (go_at_call 65; (with_reducible refine (stepOf_eq ha0 hb0 hpt HST.out _).mono ?_); rintro e w1 ⟨rfl, hb⟩; have hz := hb.size; (try simp at hz); (try (have hk := bcl hb (b) (by first | omega | (simp; done) | (simp; omega)); have hc := hk.1; have hf := hk.2.1; have hk := hk.2.2)); (try (have hk := bcl hb (B') (by first | omega | (simp; done) | (simp; omega)); have hc := hk.1; have hf := hk.2.1; have hk := hk.2.2))))
                (try simp only [])
                exact hK _ _ rfl (by (repeat' (first | (with_reducible exact Below.refl _ _) | (with_reducible assumption) | (with_reducible refine Below.alloc ?_ ?_ _) | (with_reducible refine below_drewN ?_ _) | (with_reducible refine Below.drew ?_) | (with_reducible refine Below.setCell ?_ ?_ _) | (with_reducible refine below_call (by assumption) ?_ ?_) | go_size)))
              · (intro v w1 K hb hF hK; (try simp at hF); simp at hK; (try simp only [hF] at hK); have hz := hb.size; (try simp at hz))
                go_simp
                (try simp only [])
                exact hK _ _ rfl (by (repeat' (first | (with_reducible exact Below.refl _ _) | (with_reducible assumption) | (with_reducible refine Below.alloc ?_ ?_ _) | (with_reducible refine below_drewN ?_ _) | (with_reducible refine Below.drew ?_) | (with_reducible refine Below.setCell ?_ ?_ _) | (with_reducible refine below_call (by assumption) ?_ ?_) | go_size)))
            case hfo => exact trivial
            (intro v w1 hb hF; simp [List.range, List.range.loop] at hF; have hz := hb.size; (try simp at hz); (try (have hk := bcl hb (b) (by first | omega | (simp; done) | (simp; omega)); have hc := hk.1; have hf := hk.2.1; have hk := hk.2.2)); (try (have hk := bcl hb (B') (by first | omega | (simp; done) | (simp; omega)); have hc := hk.1; have hf := hk.2.1; have hk := hk.2.2)))
            obtain ⟨e0, e1, e2, e3, e4, e5, e6, e7, e8, e9, e10, e11, e12, e13, e14, e15, e16, e17, e18, e19, e20, e21, e22, e23, e24, e25⟩ := hF
            simp only [List.length_cons, List.length_nil, List.drop_succ_cons, List.drop_zero, e0, e1, e2, e3, e4, e5, e6, e7, e8, e9, e10, e11, e12, e13, e14, e15, e16, e17, e18, e19, e20, e21, e22, e23, e24, e25]
            clear e0 e1 e2 e3 e4 e5 e6 e7 e8 e9 e10 e11 e12 e13 e14 e15 e16 e17 e18 e19 e20 e21 e22 e23 e24 e25 v
            go_wp2
            go_roundw
            case rel => exact ⟨j + 1, by omega, by go_num, by rw [HS.out], by (repeat' (first | (with_reducible exact Below.refl _ _) | (with_reducible assumption) | (with_reducible refine Below.alloc ?_ ?_ _) | (with_reducible refine below_drewN ?_ _) | (with_reducible refine Below.drew ?_) | (with_reducible refine Below.setCell ?_ ?_ _) | (with_reducible refine below_call (by assumption) ?_ ?_) | (with_reducible refine below_grown (by assumption) ?_ ?_ ?_) | omega | (simp; done) | (simp; omega)))⟩
            case measure => simp [intOf]; omega
          · obtain rfl : j = m := by omega
            have eb2 : decide ((j : Int) < j) = false := by simp
            have hfull : (ringEdges r).take j = ringEdges r := by rw [← HM.out, ← ringEdges_len r, List.take_length]
            have hz2 : z = sumE (stepF u h) (edgesL (L.take (k + 1))) := by rw [← HZ.out, hfull, HT.out]
            have HZ2 := Lib.hid hz2
            clear hfull hz2
            go_wp2
            go_roundw
            case rel => exact ⟨k + 1, by omega, by go_num, by rw [HZ2.out], hbel2⟩
            case measure => simp [intOf]; omega
      · obtain rfl : k = n := by omega
        have eb : decide ((k : Int) < k) = false := by simp
        have ht : L.take k = L := by rw [← HL.out, List.take_length]
        have hv1 : z0 = v := by rw [← HZ0.out, ht]; exact HVE.out
        subst hv1
        go_wp2
        go_ret
        exact ⟨rfl, hbel⟩

def windB (L : List (List Pt)) (u h : Int) : Bool := ringsOk L && ptB (u, h)
theorem windR_no {L : List (List Pt)} {u h : Int} (e : ringsOk L = false ∨ ptB (u, h) = false) : windR L u h = 0 := by
  rw [windR]; rcases e with e | e <;> simp [e]

set_option maxHeartbeats 1000000 in
theorem WindingAt_eq {A : Option Addr} {n : Nat} {L : List (List Pt)} {w : World} {u h v : Int} (c : Nat) (hp0 : IsRs w A n L) (hsz : sizeR L ≤ 1048576) (hv : windR L u h = v) :
    Calls Try.prog 19 #[.slice A n c, .int .i64 u, .int .i64 h] w fun e w' => e = .returned (.int .i64 v) ∧ Below w.heap.size w w' := by
  subst hv
  have HP := Lib.hid hp0
  obtain ⟨ok, hok⟩ : ∃ ok, ringsOk L = ok := ⟨_, rfl⟩
  have HOK := Lib.hid hok
  obtain ⟨b1, hb1⟩ : ∃ b, inB u (-1000) 1000 = b := ⟨_, rfl⟩
  obtain ⟨b2, hb2⟩ : ∃ b, inB h (-1000) 1000 = b := ⟨_, rfl⟩
  have H1 := Lib.hid hb1
  have H2 := Lib.hid hb2
  have HB : Hid (ptB (u, h) = (b1 && b2)) := Lib.hid (by rw [ptB_and, hb1, hb2])
  clear hp0 hok hb1 hb2
  go_enter Try.func19, Try.ntmps19
  go_wp2_with fail
  refine (ValidRings_eq c HP.out hsz HOK.out).mono ?_
  rintro e w1 ⟨rfl, hw1⟩
  have hz1 := hw1.size
  cases ok with
  | false =>
    have HV := Lib.hid (windR_no (L := L) (u := u) (h := h) (.inl HOK.out))
    go_wp2
    go_ret
    exact ⟨by rw [HV.out]; rfl, by (repeat' (first | (with_reducible exact Below.refl _ _) | (with_reducible assumption) | (with_reducible refine Below.alloc ?_ ?_ _) | (with_reducible refine below_drewN ?_ _) | (with_reducible refine Below.drew ?_) | (with_reducible refine Below.setCell ?_ ?_ _) | (with_reducible refine below_call (by assumption) ?_ ?_) | (with_reducible refine below_grown (by assumption) ?_ ?_ ?_) | omega | (simp; done) | (simp; omega)))⟩
  | true =>
    cases b1 with
    | false =>
      have HV := Lib.hid (windR_no (L := L) (u := u) (h := h) (.inr (by rw [HB.out]; rfl)))
      go_wp2_with ((go_at_call 39; (with_reducible refine (isUnit_eq H1.out _).mono ?_); rintro e w1 ⟨rfl, rfl⟩))
      go_ret
      exact ⟨by rw [HV.out]; rfl, by (repeat' (first | (with_reducible exact Below.refl _ _) | (with_reducible assumption) | (with_reducible refine Below.alloc ?_ ?_ _) | (with_reducible refine below_drewN ?_ _) | (with_reducible refine Below.drew ?_) | (with_reducible refine Below.setCell ?_ ?_ _) | (with_reducible refine below_call (by assumption) ?_ ?_) | (with_reducible refine below_grown (by assumption) ?_ ?_ ?_) | omega | (simp; done) | (simp; omega)))⟩
    | true =>
      cases b2 with
      | false =>
        have HV := Lib.hid (windR_no (L := L) (u := u) (h := h) (.inr (by rw [HB.out]; rfl)))
        go_wp2_with (first | (go_at_call 39; (with_reducible refine (isUnit_eq H1.out _).mono ?_); rintro e w1 ⟨rfl, rfl⟩) | (go_at_call 39; (with_reducible refine (isUnit_eq H2.out _).mono ?_); rintro e w1 ⟨rfl, rfl⟩))
        go_ret
        exact ⟨by rw [HV.out]; rfl, by (repeat' (first | (with_reducible exact Below.refl _ _) | (with_reducible assumption) | (with_reducible refine Below.alloc ?_ ?_ _) | (with_reducible refine below_drewN ?_ _) | (with_reducible refine Below.drew ?_) | (with_reducible refine Below.setCell ?_ ?_ _) | (with_reducible refine below_call (by assumption) ?_ ?_) | (with_reducible refine below_grown (by assumption) ?_ ?_ ?_) | omega | (simp; done) | (simp; omega)))⟩
      | true =>
        have hpt : -1000 ≤ u ∧ u ≤ 1000 ∧ -1000 ≤ h ∧ h ≤ 1000 := by have := HB.out; exact ptB_true.1 this
        obtain ⟨v, hv⟩ : ∃ v, windN L u h = v := ⟨_, rfl⟩
        have HV : Hid (windR L u h = v) := Lib.hid (by rw [windR, HOK.out, HB.out]; exact hv)
        have HW := Lib.hid hv
        clear hv
        go_wp2_with (first | (go_at_call 39; (with_reducible refine (isUnit_eq H1.out _).mono ?_); rintro e w1 ⟨rfl, rfl⟩) | (go_at_call 39; (with_reducible refine (isUnit_eq H2.out _).mono ?_); rintro e w1 ⟨rfl, rfl⟩) | (go_at_call 40; (with_reducible refine (winding_eq c (HP.out.below (by (repeat' (first | (with_reducible exact Below.refl _ _) | (with_reducible assumption) | (with_reducible refine Below.alloc ?_ ?_ _) | (with_reducible refine below_drewN ?_ _) | (with_reducible refine Below.drew ?_) | (with_reducible refine Below.setCell ?_ ?_ _) | (with_reducible refine below_call (by assumption) ?_ ?_) | (with_reducible refine below_grown (by assumption) ?_ ?_ ?_) | omega | (simp; done) | (simp; omega))))) hsz HOK.out hpt HW.out).mono ?_); rintro e w1 ⟨rfl, hb⟩; have hz := hb.size; (try simp at hz)))
        go_ret
        exact ⟨by rw [HV.out]; rfl, by (repeat' (first | (with_reducible exact Below.refl _ _) | (with_reducible assumption) | (with_reducible refine Below.alloc ?_ ?_ _) | (with_reducible refine below_drewN ?_ _) | (with_reducible refine Below.drew ?_) | (with_reducible refine Below.setCell ?_ ?_ _) | (with_reducible refine below_call (by assumption) ?_ ?_) | (with_reducible refine below_grown (by assumption) ?_ ?_ ?_) | omega | (simp; done) | (simp; omega)))⟩

set_option maxHeartbeats 1000000 in
theorem sWindingAt_eq {A : Option Addr} {n : Nat} {L : List (List Pt)} {w : World} {u h v : Int} (c : Nat) (hp0 : IsRs w A n L) (hsz : sizeR L ≤ 1048576) (hv : windR L u h = v) :
    Calls Try.prog 18 #[.slice A n c, .int .i64 u, .int .i64 h] w fun e w' => e = .returned (.int .i64 v) ∧ Below w.heap.size w w' := by
  subst hv
  have HP := Lib.hid hp0
  obtain ⟨ok, hok⟩ : ∃ ok, ringsOk L = ok := ⟨_, rfl⟩
  have HOK := Lib.hid hok
  obtain ⟨bb, hbb⟩ : ∃ b, ptB (u, h) = b := ⟨_, rfl⟩
  have HB := Lib.hid hbb
  clear hp0 hok hbb
  go_enter Try.func18, Try.ntmps18
  go_wp2_with fail
  refine (validRings_eq c HP.out hsz HOK.out).mono ?_
  rintro e w1 ⟨rfl, hw1⟩
  have hz1 := hw1.size
  cases ok with
  | false =>
    have HV := Lib.hid (windR_no (L := L) (u := u) (h := h) (.inl HOK.out))
    go_wp2
    go_ret
    exact ⟨by rw [HV.out]; rfl, by (repeat' (first | (with_reducible exact Below.refl _ _) | (with_reducible assumption) | (with_reducible refine Below.alloc ?_ ?_ _) | (with_reducible refine below_drewN ?_ _) | (with_reducible refine Below.drew ?_) | (with_reducible refine Below.setCell ?_ ?_ _) | (with_reducible refine below_call (by assumption) ?_ ?_) | (with_reducible refine below_grown (by assumption) ?_ ?_ ?_) | omega | (simp; done) | (simp; omega)))⟩
  | true =>
    go_wp2_with fail
    refine (validPoint_eq HB.out _).mono ?_
    rintro e w2 ⟨rfl, hw2⟩
    have hz2 := hw2.size
    cases bb with
    | false =>
      have HV := Lib.hid (windR_no (L := L) (u := u) (h := h) (.inr HB.out))
      go_wp2
      go_ret
      exact ⟨by rw [HV.out]; rfl, by (repeat' (first | (with_reducible exact Below.refl _ _) | (with_reducible assumption) | (with_reducible refine Below.alloc ?_ ?_ _) | (with_reducible refine below_drewN ?_ _) | (with_reducible refine Below.drew ?_) | (with_reducible refine Below.setCell ?_ ?_ _) | (with_reducible refine below_call (by assumption) ?_ ?_) | (with_reducible refine below_grown (by assumption) ?_ ?_ ?_) | omega | (simp; done) | (simp; omega)))⟩
    | true =>
      have hpt : -1000 ≤ u ∧ u ≤ 1000 ∧ -1000 ≤ h ∧ h ≤ 1000 := ptB_true.1 HB.out
      obtain ⟨v, hv⟩ : ∃ v, windN L u h = v := ⟨_, rfl⟩
      have HV : Hid (windR L u h = v) := Lib.hid (by rw [windR, HOK.out, HB.out]; exact hv)
      have HW := Lib.hid hv
      clear hv
      go_wp2_with fail
      refine (swinding_eq c (HP.out.below (by (repeat' (first | (with_reducible exact Below.refl _ _) | (with_reducible assumption) | (with_reducible refine Below.alloc ?_ ?_ _) | (with_reducible refine below_drewN ?_ _) | (with_reducible refine Below.drew ?_) | (with_reducible refine Below.setCell ?_ ?_ _) | (with_reducible refine below_call (by assumption) ?_ ?_) | (with_reducible refine below_grown (by assumption) ?_ ?_ ?_) | omega | (simp; done) | (simp; omega))))) HOK.out hpt HW.out).mono ?_
      rintro e w3 ⟨rfl, hw3⟩
      go_wp2
      go_ret
      exact ⟨by rw [HV.out]; rfl, by (repeat' (first | (with_reducible exact Below.refl _ _) | (with_reducible assumption) | (with_reducible refine Below.alloc ?_ ?_ _) | (with_reducible refine below_drewN ?_ _) | (with_reducible refine Below.drew ?_) | (with_reducible refine Below.setCell ?_ ?_ _) | (with_reducible refine below_call (by assumption) ?_ ?_) | (with_reducible refine below_grown (by assumption) ?_ ?_ ?_) | omega | (simp; done) | (simp; omega)))⟩

end Go.Proofs.Ytkbbbnlljenpeaa
