/-
  AreaOf, of the program and of the reference.
-/
import Derived.Test.YtkbbbnlljenpeaaPlEd
namespace Go.Proofs.Ytkbbbnlljenpeaa
open Go.RowKit Pl

set_option linter.unusedSimpArgs false
set_option linter.unusedVariables false

set_option maxHeartbeats 2000000 in
theorem AreaOf_eq {A : Option Addr} {n : Nat} {L : List (List Pt)} {w : World} {v : Int} (c : Nat) (h : IsRs w A n L) (hsz : sizeR L ≤ 1048576) (hv : areaR L = v) :
    Calls Try.prog 17 #[.slice A n c] w fun e w' => e = .returned (.int .i64 v) ∧ Below w.heap.size w w' := by
  have HP := Lib.hid h
  have HV := Lib.hid hv
  obtain ⟨ok, hok⟩ : ∃ ok, ringsOk L = ok := ⟨_, rfl⟩
  have HOK := Lib.hid hok
  clear h hv hok
  go_enter Try.func17, Try.ntmps17
  go_wp2_with fail
  refine (ValidRings_eq c HP.out hsz HOK.out).mono ?_
  rintro e w1 ⟨rfl, hb1⟩
  have hz1 := hb1.size
  cases ok with
  | false =>
    have hv1 : v = 0 := by rw [← HV.out, areaR, HOK.out]; rfl
    subst hv1
    go_wp2
    go_ret
    exact ⟨rfl, by (repeat' (first | (with_reducible exact Below.refl _ _) | (with_reducible assumption) | (with_reducible refine Below.alloc ?_ ?_ _) | (with_reducible refine below_drewN ?_ _) | (with_reducible refine Below.drew ?_) | (with_reducible refine Below.setCell ?_ ?_ _) | (with_reducible refine below_call (by assumption) ?_ ?_) | (with_reducible refine below_grown (by assumption) ?_ ?_ ?_) | omega | (simp; done) | (simp; omega)))⟩
  | true =>
    have HVE : Hid (sumE areaF (edgesL L) = v) := Lib.hid (by rw [← area_edges HOK.out]; exact HV.out)
    go_wp2_with fail
    refine (edges_any c (HP.out.below hb1) hsz).mono ?_
    rintro e w2 ⟨A2, c2, rfl, hE, hb2⟩
    have hz2 := hb2.size
    obtain ⟨E, hEn⟩ : ∃ E, (edgesL L).length = E := ⟨_, rfl⟩
    rw [hEn] at hE ⊢
    have HE := Lib.hid hE
    have HN := Lib.hid hEn
    have hE2 : E ≤ 200 := by rw [← hEn, edgesL_len]; exact (ringsOk_parts HOK.out).2.2
    have B2 : Hid (Below w.heap.size w w2) := Lib.hid (by (repeat' (first | (with_reducible exact Below.refl _ _) | (with_reducible assumption) | (with_reducible refine Below.alloc ?_ ?_ _) | (with_reducible refine below_drewN ?_ _) | (with_reducible refine Below.drew ?_) | (with_reducible refine Below.setCell ?_ ?_ _) | (with_reducible refine below_call (by assumption) ?_ ?_) | (with_reducible refine below_grown (by assumption) ?_ ?_ ?_) | omega | (simp; done) | (simp; omega))))
    clear hE hEn
    go_wp2
    go_loopw [3, 12] (fun vs vi wr => ∃ k : Nat, k ≤ E ∧ vi = .int .i64 k ∧ vs = .int .i64 (sumE areaF ((edgesL L).take k)) ∧ Below w2.heap.size w2 wr) (fun _ vi _ => E - (intOf vi).toNat)
    case atStart => exact ⟨0, by omega, rfl, rfl, Below.refl _ _⟩
    case round =>
      obtain ⟨k, hk, rfl, rfl, hbel⟩ := hrel
      obtain ⟨wo, rfl⟩ : ∃ wo : World, wo = wr := ⟨_, rfl⟩
      have hso := hbel.size
      have hss := sum_small (by decide) HOK.out (preE_take L k) (areaF_small HOK.out)
      obtain ⟨z, hz⟩ : ∃ z, sumE areaF ((edgesL L).take k) = z := ⟨_, rfl⟩
      rw [hz] at hss ⊢
      have HZ := Lib.hid hz
      clear hz
      by_cases hlt : k < E
      · have eb : decide ((k : Int) < E) = true := by simp; omega
        have hki : (k : Int) < E := by omega
        obtain ⟨b, o, x, y, x', y', rfl, hbl, hat, c0, c1, c2', c3⟩ := (HE.out.below hbel).at_ hlt
        obtain ⟨⟨a1, a2, a3, a4⟩, b1, b2, b3, b4⟩ := edges_valid (ringsOk_parts HOK.out).1 _ (List.mem_of_getElem? hat)
        simp only at a1 a2 a3 a4 b1 b2 b3 b4
        obtain ⟨p1, p2⟩ := mul_small a1 a2 b3 b4
        obtain ⟨q1, q2⟩ := mul_small a3 a4 b1 b2
        obtain ⟨p, hp⟩ : ∃ p, x * y' = p := ⟨_, rfl⟩
        obtain ⟨q, hq⟩ : ∃ q, y * x' = q := ⟨_, rfl⟩
        have HS : Hid (sumE areaF ((edgesL L).take (k + 1)) = z + (p - q)) := Lib.hid (by
          have hkl : k < (edgesL L).length := by rw [HN.out]; exact hlt
          have e : (edgesL L)[k] = ((x, y), (x', y')) := by rw [List.getElem?_eq_getElem hkl] at hat; exact Option.some.inj hat
          rw [sumE_take_succ _ hkl, e, HZ.out, areaF]
          simp only [hp, hq])
        rw [hp] at p1 p2
        rw [hq] at q1 q2
        clear hat
        go_wp2
        go_roundw
        case rel => exact ⟨k + 1, by omega, by go_num, by rw [HS.out], by (repeat' (first | (with_reducible exact Below.refl _ _) | (with_reducible assumption) | (with_reducible refine Below.alloc ?_ ?_ _) | (with_reducible refine below_drewN ?_ _) | (with_reducible refine Below.drew ?_) | (with_reducible refine Below.setCell ?_ ?_ _) | (with_reducible refine below_call (by assumption) ?_ ?_) | (with_reducible refine below_grown (by assumption) ?_ ?_ ?_) | omega | (simp; done) | (simp; omega)))⟩
        case measure => simp [intOf]; omega
      · obtain rfl : k = E := by omega
        have eb : decide ((k : Int) < k) = false := by simp
        have hv1 : z = v := by rw [← HZ.out, ← HN.out, List.take_length]; exact HVE.out
        subst hv1
        go_wp2
        go_ret
        exact ⟨rfl, B2.out.trans (hbel.mono (by have := B2.out.size; omega))⟩

set_option maxHeartbeats 4000000 in
theorem sAreaOf_eq {A : Option Addr} {n : Nat} {L : List (List Pt)} {w : World} {v : Int} (c : Nat) (h : IsRs w A n L) (hsz : sizeR L ≤ 1048576) (hv : areaR L = v) :
    Calls Try.prog 16 #[.slice A n c] w fun e w' => e = .returned (.int .i64 v) ∧ Below w.heap.size w w' := by
  have HP := Lib.hid h
  have HL := Lib.hid h.len
  have HV := Lib.hid hv
  obtain ⟨ok, hok⟩ : ∃ ok, ringsOk L = ok := ⟨_, rfl⟩
  have HOK := Lib.hid hok
  clear h hv hok
  go_enter Try.func16, Try.ntmps16
  go_wp2_with fail
  refine (validRings_eq c HP.out hsz HOK.out).mono ?_
  rintro e w1 ⟨rfl, hb1⟩
  have hz1 := hb1.size
  cases ok with
  | false =>
    have hv1 : v = 0 := by rw [← HV.out, areaR, HOK.out]; rfl
    subst hv1
    go_wp2
    go_ret
    exact ⟨rfl, by (repeat' (first | (with_reducible exact Below.refl _ _) | (with_reducible assumption) | (with_reducible refine Below.alloc ?_ ?_ _) | (with_reducible refine below_drewN ?_ _) | (with_reducible refine Below.drew ?_) | (with_reducible refine Below.setCell ?_ ?_ _) | (with_reducible refine below_call (by assumption) ?_ ?_) | (with_reducible refine below_grown (by assumption) ?_ ?_ ?_) | omega | (simp; done) | (simp; omega)))⟩
  | true =>
    have HVE : Hid (sumE areaF (edgesL L) = v) := Lib.hid (by rw [← area_edges HOK.out]; exact HV.out)
    have hn8 : n ≤ 8 := by rw [← HL.out]; exact (ringsOk_parts HOK.out).2.1
    go_wp2
    go_loopw [3, 4] (fun vs vi wr => ∃ k : Nat, k ≤ n ∧ vi = .int .i64 k ∧ vs = .int .i64 (sumE areaF (edgesL (L.take k))) ∧ Below w.heap.size w wr) (fun _ vi _ => n - (intOf vi).toNat)
    case atStart => exact ⟨0, by omega, rfl, rfl, by (repeat' (first | (with_reducible exact Below.refl _ _) | (with_reducible assumption) | (with_reducible refine Below.alloc ?_ ?_ _) | (with_reducible refine below_drewN ?_ _) | (with_reducible refine Below.drew ?_) | (with_reducible refine Below.setCell ?_ ?_ _) | (with_reducible refine below_call (by assumption) ?_ ?_) | (with_reducible refine below_grown (by assumption) ?_ ?_ ?_) | omega | (simp; done) | (simp; omega)))⟩
    case round =>
      obtain ⟨k, hk, rfl, rfl, hbel⟩ := hrel
      obtain ⟨wo, rfl⟩ : ∃ wo : World, wo = wr := ⟨_, rfl⟩
      have hso := hbel.size
      obtain ⟨z0, hz0⟩ : ∃ z, sumE areaF (edgesL (L.take k)) = z := ⟨_, rfl⟩
      rw [hz0]
      have HZ0 := Lib.hid hz0
      clear hz0
      by_cases hlt : k < n
      · have eb : decide ((k : Int) < n) = true := by simp; omega
        have hki : (k : Int) < n := by omega
        obtain ⟨r, b, o, B, cr, hr, rfl, hbl, x0, q1, q2, hp⟩ := HP.out.at_ hlt
        have hst := edgesL_take hr
        have hpre := preE_in hr
        obtain ⟨hr0, hrv⟩ := ringOk_parts ((ringsOk_parts HOK.out).1 r (List.mem_of_getElem? hr))
        have hr40 := validL_len hrv
        obtain ⟨m, hm⟩ : ∃ m, r.length = m := ⟨_, rfl⟩
        rw [hm] at x0 hp hr0 hr40
        have HM := Lib.hid hm
        have HQ := Lib.hid hp
        have HT := Lib.hid hst
        have HPRE := Lib.hid hpre
        have HRV := Lib.hid hrv
        have HX0 := Lib.hid x0
        clear hr hp hm hst hpre hrv x0 q1 q2
        go_wp2
        go_loopw [3, 5] (fun vs vj wr => ∃ j : Nat, j ≤ m ∧ vj = .int .i64 j ∧ vs = .int .i64 (sumE areaF (edgesL (L.take k) ++ (ringEdges r).take j)) ∧ Below w.heap.size w wr) (fun _ vj _ => m - (intOf vj).toNat)
        case atStart => exact ⟨0, by omega, rfl, by rw [List.take_zero, List.append_nil, HZ0.out], hbel⟩
        case round =>
          obtain ⟨j, hj, rfl, rfl, hbel2⟩ := hrel
          obtain ⟨wi, rfl⟩ : ∃ wi : World, wi = wr := ⟨_, rfl⟩
          have hsi := hbel2.size
          have hss := sum_small (by decide) HOK.out (HPRE.out j) (areaF_small HOK.out)
          obtain ⟨z, hz⟩ : ∃ z, sumE areaF (edgesL (L.take k) ++ (ringEdges r).take j) = z := ⟨_, rfl⟩
          rw [hz] at hss ⊢
          have HZ := Lib.hid hz
          clear hz
          have x1 := (hbel2.cell (p := ⟨b, o + k, none⟩) hbl).trans HX0.out
          have hbli : b < wi.heap.size := by omega
          by_cases hlt2 : j < m
          · have eb2 : decide ((j : Int) < m) = true := by simp; omega
            have hji : (j : Int) < m := by omega
            obtain ⟨nx, hnx⟩ : ∃ nx, (j + 1) % m = nx := ⟨_, rfl⟩
            have hnx1 : nx < m := by rw [← hnx]; exact Nat.mod_lt _ (by omega)
            obtain ⟨B', o', rfl, hBl, c0, c1⟩ := (HQ.out.below hbel2).at_ hlt2
            obtain ⟨_, _, e0, _, d0, d1⟩ := (HQ.out.below hbel2).at_ hnx1
            cases e0
            have hRT := ringEdges_take (r := r) (j := j) (by rw [HM.out]; exact hlt2)
            rw [nxt, HM.out, hnx] at hRT
            have hv0 := validL_at HRV.out (k := j) (by rw [HM.out]; exact hlt2)
            have hv1 := validL_at HRV.out (k := nx) (by rw [HM.out]; exact hnx1)
            obtain ⟨x, hx⟩ : ∃ x, px r j = x := ⟨_, rfl⟩
            obtain ⟨y, hy⟩ : ∃ y, py r j = y := ⟨_, rfl⟩
            obtain ⟨x', hx'⟩ : ∃ x, px r nx = x := ⟨_, rfl⟩
            obtain ⟨y', hy'⟩ : ∃ y, py r nx = y := ⟨_, rfl⟩
            rw [hx] at c0
            rw [hy] at c1
            rw [hx'] at d0
            rw [hy'] at d1
            rw [hx, hy] at hv0
            rw [hx', hy'] at hv1
            obtain ⟨a1, a2, a3, a4⟩ := hv0
            obtain ⟨b1, b2, b3, b4⟩ := hv1
            have hPA : ptA r j = (x, y) := by rw [ptA, hx, hy]
            have hPB : ptA r nx = (x', y') := by rw [ptA, hx', hy']
            obtain ⟨p1, p2⟩ := mul_small a1 a2 b3 b4
            obtain ⟨q1, q2⟩ := mul_small b1 b2 a3 a4
            obtain ⟨p, hp⟩ : ∃ p, x * y' = p := ⟨_, rfl⟩
            obtain ⟨q, hq⟩ : ∃ q, x' * y = q := ⟨_, rfl⟩
            have HS : Hid (sumE areaF (edgesL (L.take k) ++ (ringEdges r).take (j + 1)) = z + p - q) := Lib.hid (by
              rw [hRT, hPA, hPB, ← List.append_assoc, sumE_one, HZ.out, areaF]
              simp only [hp, Int.mul_comm y x', hq]
              omega)
            rw [hp] at p1 p2
            rw [hq] at q1 q2
            have e1 : IntKind.i64.wrap ((j : Int) + 1) = (j : Int) + 1 := IntWalk.i64_in _ (by omega)
            have e2 : Int.tmod ((j : Int) + 1) (m : Int) = (nx : Int) := by rw [← hnx]; rfl
            have hm0 : ¬ m = 0 := by omega
            have hnxi : (nx : Int) < m := by omega
            clear hRT hx hy hx' hy' hnx hPA hPB
            go_wp2_with fail
            apply wp_region_pure (by kernel_rfl) ([] :: [] :: [0, 1] :: [2] :: [] :: [4] :: [] :: [] :: [6, 7] :: [8] :: [9] :: [5, 10] :: [3, 11] :: [12] :: [] :: []) (RS.det [] _ :: RS.det [] _ :: RS.det [0, 1] _ :: RS.det [2] _ :: RS.det [] _ :: RS.det [4] _ :: RS.det [] _ :: RS.det [] _ :: RS.det [6, 7] _ :: RS.det [8] _ :: RS.det [9] _ :: RS.det [5, 10] _ :: RS.det [3, 11] _ :: RS.det [12] _ :: RS.box [] _ #[.int .i64 0, .int .i64 0] 48 :: []) [] rfl (by kernel_rfl) (fun h => absurd rfl h) (by kernel_rfl) (by kernel_rfl) (st_det (st_det (st_det (st_det (st_det (st_det (st_det (st_det (st_det (st_det (st_det (st_det (st_det (st_det (st_box st_nil))))))))))))))) _ (fun v => by simp; rfl)
            case hop =>
              simp only [Obls]
              refine ⟨?_, ?_, ?_, ?_, ?_, ?_, ?_, ?_, ?_, ?_, ?_, ?_, ?_, ?_, ?_, trivial⟩
              · (intro v w1 K hb hF hK; (try simp at hF); simp at hK; (try simp only [hF] at hK); have hz := hb.size; (try simp at hz))
                go_simp
                (try simp only [])
                exact hK _ _ rfl (by (repeat' (first | (with_reducible exact Below.refl _ _) | (with_reducible assumption) | (with_reducible refine Below.alloc ?_ ?_ _) | (with_reducible refine below_drewN ?_ _) | (with_reducible refine Below.drew ?_) | (with_reducible refine Below.setCell ?_ ?_ _) | (with_reducible refine below_call (by assumption) ?_ ?_) | go_size)))
              · (intro v w1 K hb hF hK; (try simp at hF); simp at hK; (try simp only [hF] at hK); have hz := hb.size; (try simp at hz))
                go_simp
                (try simp only [])
                exact hK _ _ rfl (by (repeat' (first | (with_reducible exact Below.refl _ _) | (with_reducible assumption) | (with_reducible refine Below.alloc ?_ ?_ _) | (with_reducible refine below_drewN ?_ _) | (with_reducible refine Below.drew ?_) | (with_reducible refine Below.setCell ?_ ?_ _) | (with_reducible refine below_call (by assumption) ?_ ?_) | go_size)))
              · (intro v w1 K hb hF hK; (try simp at hF); simp at hK; (try simp only [hF] at hK); have hz := hb.size; (try simp at hz))
                go_simp
                (try simp only [])
                exact hK _ _ rfl (by (repeat' (first | (with_reducible exact Below.refl _ _) | (with_reducible assumption) | (with_reducible refine Below.alloc ?_ ?_ _) | (with_reducible refine below_drewN ?_ _) | (with_reducible refine Below.drew ?_) | (with_reducible refine Below.setCell ?_ ?_ _) | (with_reducible refine below_call (by assumption) ?_ ?_) | go_size)))
              · (intro v w1 K hb hF hK; (try simp at hF); simp at hK; (try simp only [hF] at hK); have hz := hb.size; (try simp at hz); (try (have hk := bcl hb (b) (by first | omega | (simp; done) | (simp; omega)); have hc := hk.1; have hf := hk.2.1; have hk := hk.2.2)); (try (have hk := bcl hb (B') (by first | omega | (simp; done) | (simp; omega)); have hc := hk.1; have hf := hk.2.1; have hk := hk.2.2)); (try (have hk := bcl hb (wi.heap.size) (by first | omega | (simp; done) | (simp; omega)); have hc := hk.1; have hf := hk.2.1; have hk := hk.2.2)))
                go_simp
                (try simp only [])
                exact hK _ _ rfl (by (repeat' (first | (with_reducible exact Below.refl _ _) | (with_reducible assumption) | (with_reducible refine Below.alloc ?_ ?_ _) | (with_reducible refine below_drewN ?_ _) | (with_reducible refine Below.drew ?_) | (with_reducible refine Below.setCell ?_ ?_ _) | (with_reducible refine below_call (by assumption) ?_ ?_) | go_size)))
              · (intro v w1 K hb hF hK; (try simp at hF); simp at hK; (try simp only [hF] at hK); have hz := hb.size; (try simp at hz))
                go_simp
                (try simp only [])
                exact hK _ _ rfl (by (repeat' (first | (with_reducible exact Below.refl _ _) | (with_reducible assumption) | (with_reducible refine Below.alloc ?_ ?_ _) | (with_reducible refine below_drewN ?_ _) | (with_reducible refine Below.drew ?_) | (with_reducible refine Below.setCell ?_ ?_ _) | (with_reducible refine below_call (by assumption) ?_ ?_) | go_size)))
              · (intro v w1 K hb hF hK; (try simp at hF); simp at hK; (try simp only [hF] at hK); have hz := hb.size; (try simp at hz))
                go_simp
                (try simp only [])
                exact hK _ _ rfl (by (repeat' (first | (with_reducible exact Below.refl _ _) | (with_reducible assumption) | (with_reducible refine Below.alloc ?_ ?_ _) | (with_reducible refine below_drewN ?_ _) | (with_reducible refine Below.drew ?_) | (with_reducible refine Below.setCell ?_ ?_ _) | (with_reducible refine below_call (by assumption) ?_ ?_) | go_size)))
              · (intro v w1 K hb hF hK; (try simp at hF); simp at hK; (try simp only [hF] at hK); have hz := hb.size; (try simp at hz))
                go_simp
                (try simp only [])
                exact hK _ _ rfl (by (repeat' (first | (with_reducible exact Below.refl _ _) | (with_reducible assumption) | (with_reducible refine Below.alloc ?_ ?_ _) | (with_reducible refine below_drewN ?_ _) | (with_reducible refine Below.drew ?_) | (with_reducible refine Below.setCell ?_ ?_ _) | (with_reducible refine below_call (by assumption) ?_ ?_) | go_size)))
              · (intro v w1 K hb hF hK; (try simp at hF); simp at hK; (try simp only [hF] at hK); have hz := hb.size; (try simp at hz))
                go_simp
                (try simp only [])
                exact hK _ _ rfl (by (repeat' (first | (with_reducible exact Below.refl _ _) | (with_reducible assumption) | (with_reducible refine Below.alloc ?_ ?_ _) | (with_reducible refine below_drewN ?_ _) | (with_reducible refine Below.drew ?_) | (with_reducible refine Below.setCell ?_ ?_ _) | (with_reducible refine below_call (by assumption) ?_ ?_) | go_size)))
              · (intro v w1 K hb hF hK; (try simp at hF); simp at hK; (try simp only [hF] at hK); have hz := hb.size; (try simp at hz))
                go_simp
                (try simp only [])
                exact hK _ _ rfl (by (repeat' (first | (with_reducible exact Below.refl _ _) | (with_reducible assumption) | (with_reducible refine Below.alloc ?_ ?_ _) | (with_reducible refine below_drewN ?_ _) | (with_reducible refine Below.drew ?_) | (with_reducible refine Below.setCell ?_ ?_ _) | (with_reducible refine below_call (by assumption) ?_ ?_) | go_size)))
              · (intro v w1 K hb hF hK; (try simp at hF); simp at hK; (try simp only [hF] at hK); have hz := hb.size; (try simp at hz); (try (have hk := bcl hb (b) (by first | omega | (simp; done) | (simp; omega)); have hc := hk.1; have hf := hk.2.1; have hk := hk.2.2)); (try (have hk := bcl hb (B') (by first | omega | (simp; done) | (simp; omega)); have hc := hk.1; have hf := hk.2.1; have hk := hk.2.2)); (try (have hk := bcl hb (wi.heap.size) (by first | omega | (simp; done) | (simp; omega)); have hc := hk.1; have hf := hk.2.1; have hk := hk.2.2)))
                go_simp
                (try simp only [])
                exact hK _ _ rfl (by (repeat' (first | (with_reducible exact Below.refl _ _) | (with_reducible assumption) | (with_reducible refine Below.alloc ?_ ?_ _) | (with_reducible refine below_drewN ?_ _) | (with_reducible refine Below.drew ?_) | (with_reducible refine Below.setCell ?_ ?_ _) | (with_reducible refine below_call (by assumption) ?_ ?_) | go_size)))
              · (intro v w1 K hb hF hK; (try simp at hF); simp at hK; (try simp only [hF] at hK); have hz := hb.size; (try simp at hz))
                go_simp
                (try simp only [])
                exact hK _ _ rfl (by (repeat' (first | (with_reducible exact Below.refl _ _) | (with_reducible assumption) | (with_reducible refine Below.alloc ?_ ?_ _) | (with_reducible refine below_drewN ?_ _) | (with_reducible refine Below.drew ?_) | (with_reducible refine Below.setCell ?_ ?_ _) | (with_reducible refine below_call (by assumption) ?_ ?_) | go_size)))
              · (intro v w1 K hb hF hK; (try simp at hF); simp at hK; (try simp only [hF] at hK); have hz := hb.size; (try simp at hz))
                go_simp
                (try simp only [])
                exact hK _ _ rfl (by (repeat' (first | (with_reducible exact Below.refl _ _) | (with_reducible assumption) | (with_reducible refine Below.alloc ?_ ?_ _) | (with_reducible refine below_drewN ?_ _) | (with_reducible refine Below.drew ?_) | (with_reducible refine Below.setCell ?_ ?_ _) | (with_reducible refine below_call (by assumption) ?_ ?_) | go_size)))
              · (intro v w1 K hb hF hK; (try simp at hF); simp at hK; (try simp only [hF] at hK); have hz := hb.size; (try simp at hz))
                go_simp
                (try simp only [])
                exact hK _ _ rfl (by (repeat' (first | (with_reducible exact Below.refl _ _) | (with_reducible assumption) | (with_reducible refine Below.alloc ?_ ?_ _) | (with_reducible refine below_drewN ?_ _) | (with_reducible refine Below.drew ?_) | (with_reducible refine Below.setCell ?_ ?_ _) | (with_reducible refine below_call (by assumption) ?_ ?_) | go_size)))
              · (intro v w1 K hb hF hK; (try simp at hF); simp at hK; (try simp only [hF] at hK); have hz := hb.size; (try simp at hz); (try (have hk := bcl hb (b) (by first | omega | (simp; done) | (simp; omega)); have hc := hk.1; have hf := hk.2.1; have hk := hk.2.2)); (try (have hk := bcl hb (B') (by first | omega | (simp; done) | (simp; omega)); have hc := hk.1; have hf := hk.2.1; have hk := hk.2.2)); (try (have hk := bcl hb (wi.heap.size) (by first | omega | (simp; done) | (simp; omega)); have hc := hk.1; have hf := hk.2.1; have hk := hk.2.2)))
                go_simp
                (try simp only [])
                exact hK _ _ rfl (by (repeat' (first | (with_reducible exact Below.refl _ _) | (with_reducible assumption) | (with_reducible refine Below.alloc ?_ ?_ _) | (with_reducible refine below_drewN ?_ _) | (with_reducible refine Below.drew ?_) | (with_reducible refine Below.setCell ?_ ?_ _) | (with_reducible refine below_call (by assumption) ?_ ?_) | go_size)))
              · (intro v w1 K hb hF hK; (try simp at hF); simp at hK; (try simp only [hF] at hK); have hz := hb.size; (try simp at hz))
                go_simp
                (try simp only [])
                exact hK _ _ (isBox_new _ _ hb.size) (by (repeat' (first | (with_reducible exact Below.refl _ _) | (with_reducible assumption) | (with_reducible refine Below.alloc ?_ ?_ _) | (with_reducible refine below_drewN ?_ _) | (with_reducible refine Below.drew ?_) | (with_reducible refine Below.setCell ?_ ?_ _) | (with_reducible refine below_call (by assumption) ?_ ?_) | go_size)))
            case hfo => exact trivial
            (intro v w1 hb hF; simp [List.range, List.range.loop] at hF; have hz := hb.size; (try simp at hz); (try (have hk := bcl hb (b) (by first | omega | (simp; done) | (simp; omega)); have hc := hk.1; have hf := hk.2.1; have hk := hk.2.2)); (try (have hk := bcl hb (B') (by first | omega | (simp; done) | (simp; omega)); have hc := hk.1; have hf := hk.2.1; have hk := hk.2.2)); (try (have hk := bcl hb (wi.heap.size) (by first | omega | (simp; done) | (simp; omega)); have hc := hk.1; have hf := hk.2.1; have hk := hk.2.2)))
            obtain ⟨e0, e1, e2, e3, e4, e5, e6, e7, e8, e9, e10, e11, e12, e13, gb, e14, hgb, hgbs, hgbb⟩ := hF
            simp only [List.length_cons, List.length_nil, List.drop_succ_cons, List.drop_zero, e0, e1, e2, e3, e4, e5, e6, e7, e8, e9, e10, e11, e12, e13, e14]
            clear e0 e1 e2 e3 e4 e5 e6 e7 e8 e9 e10 e11 e12 e13 e14 v
            have hcgb := blk_cell hgbb; have hfgb := blk_free hgbb; have Hgb := Lib.hid hgbb; clear hgbb; (try simp at hgb)
            go_wp2
            go_roundw
            case rel => exact ⟨j + 1, by omega, by go_num, by rw [HS.out], by (repeat' (first | (with_reducible exact Below.refl _ _) | (with_reducible assumption) | (with_reducible refine Below.alloc ?_ ?_ _) | (with_reducible refine below_drewN ?_ _) | (with_reducible refine Below.drew ?_) | (with_reducible refine Below.setCell ?_ ?_ _) | (with_reducible refine below_call (by assumption) ?_ ?_) | (with_reducible refine below_grown (by assumption) ?_ ?_ ?_) | omega | (simp; done) | (simp; omega)))⟩
            case measure => simp [intOf]; omega
          · obtain rfl : j = m := by omega
            have eb2 : decide ((j : Int) < j) = false := by simp
            have hfull : (ringEdges r).take j = ringEdges r := by rw [← HM.out, ← ringEdges_len r, List.take_length]
            have hz2 : z = sumE areaF (edgesL (L.take (k + 1))) := by rw [← HZ.out, hfull, HT.out]
            have HZ2 := Lib.hid hz2
            clear hfull hz2
            go_wp2
            go_roundw
            case rel => exact ⟨k + 1, by omega, by go_num, by rw [HZ2.out], hbel2⟩
            case measure => simp [intOf]; omega
      · obtain rfl : k = n := by omega
        have eb : decide ((k : Int) < k) = false := by simp
        have ht : L.take k = L := by rw [← HL.out, List.take_length]
        have hv1 : z0 = v := by rw [← HZ0.out, ht]; exact HVE.out
        subst hv1
        go_wp2
        go_ret
        exact ⟨rfl, hbel⟩

end Go.Proofs.Ytkbbbnlljenpeaa
