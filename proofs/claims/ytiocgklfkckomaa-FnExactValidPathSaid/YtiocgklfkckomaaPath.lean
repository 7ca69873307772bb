/-
  ValidPath, of the program.
-/
--short
import Derived.Test.YtiocgklfkckomaaVerbsT
import Derived.Test.YtiocgklfkckomaaPtsF
namespace Go.Proofs.Ytiocgklfkckomaa
open Go.RowKit Pl

set_option linter.unusedSimpArgs false
set_option linter.unusedVariables false

theorem verbOk_eq {L : List Vb} {k m : Nat} {kd : Int} {r : List Pt} {u bg : Bool} (hr : L[k]? = some (kd, r)) (hm : r.length = m) (hu : validL r = u) (hbg : decide (k = 0 ∨ (vb L (k - 1)).1 = 4) = bg) :
    verbOk L k = (inB kd 0 4 && (decide (m = manyV kd) && (u && !(bg && decide (kd ≠ 0))))) := by
  rw [verbOk, vb_at hr, hbg]
  simp only [hm, hu]
  rfl
theorem path_not {L : List Vb} {n : Nat} (hn : n < L.length) (h : verbOk L n = false) : pathB L = false := by
  rw [pathB, verbsOk_not h _ hn, Bool.false_and]
theorem lit_at {w : World} {g : Nat} (h : w.heap[g]? = some (.cells #[.int .i64 1, .int .i64 1, .int .i64 2, .int .i64 3, .int .i64 0] 3 (0, 0))) {q : Nat} (hq : q < 5) : w.cell? ⟨g, q, none⟩ = some (.int .i64 (manyV (q : Int) : Nat)) := by
  rw [blk_cell h]
  match q, hq with
  | 0, _ => rfl
  | 1, _ => rfl
  | 2, _ => rfl
  | 3, _ => rfl
  | 4, _ => rfl

set_option maxHeartbeats 16000000 in
theorem ValidPath_eq {A : Option Addr} {n : Nat} {L : List Vb} {w : World} {v : Bool} (c : Nat) (h : IsVbs w A n L) (hsz : sizeV L ≤ 1048576) (hv : pathB L = v) :
    Calls Try.prog 18 #[.slice A n c] w fun e w' => e = .returned (.bool v) ∧ Below w.heap.size w w' := by
  have hS : n + pointsV L L.length ≤ 1048576 := by rw [sizeV, h.1] at hsz; rw [h.1]; exact hsz
  have HP := Lib.hid h
  have HL := Lib.hid h.1
  have HV := Lib.hid hv
  clear h hsz hv
  go_enter Try.func18, Try.ntmps18
  go_wp2
  go_loopw [4, 11] (fun vp vi wr => ∃ k : Nat, k ≤ n ∧ vi = .int .i64 k ∧ vp = .int .i64 (pointsV L k : Nat) ∧ verbsOk L k = true ∧ wr.heap[w.heap.size]? = some (.cells #[.int .i64 1, .int .i64 1, .int .i64 2, .int .i64 3, .int .i64 0] 3 (0, 0)) ∧ Below w.heap.size w wr) (fun _ vi _ => n - (intOf vi).toNat)
  case atStart => exact ⟨0, by omega, rfl, rfl, rfl, blk_new w _, by (repeat' (first | (with_reducible exact Below.refl _ _) | (with_reducible assumption) | (with_reducible refine Below.alloc ?_ ?_ _) | (with_reducible refine below_drewN ?_ _) | (with_reducible refine Below.drew ?_) | (with_reducible refine Below.setCell ?_ ?_ _) | (with_reducible refine below_call (by assumption) ?_ ?_) | (with_reducible refine below_grown (by assumption) ?_ ?_ ?_) | omega | (simp; done) | (simp; omega)))⟩
  case round =>
    obtain ⟨k, hk, rfl, rfl, hvo, hlit, hbel⟩ := hrel
    obtain ⟨wo, rfl⟩ : ∃ wo : World, wo = wr := ⟨_, rfl⟩
    have hso := hbel.size
    have hll := blk_lt hlit
    have HLIT := Lib.hid hlit
    have HVO := Lib.hid hvo
    clear hlit hvo
    by_cases hlt : k < n
    · have eb : decide ((k : Int) < n) = true := by simp; omega
      have hki : (k : Int) < n := by omega
      obtain ⟨b, o, kd, r, B, cr, rfl, hbl, hr, x0, x1, _, _, hp⟩ := (HP.out.below hbel).at_ hlt
      obtain ⟨m, hm⟩ : ∃ m, r.length = m := ⟨_, rfl⟩
      have hst : pointsV L (k + 1) = pointsV L k + m := by simp only [pointsV, vb_at hr, hm]
      have hle := pointsV_le' (L := L) (k := k + 1) (n := L.length) (by rw [HL.out]; omega)
      obtain ⟨pz, hpz⟩ : ∃ z, pointsV L k = z := ⟨_, rfl⟩
      rw [hpz] at hst ⊢
      have hm12 : m ≤ 1000000000000 := by omega
      have hpm : pz + m ≤ 1048576 := by omega
      rw [hm] at x1 hp
      have HR := Lib.hid hr
      have HM := Lib.hid hm
      have HQ := Lib.hid hp
      have HST := Lib.hid hst
      obtain ⟨u, hu⟩ : ∃ u, validL r = u := ⟨_, rfl⟩
      have HU := Lib.hid hu
      obtain ⟨b1, hb1⟩ : ∃ b, inB kd 0 4 = b := ⟨_, rfl⟩
      have HIN := Lib.hid hb1
      clear hr hm hp hst hu hb1 hle hpz
      by_cases hk0 : k = 0
      · subst hk0
        have HBG : Hid (decide (0 = 0 ∨ (vb L (0 - 1)).1 = 4) = true) := Lib.hid (by simp)
        simp only [Nat.zero_mul, Nat.add_zero] at x0 x1
        have HVK := Lib.hid (verbOk_eq HR.out HM.out HU.out (show decide (0 = 0 ∨ (vb L (0 - 1)).1 = 4) = true from HBG.out))
        cases b1 with
        | false =>
          have hv1 : v = false := by rw [← HV.out]; exact path_not (n := 0) (by rw [HL.out]; exact hlt) (by rw [HVK.out, HIN.out]; simp)
          subst hv1
          go_wp2_with fail
          apply wp_region_pure (by kernel_rfl) ([] :: [0] :: [1] :: [2] :: [3] :: [4] :: [4, 5] :: [4, 6] :: [4] :: [4] :: [4, 9] :: [4, 8, 10] :: [4, 11] :: [4, 7, 12] :: [4, 13] :: [14] :: [15] :: [15, 16] :: [15, 17] :: [15, 18] :: [15, 19] :: [20] :: [21] :: [21, 22] :: [23] :: [23, 24] :: [23, 25] :: [21, 23, 26] :: [21, 27] :: []) (RS.det [] _ :: RS.det [0] _ :: RS.det [1] _ :: RS.det [2] _ :: RS.det [3] _ :: RS.det [4] _ :: RS.det [4, 5] _ :: RS.det [4, 6] _ :: RS.det [4] _ :: RS.det [4] _ :: RS.det [4, 9] _ :: RS.det [4, 8, 10] _ :: RS.det [4, 11] _ :: RS.det [4, 7, 12] _ :: RS.det [4, 13] _ :: RS.det [14] _ :: RS.det [15] _ :: RS.det [15, 16] _ :: RS.det [15, 17] _ :: RS.det [15, 18] _ :: RS.det [15, 19] _ :: RS.det [20] _ :: RS.det [21] _ :: RS.det [21, 22] _ :: RS.det [23] _ :: RS.det [23, 24] _ :: RS.det [23, 25] _ :: RS.det [21, 23, 26] _ :: RS.det [21, 27] _ :: []) [] rfl (by kernel_rfl) (fun h => absurd rfl h) (by kernel_rfl) (by kernel_rfl) (st_det (st_det (st_det (st_det (st_det (st_det (st_det (st_det (st_det (st_det (st_det (st_det (st_det (st_det (st_det (st_det (st_det (st_det (st_det (st_det (st_det (st_det (st_det (st_det (st_det (st_det (st_det (st_det (st_det st_nil))))))))))))))))))))))))))))) _ (fun v => by simp; rfl)
          case hop =>
            simp only [Obls]
            refine ⟨?_, ?_, ?_, ?_, ?_, ?_, ?_, ?_, ?_, ?_, ?_, ?_, ?_, ?_, ?_, ?_, ?_, ?_, ?_, ?_, ?_, ?_, ?_, ?_, ?_, ?_, ?_, ?_, ?_, trivial⟩
            · (intro v w1 K hb hF hK; (try simp at hF); simp at hK; (try simp only [hF] at hK); have hz := hb.size; (try simp at hz))
              go_simp
              (try simp only [])
              exact hK _ _ rfl (Below.refl _ _)
            · (intro v w1 K hb hF hK; (try simp at hF); simp at hK; (try simp only [hF] at hK); have hz := hb.size; (try simp at hz); (try (have hk := bcl hb (wo.heap.size) (by first | omega | (simp; done) | (simp; omega)); have hc := hk.1; have hf := hk.2.1; have hk := hk.2.2)); (try (have hk := bcl hb (w.heap.size) (by first | omega | (simp; done) | (simp; omega)); have hc := hk.1; have hf := hk.2.1; have hk := hk.2.2)))
              go_simp
              (try simp only [])
              exact hK _ _ rfl (Below.refl _ _)
            · (intro v w1 K hb hF hK; (try simp at hF); simp at hK; (try simp only [hF] at hK); have hz := hb.size; (try simp at hz); (try (have hk := bcl hb (wo.heap.size) (by first | omega | (simp; done) | (simp; omega)); have hc := hk.1; have hf := hk.2.1; have hk := hk.2.2)); (try (have hk := bcl hb (w.heap.size) (by first | omega | (simp; done) | (simp; omega)); have hc := hk.1; have hf := hk.2.1; have hk := hk.2.2)))
              go_simp
              (first | (go_at_call 35; (with_reducible refine (in_eq HIN.out _).mono ?_); rintro e w7 ⟨rfl, rfl⟩) | (go_at_call 36; (with_reducible refine (pointsValid_eq cr (HQ.out.below (by (repeat' (first | (with_reducible exact Below.refl _ _) | (with_reducible assumption) | (with_reducible refine Below.alloc ?_ ?_ _) | (with_reducible refine below_drewN ?_ _) | (with_reducible refine Below.drew ?_) | (with_reducible refine Below.setCell ?_ ?_ _) | (with_reducible refine below_call (by assumption) ?_ ?_) | (with_reducible refine below_grown (by assumption) ?_ ?_ ?_) | omega | (simp; done) | (simp; omega))))) hm12 HU.out).mono ?_); rintro e w7 ⟨rfl, hb7⟩) | skip)
              (try simp only [])
              exact hK _ _ rfl (by (repeat' (first | (with_reducible exact Below.refl _ _) | (with_reducible assumption) | (with_reducible refine Below.alloc ?_ ?_ _) | (with_reducible refine below_drewN ?_ _) | (with_reducible refine Below.drew ?_) | (with_reducible refine Below.setCell ?_ ?_ _) | (with_reducible refine below_call (by assumption) ?_ ?_) | go_size)))
            · (intro v w1 K hb hF hK; (try simp at hF); simp at hK; (try simp only [hF] at hK); have hz := hb.size; (try simp at hz))
              go_simp
              (try simp only [])
              exact hK _ _ rfl (Below.refl _ _)
            · (intro v w1 K hb hF hK; (try simp at hF); simp at hK; (try simp only [hF] at hK); have hz := hb.size; (try simp at hz))
              go_simp
              (try simp only [])
              exact hK _ _ rfl (Below.refl _ _)
            · (intro v w1 K hb hF hK; (try simp at hF); simp at hK; (try simp only [hF] at hK); have hz := hb.size; (try simp at hz))
              go_simp
              (try simp only [])
              exact hK _ _ rfl (Below.refl _ _)
            · (intro v w1 K hb hF hK; (try simp at hF); simp at hK; (try simp only [hF] at hK); have hz := hb.size; (try simp at hz); (try (have hk := bcl hb (wo.heap.size) (by first | omega | (simp; done) | (simp; omega)); have hc := hk.1; have hf := hk.2.1; have hk := hk.2.2)); (try (have hk := bcl hb (w.heap.size) (by first | omega | (simp; done) | (simp; omega)); have hc := hk.1; have hf := hk.2.1; have hk := hk.2.2)))
              go_simp
              (try simp only [])
              exact hK _ _ rfl (Below.refl _ _)
            · (intro v w1 K hb hF hK; (try simp at hF); simp at hK; (try simp only [hF] at hK); have hz := hb.size; (try simp at hz))
              go_simp
              (try simp only [])
              exact hK _ _ rfl (Below.refl _ _)
            · (intro v w1 K hb hF hK; (try simp at hF); simp at hK; (try simp only [hF] at hK); have hz := hb.size; (try simp at hz))
              go_simp
              (try simp only [])
              exact hK _ _ rfl (Below.refl _ _)
            · (intro v w1 K hb hF hK; (try simp at hF); simp at hK; (try simp only [hF] at hK); have hz := hb.size; (try simp at hz))
              go_simp
              (try simp only [])
              exact hK _ _ rfl (Below.refl _ _)
            · (intro v w1 K hb hF hK; (try simp at hF); simp at hK; (try simp only [hF] at hK); have hz := hb.size; (try simp at hz); (try (have hk := bcl hb (wo.heap.size) (by first | omega | (simp; done) | (simp; omega)); have hc := hk.1; have hf := hk.2.1; have hk := hk.2.2)); (try (have hk := bcl hb (w.heap.size) (by first | omega | (simp; done) | (simp; omega)); have hc := hk.1; have hf := hk.2.1; have hk := hk.2.2)))
              go_simp
              (try simp only [])
              exact hK _ _ rfl (Below.refl _ _)
            · (intro v w1 K hb hF hK; (try simp at hF); simp at hK; (try simp only [hF] at hK); have hz := hb.size; (try simp at hz))
              go_simp
              (try simp only [])
              exact hK _ _ rfl (Below.refl _ _)
            · (intro v w1 K hb hF hK; (try simp at hF); simp at hK; (try simp only [hF] at hK); have hz := hb.size; (try simp at hz); (try (have hk := bcl hb (wo.heap.size) (by first | omega | (simp; done) | (simp; omega)); have hc := hk.1; have hf := hk.2.1; have hk := hk.2.2)); (try (have hk := bcl hb (w.heap.size) (by first | omega | (simp; done) | (simp; omega)); have hc := hk.1; have hf := hk.2.1; have hk := hk.2.2)))
              go_simp
              (try simp only [])
              exact hK _ _ rfl (Below.refl _ _)
            · (intro v w1 K hb hF hK; (try simp at hF); simp at hK; (try simp only [hF] at hK); have hz := hb.size; (try simp at hz))
              go_simp
              (try simp only [])
              exact hK _ _ rfl (Below.refl _ _)
            · (intro v w1 K hb hF hK; (try simp at hF); simp at hK; (try simp only [hF] at hK); have hz := hb.size; (try simp at hz))
              go_simp
              (try simp only [])
              exact hK _ _ rfl (Below.refl _ _)
            · (intro v w1 K hb hF hK; (try simp at hF); simp at hK; (try simp only [hF] at hK); have hz := hb.size; (try simp at hz))
              go_simp
              (try simp only [])
              exact hK _ _ rfl (Below.refl _ _)
            · (intro v w1 K hb hF hK; (try simp at hF); simp at hK; (try simp only [hF] at hK); have hz := hb.size; (try simp at hz))
              go_simp
              (try simp only [])
              exact hK _ _ rfl (Below.refl _ _)
            · (intro v w1 K hb hF hK; (try simp at hF); simp at hK; (try simp only [hF] at hK); have hz := hb.size; (try simp at hz); (try (have hk := bcl hb (wo.heap.size) (by first | omega | (simp; done) | (simp; omega)); have hc := hk.1; have hf := hk.2.1; have hk := hk.2.2)); (try (have hk := bcl hb (w.heap.size) (by first | omega | (simp; done) | (simp; omega)); have hc := hk.1; have hf := hk.2.1; have hk := hk.2.2)))
              go_simp
              (try simp only [])
              exact hK _ _ rfl (Below.refl _ _)
            · (intro v w1 K hb hF hK; (try simp at hF); simp at hK; (try simp only [hF] at hK); have hz := hb.size; (try simp at hz); (try (have hk := bcl hb (wo.heap.size) (by first | omega | (simp; done) | (simp; omega)); have hc := hk.1; have hf := hk.2.1; have hk := hk.2.2)); (try (have hk := bcl hb (w.heap.size) (by first | omega | (simp; done) | (simp; omega)); have hc := hk.1; have hf := hk.2.1; have hk := hk.2.2)))
              go_simp
              (first | (go_at_call 35; (with_reducible refine (in_eq HIN.out _).mono ?_); rintro e w7 ⟨rfl, rfl⟩) | (go_at_call 36; (with_reducible refine (pointsValid_eq cr (HQ.out.below (by (repeat' (first | (with_reducible exact Below.refl _ _) | (with_reducible assumption) | (with_reducible refine Below.alloc ?_ ?_ _) | (with_reducible refine below_drewN ?_ _) | (with_reducible refine Below.drew ?_) | (with_reducible refine Below.setCell ?_ ?_ _) | (with_reducible refine below_call (by assumption) ?_ ?_) | (with_reducible refine below_grown (by assumption) ?_ ?_ ?_) | omega | (simp; done) | (simp; omega))))) hm12 HU.out).mono ?_); rintro e w7 ⟨rfl, hb7⟩) | skip)
              (try simp only [])
              exact hK _ _ rfl (by (repeat' (first | (with_reducible exact Below.refl _ _) | (with_reducible assumption) | (with_reducible refine Below.alloc ?_ ?_ _) | (with_reducible refine below_drewN ?_ _) | (with_reducible refine Below.drew ?_) | (with_reducible refine Below.setCell ?_ ?_ _) | (with_reducible refine below_call (by assumption) ?_ ?_) | go_size)))
            · (intro v w1 K hb hF hK; (try simp at hF); simp at hK; (try simp only [hF] at hK); have hz := hb.size; (try simp at hz))
              go_simp
              (try simp only [])
              exact hK _ _ rfl (Below.refl _ _)
            · (intro v w1 K hb hF hK; (try simp at hF); simp at hK; (try simp only [hF] at hK); have hz := hb.size; (try simp at hz))
              go_simp
              (try simp only [])
              exact hK _ _ rfl (Below.refl _ _)
            · (intro v w1 K hb hF hK; (try simp at hF); simp at hK; (try simp only [hF] at hK); have hz := hb.size; (try simp at hz))
              go_simp
              (try simp only [])
              exact hK _ _ rfl (Below.refl _ _)
            · (intro v w1 K hb hF hK; (try simp at hF); simp at hK; (try simp only [hF] at hK); have hz := hb.size; (try simp at hz))
              go_simp
              (try simp only [])
              exact hK _ _ rfl (Below.refl _ _)
            · (intro v w1 K hb hF hK; (try simp at hF); simp at hK; (try simp only [hF] at hK); have hz := hb.size; (try simp at hz))
              go_simp
              (try simp only [])
              exact hK _ _ rfl (Below.refl _ _)
            · (intro v w1 K hb hF hK; (try simp at hF); simp at hK; (try simp only [hF] at hK); have hz := hb.size; (try simp at hz))
              go_simp
              (try simp only [])
              exact hK _ _ rfl (Below.refl _ _)
            · (intro v w1 K hb hF hK; (try simp at hF); simp at hK; (try simp only [hF] at hK); have hz := hb.size; (try simp at hz); (try (have hk := bcl hb (wo.heap.size) (by first | omega | (simp; done) | (simp; omega)); have hc := hk.1; have hf := hk.2.1; have hk := hk.2.2)); (try (have hk := bcl hb (w.heap.size) (by first | omega | (simp; done) | (simp; omega)); have hc := hk.1; have hf := hk.2.1; have hk := hk.2.2)))
              go_simp
              (try simp only [])
              exact hK _ _ rfl (Below.refl _ _)
            · (intro v w1 K hb hF hK; (try simp at hF); simp at hK; (try simp only [hF] at hK); have hz := hb.size; (try simp at hz))
              go_simp
              (try simp only [])
              exact hK _ _ rfl (Below.refl _ _)
            · (intro v w1 K hb hF hK; (try simp at hF); simp at hK; (try simp only [hF] at hK); have hz := hb.size; (try simp at hz))
              go_simp
              (try simp only [])
              exact hK _ _ rfl (Below.refl _ _)
            · (intro v w1 K hb hF hK; (try simp at hF); simp at hK; (try simp only [hF] at hK); have hz := hb.size; (try simp at hz))
              go_simp
              (try simp only [])
              exact hK _ _ rfl (Below.refl _ _)
          case hfo => exact trivial
          (intro v w1 hb hF; simp [List.range, List.range.loop] at hF; have hz := hb.size; (try simp at hz); (try (have hk := bcl hb (wo.heap.size) (by first | omega | (simp; done) | (simp; omega)); have hc := hk.1; have hf := hk.2.1; have hk := hk.2.2)); (try (have hk := bcl hb (w.heap.size) (by first | omega | (simp; done) | (simp; omega)); have hc := hk.1; have hf := hk.2.1; have hk := hk.2.2)))
          obtain ⟨e0, e1, e2, e3, e4, e5, e6, e7, e8, e9, e10, e11, e12, e13, e14, e15, e16, e17, e18, e19, e20, e21, e22, e23, e24, e25, e26, e27, e28⟩ := hF
          simp only [List.length_cons, List.length_nil, List.drop_succ_cons, List.drop_zero, e0, e1, e2, e3, e4, e5, e6, e7, e8, e9, e10, e11, e12, e13, e14, e15, e16, e17, e18, e19, e20, e21, e22, e23, e24, e25, e26, e27, e28]
          clear e0 e1 e2 e3 e4 e5 e6 e7 e8 e9 e10 e11 e12 e13 e14 e15 e16 e17 e18 e19 e20 e21 e22 e23 e24 e25 e26 e27 e28 v
          go_wp2
          go_ret
          exact ⟨rfl, by (repeat' (first | (with_reducible exact Below.refl _ _) | (with_reducible assumption) | (with_reducible refine Below.alloc ?_ ?_ _) | (with_reducible refine below_drewN ?_ _) | (with_reducible refine Below.drew ?_) | (with_reducible refine Below.setCell ?_ ?_ _) | (with_reducible refine below_call (by assumption) ?_ ?_) | (with_reducible refine below_grown (by assumption) ?_ ?_ ?_) | omega | (simp; done) | (simp; omega)))⟩
        | true =>
          have hin := inB_true.1 HIN.out
          obtain ⟨q, rfl⟩ : ∃ q : Nat, kd = (q : Int) := ⟨kd.toNat, by omega⟩
          have hq5 : q < 5 := by omega
          have hq5i : (q : Int) < 5 := by omega
          have hlq := lit_at HLIT.out hq5
          by_cases hmv : m = manyV (q : Int)
          · have em3 : decide (m = manyV (q : Int)) = true := decide_eq_true hmv
            rw [em3, HIN.out] at HVK
            simp only [Bool.true_and] at HVK
            rw [← hmv] at hlq
            clear hmv em3
            cases u with
            | false =>
              simp only [Bool.false_and] at HVK
              have hv1 : v = false := by rw [← HV.out]; exact path_not (n := 0) (by rw [HL.out]; exact hlt) (by rw [HVK.out])
              subst hv1
              go_wp2_with fail
              apply wp_region_pure (by kernel_rfl) ([] :: [0] :: [1] :: [2] :: [3] :: [4] :: [4, 5] :: [4, 6] :: [4] :: [4] :: [4, 9] :: [4, 8, 10] :: [4, 11] :: [4, 7, 12] :: [4, 13] :: [14] :: [15] :: [15, 16] :: [15, 17] :: [15, 18] :: [15, 19] :: [20] :: [21] :: [21, 22] :: [23] :: [23, 24] :: [23, 25] :: [21, 23, 26] :: [21, 27] :: []) (RS.det [] _ :: RS.det [0] _ :: RS.det [1] _ :: RS.det [2] _ :: RS.det [3] _ :: RS.det [4] _ :: RS.det [4, 5] _ :: RS.det [4, 6] _ :: RS.det [4] _ :: RS.det [4] _ :: RS.det [4, 9] _ :: RS.det [4, 8, 10] _ :: RS.det [4, 11] _ :: RS.det [4, 7, 12] _ :: RS.det [4, 13] _ :: RS.det [14] _ :: RS.det [15] _ :: RS.det [15, 16] _ :: RS.det [15, 17] _ :: RS.det [15, 18] _ :: RS.det [15, 19] _ :: RS.det [20] _ :: RS.det [21] _ :: RS.det [21, 22] _ :: RS.det [23] _ :: RS.det [23, 24] _ :: RS.det [23, 25] _ :: RS.det [21, 23, 26] _ :: RS.det [21, 27] _ :: []) [] rfl (by kernel_rfl) (fun h => absurd rfl h) (by kernel_rfl) (by kernel_rfl) (st_det (st_det (st_det (st_det (st_det (st_det (st_det (st_det (st_det (st_det (st_det (st_det (st_det (st_det (st_det (st_det (st_det (st_det (st_det (st_det (st_det (st_det (st_det (st_det (st_det (st_det (st_det (st_det (st_det st_nil))))))))))))))))))))))))))))) _ (fun v => by simp; rfl)
              case hop =>
                simp only [Obls]
                refine ⟨?_, ?_, ?_, ?_, ?_, ?_, ?_, ?_, ?_, ?_, ?_, ?_, ?_, ?_, ?_, ?_, ?_, ?_, ?_, ?_, ?_, ?_, ?_, ?_, ?_, ?_, ?_, ?_, ?_, trivial⟩
                · (intro v w1 K hb hF hK; (try simp at hF); simp at hK; (try simp only [hF] at hK); have hz := hb.size; (try simp at hz))
                  go_simp
                  (try simp only [])
                  exact hK _ _ rfl (Below.refl _ _)
                · (intro v w1 K hb hF hK; (try simp at hF); simp at hK; (try simp only [hF] at hK); have hz := hb.size; (try simp at hz); (try (have hk := bcl hb (wo.heap.size) (by first | omega | (simp; done) | (simp; omega)); have hc := hk.1; have hf := hk.2.1; have hk := hk.2.2)); (try (have hk := bcl hb (w.heap.size) (by first | omega | (simp; done) | (simp; omega)); have hc := hk.1; have hf := hk.2.1; have hk := hk.2.2)))
                  go_simp
                  (try simp only [])
                  exact hK _ _ rfl (Below.refl _ _)
                · (intro v w1 K hb hF hK; (try simp at hF); simp at hK; (try simp only [hF] at hK); have hz := hb.size; (try simp at hz); (try (have hk := bcl hb (wo.heap.size) (by first | omega | (simp; done) | (simp; omega)); have hc := hk.1; have hf := hk.2.1; have hk := hk.2.2)); (try (have hk := bcl hb (w.heap.size) (by first | omega | (simp; done) | (simp; omega)); have hc := hk.1; have hf := hk.2.1; have hk := hk.2.2)))
                  go_simp
                  (first | (go_at_call 35; (with_reducible refine (in_eq HIN.out _).mono ?_); rintro e w7 ⟨rfl, rfl⟩) | (go_at_call 36; (with_reducible refine (pointsValid_eq cr (HQ.out.below (by (repeat' (first | (with_reducible exact Below.refl _ _) | (with_reducible assumption) | (with_reducible refine Below.alloc ?_ ?_ _) | (with_reducible refine below_drewN ?_ _) | (with_reducible refine Below.drew ?_) | (with_reducible refine Below.setCell ?_ ?_ _) | (with_reducible refine below_call (by assumption) ?_ ?_) | (with_reducible refine below_grown (by assumption) ?_ ?_ ?_) | omega | (simp; done) | (simp; omega))))) hm12 HU.out).mono ?_); rintro e w7 ⟨rfl, hb7⟩) | skip)
                  (try simp only [])
                  exact hK _ _ rfl (by (repeat' (first | (with_reducible exact Below.refl _ _) | (with_reducible assumption) | (with_reducible refine Below.alloc ?_ ?_ _) | (with_reducible refine below_drewN ?_ _) | (with_reducible refine Below.drew ?_) | (with_reducible refine Below.setCell ?_ ?_ _) | (with_reducible refine below_call (by assumption) ?_ ?_) | go_size)))
                · (intro v w1 K hb hF hK; (try simp at hF); simp at hK; (try simp only [hF] at hK); have hz := hb.size; (try simp at hz))
                  go_simp
                  (try simp only [])
                  exact hK _ _ rfl (Below.refl _ _)
                · (intro v w1 K hb hF hK; (try simp at hF); simp at hK; (try simp only [hF] at hK); have hz := hb.size; (try simp at hz))
                  go_simp
                  (try simp only [])
                  exact hK _ _ rfl (Below.refl _ _)
                · (intro v w1 K hb hF hK; (try simp at hF); simp at hK; (try simp only [hF] at hK); have hz := hb.size; (try simp at hz))
                  go_simp
                  (try simp only [])
                  exact hK _ _ rfl (Below.refl _ _)
                · (intro v w1 K hb hF hK; (try simp at hF); simp at hK; (try simp only [hF] at hK); have hz := hb.size; (try simp at hz); (try (have hk := bcl hb (wo.heap.size) (by first | omega | (simp; done) | (simp; omega)); have hc := hk.1; have hf := hk.2.1; have hk := hk.2.2)); (try (have hk := bcl hb (w.heap.size) (by first | omega | (simp; done) | (simp; omega)); have hc := hk.1; have hf := hk.2.1; have hk := hk.2.2)))
                  go_simp
                  (try simp only [])
                  exact hK _ _ rfl (Below.refl _ _)
                · (intro v w1 K hb hF hK; (try simp at hF); simp at hK; (try simp only [hF] at hK); have hz := hb.size; (try simp at hz))
                  go_simp
                  (try simp only [])
                  exact hK _ _ rfl (Below.refl _ _)
                · (intro v w1 K hb hF hK; (try simp at hF); simp at hK; (try simp only [hF] at hK); have hz := hb.size; (try simp at hz))
                  go_simp
                  (try simp only [])
                  exact hK _ _ rfl (Below.refl _ _)
                · (intro v w1 K hb hF hK; (try simp at hF); simp at hK; (try simp only [hF] at hK); have hz := hb.size; (try simp at hz))
                  go_simp
                  (try simp only [])
                  exact hK _ _ rfl (Below.refl _ _)
                · (intro v w1 K hb hF hK; (try simp at hF); simp at hK; (try simp only [hF] at hK); have hz := hb.size; (try simp at hz); (try (have hk := bcl hb (wo.heap.size) (by first | omega | (simp; done) | (simp; omega)); have hc := hk.1; have hf := hk.2.1; have hk := hk.2.2)); (try (have hk := bcl hb (w.heap.size) (by first | omega | (simp; done) | (simp; omega)); have hc := hk.1; have hf := hk.2.1; have hk := hk.2.2)))
                  go_simp
                  (try simp only [])
                  exact hK _ _ rfl (Below.refl _ _)
                · (intro v w1 K hb hF hK; (try simp at hF); simp at hK; (try simp only [hF] at hK); have hz := hb.size; (try simp at hz))
                  go_simp
                  (try simp only [])
                  exact hK _ _ rfl (Below.refl _ _)
                · (intro v w1 K hb hF hK; (try simp at hF); simp at hK; (try simp only [hF] at hK); have hz := hb.size; (try simp at hz); (try (have hk := bcl hb (wo.heap.size) (by first | omega | (simp; done) | (simp; omega)); have hc := hk.1; have hf := hk.2.1; have hk := hk.2.2)); (try (have hk := bcl hb (w.heap.size) (by first | omega | (simp; done) | (simp; omega)); have hc := hk.1; have hf := hk.2.1; have hk := hk.2.2)))
                  go_simp
                  (try simp only [])
                  exact hK _ _ rfl (Below.refl _ _)
                · (intro v w1 K hb hF hK; (try simp at hF); simp at hK; (try simp only [hF] at hK); have hz := hb.size; (try simp at hz))
                  go_simp
                  (try simp only [])
                  exact hK _ _ rfl (Below.refl _ _)
                · (intro v w1 K hb hF hK; (try simp at hF); simp at hK; (try simp only [hF] at hK); have hz := hb.size; (try simp at hz))
                  go_simp
                  (try simp only [])
                  exact hK _ _ rfl (Below.refl _ _)
                · (intro v w1 K hb hF hK; (try simp at hF); simp at hK; (try simp only [hF] at hK); have hz := hb.size; (try simp at hz))
                  go_simp
                  (try simp only [])
                  exact hK _ _ rfl (Below.refl _ _)
                · (intro v w1 K hb hF hK; (try simp at hF); simp at hK; (try simp only [hF] at hK); have hz := hb.size; (try simp at hz))
                  go_simp
                  (try simp only [])
                  exact hK _ _ rfl (Below.refl _ _)
                · (intro v w1 K hb hF hK; (try simp at hF); simp at hK; (try simp only [hF] at hK); have hz := hb.size; (try simp at hz); (try (have hk := bcl hb (wo.heap.size) (by first | omega | (simp; done) | (simp; omega)); have hc := hk.1; have hf := hk.2.1; have hk := hk.2.2)); (try (have hk := bcl hb (w.heap.size) (by first | omega | (simp; done) | (simp; omega)); have hc := hk.1; have hf := hk.2.1; have hk := hk.2.2)))
                  go_simp
                  (try simp only [])
                  exact hK _ _ rfl (Below.refl _ _)
                · (intro v w1 K hb hF hK; (try simp at hF); simp at hK; (try simp only [hF] at hK); have hz := hb.size; (try simp at hz); (try (have hk := bcl hb (wo.heap.size) (by first | omega | (simp; done) | (simp; omega)); have hc := hk.1; have hf := hk.2.1; have hk := hk.2.2)); (try (have hk := bcl hb (w.heap.size) (by first | omega | (simp; done) | (simp; omega)); have hc := hk.1; have hf := hk.2.1; have hk := hk.2.2)))
                  go_simp
                  (first | (go_at_call 35; (with_reducible refine (in_eq HIN.out _).mono ?_); rintro e w7 ⟨rfl, rfl⟩) | (go_at_call 36; (with_reducible refine (pointsValid_eq cr (HQ.out.below (by (repeat' (first | (with_reducible exact Below.refl _ _) | (with_reducible assumption) | (with_reducible refine Below.alloc ?_ ?_ _) | (with_reducible refine below_drewN ?_ _) | (with_reducible refine Below.drew ?_) | (with_reducible refine Below.setCell ?_ ?_ _) | (with_reducible refine below_call (by assumption) ?_ ?_) | (with_reducible refine below_grown (by assumption) ?_ ?_ ?_) | omega | (simp; done) | (simp; omega))))) hm12 HU.out).mono ?_); rintro e w7 ⟨rfl, hb7⟩) | skip)
                  (try simp only [])
                  exact hK _ _ rfl (by (repeat' (first | (with_reducible exact Below.refl _ _) | (with_reducible assumption) | (with_reducible refine Below.alloc ?_ ?_ _) | (with_reducible refine below_drewN ?_ _) | (with_reducible refine Below.drew ?_) | (with_reducible refine Below.setCell ?_ ?_ _) | (with_reducible refine below_call (by assumption) ?_ ?_) | go_size)))
                · (intro v w1 K hb hF hK; (try simp at hF); simp at hK; (try simp only [hF] at hK); have hz := hb.size; (try simp at hz))
                  go_simp
                  (try simp only [])
                  exact hK _ _ rfl (Below.refl _ _)
                · (intro v w1 K hb hF hK; (try simp at hF); simp at hK; (try simp only [hF] at hK); have hz := hb.size; (try simp at hz))
                  go_simp
                  (try simp only [])
                  exact hK _ _ rfl (Below.refl _ _)
                · (intro v w1 K hb hF hK; (try simp at hF); simp at hK; (try simp only [hF] at hK); have hz := hb.size; (try simp at hz))
                  go_simp
                  (try simp only [])
                  exact hK _ _ rfl (Below.refl _ _)
                · (intro v w1 K hb hF hK; (try simp at hF); simp at hK; (try simp only [hF] at hK); have hz := hb.size; (try simp at hz))
                  go_simp
                  (try simp only [])
                  exact hK _ _ rfl (Below.refl _ _)
                · (intro v w1 K hb hF hK; (try simp at hF); simp at hK; (try simp only [hF] at hK); have hz := hb.size; (try simp at hz))
                  go_simp
                  (try simp only [])
                  exact hK _ _ rfl (Below.refl _ _)
                · (intro v w1 K hb hF hK; (try simp at hF); simp at hK; (try simp only [hF] at hK); have hz := hb.size; (try simp at hz))
                  go_simp
                  (try simp only [])
                  exact hK _ _ rfl (Below.refl _ _)
                · (intro v w1 K hb hF hK; (try simp at hF); simp at hK; (try simp only [hF] at hK); have hz := hb.size; (try simp at hz); (try (have hk := bcl hb (wo.heap.size) (by first | omega | (simp; done) | (simp; omega)); have hc := hk.1; have hf := hk.2.1; have hk := hk.2.2)); (try (have hk := bcl hb (w.heap.size) (by first | omega | (simp; done) | (simp; omega)); have hc := hk.1; have hf := hk.2.1; have hk := hk.2.2)))
                  go_simp
                  (try simp only [])
                  exact hK _ _ rfl (Below.refl _ _)
                · (intro v w1 K hb hF hK; (try simp at hF); simp at hK; (try simp only [hF] at hK); have hz := hb.size; (try simp at hz))
                  go_simp
                  (try simp only [])
                  exact hK _ _ rfl (Below.refl _ _)
                · (intro v w1 K hb hF hK; (try simp at hF); simp at hK; (try simp only [hF] at hK); have hz := hb.size; (try simp at hz))
                  go_simp
                  (try simp only [])
                  exact hK _ _ rfl (Below.refl _ _)
                · (intro v w1 K hb hF hK; (try simp at hF); simp at hK; (try simp only [hF] at hK); have hz := hb.size; (try simp at hz))
                  go_simp
                  (try simp only [])
                  exact hK _ _ rfl (Below.refl _ _)
              case hfo => exact trivial
              (intro v w1 hb hF; simp [List.range, List.range.loop] at hF; have hz := hb.size; (try simp at hz); (try (have hk := bcl hb (wo.heap.size) (by first | omega | (simp; done) | (simp; omega)); have hc := hk.1; have hf := hk.2.1; have hk := hk.2.2)); (try (have hk := bcl hb (w.heap.size) (by first | omega | (simp; done) | (simp; omega)); have hc := hk.1; have hf := hk.2.1; have hk := hk.2.2)))
              obtain ⟨e0, e1, e2, e3, e4, e5, e6, e7, e8, e9, e10, e11, e12, e13, e14, e15, e16, e17, e18, e19, e20, e21, e22, e23, e24, e25, e26, e27, e28⟩ := hF
              simp only [List.length_cons, List.length_nil, List.drop_succ_cons, List.drop_zero, e0, e1, e2, e3, e4, e5, e6, e7, e8, e9, e10, e11, e12, e13, e14, e15, e16, e17, e18, e19, e20, e21, e22, e23, e24, e25, e26, e27, e28]
              clear e0 e1 e2 e3 e4 e5 e6 e7 e8 e9 e10 e11 e12 e13 e14 e15 e16 e17 e18 e19 e20 e21 e22 e23 e24 e25 e26 e27 e28 v
              go_wp2
              go_ret
              exact ⟨rfl, by (repeat' (first | (with_reducible exact Below.refl _ _) | (with_reducible assumption) | (with_reducible refine Below.alloc ?_ ?_ _) | (with_reducible refine below_drewN ?_ _) | (with_reducible refine Below.drew ?_) | (with_reducible refine Below.setCell ?_ ?_ _) | (with_reducible refine below_call (by assumption) ?_ ?_) | (with_reducible refine below_grown (by assumption) ?_ ?_ ?_) | omega | (simp; done) | (simp; omega)))⟩
            | true =>
              simp only [Bool.true_and] at HVK
              by_cases hq0 : q = 0
              · subst hq0
                have HOK : Hid (verbOk L 0 = true) := Lib.hid (by rw [HVK.out]; rfl)
                rw [show ((0 : Nat) : Int) = 0 from rfl] at x0 HIN
                clear hin hq5 hq5i
                go_wp2_with fail
                apply wp_region_pure (by kernel_rfl) ([] :: [0] :: [1] :: [2] :: [3] :: [4] :: [4, 5] :: [4, 6] :: [4] :: [4] :: [4, 9] :: [4, 8, 10] :: [4, 11] :: [4, 7, 12] :: [4, 13] :: [14] :: [15] :: [15, 16] :: [15, 17] :: [15, 18] :: [15, 19] :: [20] :: [21] :: [21, 22] :: [23] :: [23, 24] :: [23, 25] :: [21, 23, 26] :: [21, 27] :: []) (RS.det [] _ :: RS.det [0] _ :: RS.det [1] _ :: RS.det [2] _ :: RS.det [3] _ :: RS.det [4] _ :: RS.det [4, 5] _ :: RS.det [4, 6] _ :: RS.det [4] _ :: RS.det [4] _ :: RS.det [4, 9] _ :: RS.det [4, 8, 10] _ :: RS.det [4, 11] _ :: RS.det [4, 7, 12] _ :: RS.det [4, 13] _ :: RS.det [14] _ :: RS.det [15] _ :: RS.det [15, 16] _ :: RS.det [15, 17] _ :: RS.det [15, 18] _ :: RS.det [15, 19] _ :: RS.det [20] _ :: RS.det [21] _ :: RS.det [21, 22] _ :: RS.det [23] _ :: RS.det [23, 24] _ :: RS.det [23, 25] _ :: RS.det [21, 23, 26] _ :: RS.det [21, 27] _ :: []) [] rfl (by kernel_rfl) (fun h => absurd rfl h) (by kernel_rfl) (by kernel_rfl) (st_det (st_det (st_det (st_det (st_det (st_det (st_det (st_det (st_det (st_det (st_det (st_det (st_det (st_det (st_det (st_det (st_det (st_det (st_det (st_det (st_det (st_det (st_det (st_det (st_det (st_det (st_det (st_det (st_det st_nil))))))))))))))))))))))))))))) _ (fun v => by simp; rfl)
                case hop =>
                  simp only [Obls]
                  refine ⟨?_, ?_, ?_, ?_, ?_, ?_, ?_, ?_, ?_, ?_, ?_, ?_, ?_, ?_, ?_, ?_, ?_, ?_, ?_, ?_, ?_, ?_, ?_, ?_, ?_, ?_, ?_, ?_, ?_, trivial⟩
                  · (intro v w1 K hb hF hK; (try simp at hF); simp at hK; (try simp only [hF] at hK); have hz := hb.size; (try simp at hz))
                    go_simp
                    (try simp only [])
                    exact hK _ _ rfl (Below.refl _ _)
                  · (intro v w1 K hb hF hK; (try simp at hF); simp at hK; (try simp only [hF] at hK); have hz := hb.size; (try simp at hz); (try (have hk := bcl hb (wo.heap.size) (by first | omega | (simp; done) | (simp; omega)); have hc := hk.1; have hf := hk.2.1; have hk := hk.2.2)); (try (have hk := bcl hb (w.heap.size) (by first | omega | (simp; done) | (simp; omega)); have hc := hk.1; have hf := hk.2.1; have hk := hk.2.2)))
                    go_simp
                    (try simp only [])
                    exact hK _ _ rfl (Below.refl _ _)
                  · (intro v w1 K hb hF hK; (try simp at hF); simp at hK; (try simp only [hF] at hK); have hz := hb.size; (try simp at hz); (try (have hk := bcl hb (wo.heap.size) (by first | omega | (simp; done) | (simp; omega)); have hc := hk.1; have hf := hk.2.1; have hk := hk.2.2)); (try (have hk := bcl hb (w.heap.size) (by first | omega | (simp; done) | (simp; omega)); have hc := hk.1; have hf := hk.2.1; have hk := hk.2.2)))
                    go_simp
                    (first | (go_at_call 35; (with_reducible refine (in_eq HIN.out _).mono ?_); rintro e w7 ⟨rfl, rfl⟩) | (go_at_call 36; (with_reducible refine (pointsValid_eq cr (HQ.out.below (by (repeat' (first | (with_reducible exact Below.refl _ _) | (with_reducible assumption) | (with_reducible refine Below.alloc ?_ ?_ _) | (with_reducible refine below_drewN ?_ _) | (with_reducible refine Below.drew ?_) | (with_reducible refine Below.setCell ?_ ?_ _) | (with_reducible refine below_call (by assumption) ?_ ?_) | (with_reducible refine below_grown (by assumption) ?_ ?_ ?_) | omega | (simp; done) | (simp; omega))))) hm12 HU.out).mono ?_); rintro e w7 ⟨rfl, hb7⟩) | skip)
                    (try simp only [])
                    exact hK _ _ rfl (by (repeat' (first | (with_reducible exact Below.refl _ _) | (with_reducible assumption) | (with_reducible refine Below.alloc ?_ ?_ _) | (with_reducible refine below_drewN ?_ _) | (with_reducible refine Below.drew ?_) | (with_reducible refine Below.setCell ?_ ?_ _) | (with_reducible refine below_call (by assumption) ?_ ?_) | go_size)))
                  · (intro v w1 K hb hF hK; (try simp at hF); simp at hK; (try simp only [hF] at hK); have hz := hb.size; (try simp at hz))
                    go_simp
                    (try simp only [])
                    exact hK _ _ rfl (Below.refl _ _)
                  · (intro v w1 K hb hF hK; (try simp at hF); simp at hK; (try simp only [hF] at hK); have hz := hb.size; (try simp at hz))
                    go_simp
                    (try simp only [])
                    exact hK _ _ rfl (Below.refl _ _)
                  · (intro v w1 K hb hF hK; (try simp at hF); simp at hK; (try simp only [hF] at hK); have hz := hb.size; (try simp at hz))
                    go_simp
                    (try simp only [])
                    exact hK _ _ rfl (Below.refl _ _)
                  · (intro v w1 K hb hF hK; (try simp at hF); simp at hK; (try simp only [hF] at hK); have hz := hb.size; (try simp at hz); (try (have hk := bcl hb (wo.heap.size) (by first | omega | (simp; done) | (simp; omega)); have hc := hk.1; have hf := hk.2.1; have hk := hk.2.2)); (try (have hk := bcl hb (w.heap.size) (by first | omega | (simp; done) | (simp; omega)); have hc := hk.1; have hf := hk.2.1; have hk := hk.2.2)))
                    go_simp
                    (try simp only [])
                    exact hK _ _ rfl (Below.refl _ _)
                  · (intro v w1 K hb hF hK; (try simp at hF); simp at hK; (try simp only [hF] at hK); have hz := hb.size; (try simp at hz))
                    go_simp
                    (try simp only [])
                    exact hK _ _ rfl (Below.refl _ _)
                  · (intro v w1 K hb hF hK; (try simp at hF); simp at hK; (try simp only [hF] at hK); have hz := hb.size; (try simp at hz))
                    go_simp
                    (try simp only [])
                    exact hK _ _ rfl (Below.refl _ _)
                  · (intro v w1 K hb hF hK; (try simp at hF); simp at hK; (try simp only [hF] at hK); have hz := hb.size; (try simp at hz))
                    go_simp
                    (try simp only [])
                    exact hK _ _ rfl (Below.refl _ _)
                  · (intro v w1 K hb hF hK; (try simp at hF); simp at hK; (try simp only [hF] at hK); have hz := hb.size; (try simp at hz); (try (have hk := bcl hb (wo.heap.size) (by first | omega | (simp; done) | (simp; omega)); have hc := hk.1; have hf := hk.2.1; have hk := hk.2.2)); (try (have hk := bcl hb (w.heap.size) (by first | omega | (simp; done) | (simp; omega)); have hc := hk.1; have hf := hk.2.1; have hk := hk.2.2)))
                    go_simp
                    (try simp only [])
                    exact hK _ _ rfl (Below.refl _ _)
                  · (intro v w1 K hb hF hK; (try simp at hF); simp at hK; (try simp only [hF] at hK); have hz := hb.size; (try simp at hz))
                    go_simp
                    (try simp only [])
                    exact hK _ _ rfl (Below.refl _ _)
                  · (intro v w1 K hb hF hK; (try simp at hF); simp at hK; (try simp only [hF] at hK); have hz := hb.size; (try simp at hz); (try (have hk := bcl hb (wo.heap.size) (by first | omega | (simp; done) | (simp; omega)); have hc := hk.1; have hf := hk.2.1; have hk := hk.2.2)); (try (have hk := bcl hb (w.heap.size) (by first | omega | (simp; done) | (simp; omega)); have hc := hk.1; have hf := hk.2.1; have hk := hk.2.2)))
                    go_simp
                    (try simp only [])
                    exact hK _ _ rfl (Below.refl _ _)
                  · (intro v w1 K hb hF hK; (try simp at hF); simp at hK; (try simp only [hF] at hK); have hz := hb.size; (try simp at hz))
                    go_simp
                    (try simp only [])
                    exact hK _ _ rfl (Below.refl _ _)
                  · (intro v w1 K hb hF hK; (try simp at hF); simp at hK; (try simp only [hF] at hK); have hz := hb.size; (try simp at hz))
                    go_simp
                    (try simp only [])
                    exact hK _ _ rfl (Below.refl _ _)
                  · (intro v w1 K hb hF hK; (try simp at hF); simp at hK; (try simp only [hF] at hK); have hz := hb.size; (try simp at hz))
                    go_simp
                    (try simp only [])
                    exact hK _ _ rfl (Below.refl _ _)
                  · (intro v w1 K hb hF hK; (try simp at hF); simp at hK; (try simp only [hF] at hK); have hz := hb.size; (try simp at hz))
                    go_simp
                    (try simp only [])
                    exact hK _ _ rfl (Below.refl _ _)
                  · (intro v w1 K hb hF hK; (try simp at hF); simp at hK; (try simp only [hF] at hK); have hz := hb.size; (try simp at hz); (try (have hk := bcl hb (wo.heap.size) (by first | omega | (simp; done) | (simp; omega)); have hc := hk.1; have hf := hk.2.1; have hk := hk.2.2)); (try (have hk := bcl hb (w.heap.size) (by first | omega | (simp; done) | (simp; omega)); have hc := hk.1; have hf := hk.2.1; have hk := hk.2.2)))
                    go_simp
                    (try simp only [])
                    exact hK _ _ rfl (Below.refl _ _)
                  · (intro v w1 K hb hF hK; (try simp at hF); simp at hK; (try simp only [hF] at hK); have hz := hb.size; (try simp at hz); (try (have hk := bcl hb (wo.heap.size) (by first | omega | (simp; done) | (simp; omega)); have hc := hk.1; have hf := hk.2.1; have hk := hk.2.2)); (try (have hk := bcl hb (w.heap.size) (by first | omega | (simp; done) | (simp; omega)); have hc := hk.1; have hf := hk.2.1; have hk := hk.2.2)))
                    go_simp
                    (first | (go_at_call 35; (with_reducible refine (in_eq HIN.out _).mono ?_); rintro e w7 ⟨rfl, rfl⟩) | (go_at_call 36; (with_reducible refine (pointsValid_eq cr (HQ.out.below (by (repeat' (first | (with_reducible exact Below.refl _ _) | (with_reducible assumption) | (with_reducible refine Below.alloc ?_ ?_ _) | (with_reducible refine below_drewN ?_ _) | (with_reducible refine Below.drew ?_) | (with_reducible refine Below.setCell ?_ ?_ _) | (with_reducible refine below_call (by assumption) ?_ ?_) | (with_reducible refine below_grown (by assumption) ?_ ?_ ?_) | omega | (simp; done) | (simp; omega))))) hm12 HU.out).mono ?_); rintro e w7 ⟨rfl, hb7⟩) | skip)
                    (try simp only [])
                    exact hK _ _ rfl (by (repeat' (first | (with_reducible exact Below.refl _ _) | (with_reducible assumption) | (with_reducible refine Below.alloc ?_ ?_ _) | (with_reducible refine below_drewN ?_ _) | (with_reducible refine Below.drew ?_) | (with_reducible refine Below.setCell ?_ ?_ _) | (with_reducible refine below_call (by assumption) ?_ ?_) | go_size)))
                  · (intro v w1 K hb hF hK; (try simp at hF); simp at hK; (try simp only [hF] at hK); have hz := hb.size; (try simp at hz))
                    go_simp
                    (try simp only [])
                    exact hK _ _ rfl (Below.refl _ _)
                  · (intro v w1 K hb hF hK; (try simp at hF); simp at hK; (try simp only [hF] at hK); have hz := hb.size; (try simp at hz))
                    go_simp
                    (try simp only [])
                    exact hK _ _ rfl (Below.refl _ _)
                  · (intro v w1 K hb hF hK; (try simp at hF); simp at hK; (try simp only [hF] at hK); have hz := hb.size; (try simp at hz))
                    go_simp
                    (try simp only [])
                    exact hK _ _ rfl (Below.refl _ _)
                  · (intro v w1 K hb hF hK; (try simp at hF); simp at hK; (try simp only [hF] at hK); have hz := hb.size; (try simp at hz))
                    go_simp
                    (try simp only [])
                    exact hK _ _ rfl (Below.refl _ _)
                  · (intro v w1 K hb hF hK; (try simp at hF); simp at hK; (try simp only [hF] at hK); have hz := hb.size; (try simp at hz))
                    go_simp
                    (try simp only [])
                    exact hK _ _ rfl (Below.refl _ _)
                  · (intro v w1 K hb hF hK; (try simp at hF); simp at hK; (try simp only [hF] at hK); have hz := hb.size; (try simp at hz))
                    go_simp
                    (try simp only [])
                    exact hK _ _ rfl (Below.refl _ _)
                  · (intro v w1 K hb hF hK; (try simp at hF); simp at hK; (try simp only [hF] at hK); have hz := hb.size; (try simp at hz); (try (have hk := bcl hb (wo.heap.size) (by first | omega | (simp; done) | (simp; omega)); have hc := hk.1; have hf := hk.2.1; have hk := hk.2.2)); (try (have hk := bcl hb (w.heap.size) (by first | omega | (simp; done) | (simp; omega)); have hc := hk.1; have hf := hk.2.1; have hk := hk.2.2)))
                    go_simp
                    (try simp only [])
                    exact hK _ _ rfl (Below.refl _ _)
                  · (intro v w1 K hb hF hK; (try simp at hF); simp at hK; (try simp only [hF] at hK); have hz := hb.size; (try simp at hz))
                    go_simp
                    (try simp only [])
                    exact hK _ _ rfl (Below.refl _ _)
                  · (intro v w1 K hb hF hK; (try simp at hF); simp at hK; (try simp only [hF] at hK); have hz := hb.size; (try simp at hz))
                    go_simp
                    (try simp only [])
                    exact hK _ _ rfl (Below.refl _ _)
                  · (intro v w1 K hb hF hK; (try simp at hF); simp at hK; (try simp only [hF] at hK); have hz := hb.size; (try simp at hz))
                    go_simp
                    (try simp only [])
                    exact hK _ _ rfl (Below.refl _ _)
                case hfo => exact trivial
                (intro v w1 hb hF; simp [List.range, List.range.loop] at hF; have hz := hb.size; (try simp at hz); (try (have hk := bcl hb (wo.heap.size) (by first | omega | (simp; done) | (simp; omega)); have hc := hk.1; have hf := hk.2.1; have hk := hk.2.2)); (try (have hk := bcl hb (w.heap.size) (by first | omega | (simp; done) | (simp; omega)); have hc := hk.1; have hf := hk.2.1; have hk := hk.2.2)))
                obtain ⟨e0, e1, e2, e3, e4, e5, e6, e7, e8, e9, e10, e11, e12, e13, e14, e15, e16, e17, e18, e19, e20, e21, e22, e23, e24, e25, e26, e27, e28⟩ := hF
                simp only [List.length_cons, List.length_nil, List.drop_succ_cons, List.drop_zero, e0, e1, e2, e3, e4, e5, e6, e7, e8, e9, e10, e11, e12, e13, e14, e15, e16, e17, e18, e19, e20, e21, e22, e23, e24, e25, e26, e27, e28]
                clear e0 e1 e2 e3 e4 e5 e6 e7 e8 e9 e10 e11 e12 e13 e14 e15 e16 e17 e18 e19 e20 e21 e22 e23 e24 e25 e26 e27 e28 v
                go_wp2
                go_roundw
                case rel => exact ⟨0 + 1, by omega, by go_num, by rw [HST.out, Int.natCast_add], by simp only [verbsOk, HVO.out, HOK.out, Bool.and_self], blk_below (blk_alloc HLIT.out _) hb, by (repeat' (first | (with_reducible exact Below.refl _ _) | (with_reducible assumption) | (with_reducible refine Below.alloc ?_ ?_ _) | (with_reducible refine below_drewN ?_ _) | (with_reducible refine Below.drew ?_) | (with_reducible refine Below.setCell ?_ ?_ _) | (with_reducible refine below_call (by assumption) ?_ ?_) | (with_reducible refine below_grown (by assumption) ?_ ?_ ?_) | omega | (simp; done) | (simp; omega)))⟩
                case measure => simp [intOf]; omega
              · have hqi : ¬ (q : Int) = 0 := by omega
                have e0 : decide ((q : Int) = 0) = false := decide_eq_false (by omega)
                have e1 : ((q : Int) == 0) = false := by simp; omega
                have e2 : decide (q = 0) = false := decide_eq_false hq0
                have e3 : (q == 0) = false := by simp [hq0]
                have HOK : Hid (verbOk L 0 = false) := Lib.hid (by rw [HVK.out]; simp; exact hq0)
                have hv1 : v = false := by rw [← HV.out]; exact path_not (n := 0) (by rw [HL.out]; exact hlt) HOK.out
                subst hv1
                go_wp2_with fail
                apply wp_region_pure (by kernel_rfl) ([] :: [0] :: [1] :: [2] :: [3] :: [4] :: [4, 5] :: [4, 6] :: [4] :: [4] :: [4, 9] :: [4, 8, 10] :: [4, 11] :: [4, 7, 12] :: [4, 13] :: [14] :: [15] :: [15, 16] :: [15, 17] :: [15, 18] :: [15, 19] :: [20] :: [21] :: [21, 22] :: [23] :: [23, 24] :: [23, 25] :: [21, 23, 26] :: [21, 27] :: []) (RS.det [] _ :: RS.det [0] _ :: RS.det [1] _ :: RS.det [2] _ :: RS.det [3] _ :: RS.det [4] _ :: RS.det [4, 5] _ :: RS.det [4, 6] _ :: RS.det [4] _ :: RS.det [4] _ :: RS.det [4, 9] _ :: RS.det [4, 8, 10] _ :: RS.det [4, 11] _ :: RS.det [4, 7, 12] _ :: RS.det [4, 13] _ :: RS.det [14] _ :: RS.det [15] _ :: RS.det [15, 16] _ :: RS.det [15, 17] _ :: RS.det [15, 18] _ :: RS.det [15, 19] _ :: RS.det [20] _ :: RS.det [21] _ :: RS.det [21, 22] _ :: RS.det [23] _ :: RS.det [23, 24] _ :: RS.det [23, 25] _ :: RS.det [21, 23, 26] _ :: RS.det [21, 27] _ :: []) [] rfl (by kernel_rfl) (fun h => absurd rfl h) (by kernel_rfl) (by kernel_rfl) (st_det (st_det (st_det (st_det (st_det (st_det (st_det (st_det (st_det (st_det (st_det (st_det (st_det (st_det (st_det (st_det (st_det (st_det (st_det (st_det (st_det (st_det (st_det (st_det (st_det (st_det (st_det (st_det (st_det st_nil))))))))))))))))))))))))))))) _ (fun v => by simp; rfl)
                case hop =>
                  simp only [Obls]
                  refine ⟨?_, ?_, ?_, ?_, ?_, ?_, ?_, ?_, ?_, ?_, ?_, ?_, ?_, ?_, ?_, ?_, ?_, ?_, ?_, ?_, ?_, ?_, ?_, ?_, ?_, ?_, ?_, ?_, ?_, trivial⟩
                  · (intro v w1 K hb hF hK; (try simp at hF); simp at hK; (try simp only [hF] at hK); have hz := hb.size; (try simp at hz))
                    go_simp
                    (try simp only [])
                    exact hK _ _ rfl (Below.refl _ _)
                  · (intro v w1 K hb hF hK; (try simp at hF); simp at hK; (try simp only [hF] at hK); have hz := hb.size; (try simp at hz); (try (have hk := bcl hb (wo.heap.size) (by first | omega | (simp; done) | (simp; omega)); have hc := hk.1; have hf := hk.2.1; have hk := hk.2.2)); (try (have hk := bcl hb (w.heap.size) (by first | omega | (simp; done) | (simp; omega)); have hc := hk.1; have hf := hk.2.1; have hk := hk.2.2)))
                    go_simp
                    (try simp only [])
                    exact hK _ _ rfl (Below.refl _ _)
                  · (intro v w1 K hb hF hK; (try simp at hF); simp at hK; (try simp only [hF] at hK); have hz := hb.size; (try simp at hz); (try (have hk := bcl hb (wo.heap.size) (by first | omega | (simp; done) | (simp; omega)); have hc := hk.1; have hf := hk.2.1; have hk := hk.2.2)); (try (have hk := bcl hb (w.heap.size) (by first | omega | (simp; done) | (simp; omega)); have hc := hk.1; have hf := hk.2.1; have hk := hk.2.2)))
                    go_simp
                    (first | (go_at_call 35; (with_reducible refine (in_eq HIN.out _).mono ?_); rintro e w7 ⟨rfl, rfl⟩) | (go_at_call 36; (with_reducible refine (pointsValid_eq cr (HQ.out.below (by (repeat' (first | (with_reducible exact Below.refl _ _) | (with_reducible assumption) | (with_reducible refine Below.alloc ?_ ?_ _) | (with_reducible refine below_drewN ?_ _) | (with_reducible refine Below.drew ?_) | (with_reducible refine Below.setCell ?_ ?_ _) | (with_reducible refine below_call (by assumption) ?_ ?_) | (with_reducible refine below_grown (by assumption) ?_ ?_ ?_) | omega | (simp; done) | (simp; omega))))) hm12 HU.out).mono ?_); rintro e w7 ⟨rfl, hb7⟩) | skip)
                    (try simp only [])
                    exact hK _ _ rfl (by (repeat' (first | (with_reducible exact Below.refl _ _) | (with_reducible assumption) | (with_reducible refine Below.alloc ?_ ?_ _) | (with_reducible refine below_drewN ?_ _) | (with_reducible refine Below.drew ?_) | (with_reducible refine Below.setCell ?_ ?_ _) | (with_reducible refine below_call (by assumption) ?_ ?_) | go_size)))
                  · (intro v w1 K hb hF hK; (try simp at hF); simp at hK; (try simp only [hF] at hK); have hz := hb.size; (try simp at hz))
                    go_simp
                    (try simp only [])
                    exact hK _ _ rfl (Below.refl _ _)
                  · (intro v w1 K hb hF hK; (try simp at hF); simp at hK; (try simp only [hF] at hK); have hz := hb.size; (try simp at hz))
                    go_simp
                    (try simp only [])
                    exact hK _ _ rfl (Below.refl _ _)
                  · (intro v w1 K hb hF hK; (try simp at hF); simp at hK; (try simp only [hF] at hK); have hz := hb.size; (try simp at hz))
                    go_simp
                    (try simp only [])
                    exact hK _ _ rfl (Below.refl _ _)
                  · (intro v w1 K hb hF hK; (try simp at hF); simp at hK; (try simp only [hF] at hK); have hz := hb.size; (try simp at hz); (try (have hk := bcl hb (wo.heap.size) (by first | omega | (simp; done) | (simp; omega)); have hc := hk.1; have hf := hk.2.1; have hk := hk.2.2)); (try (have hk := bcl hb (w.heap.size) (by first | omega | (simp; done) | (simp; omega)); have hc := hk.1; have hf := hk.2.1; have hk := hk.2.2)))
                    go_simp
                    (try simp only [])
                    exact hK _ _ rfl (Below.refl _ _)
                  · (intro v w1 K hb hF hK; (try simp at hF); simp at hK; (try simp only [hF] at hK); have hz := hb.size; (try simp at hz))
                    go_simp
                    (try simp only [])
                    exact hK _ _ rfl (Below.refl _ _)
                  · (intro v w1 K hb hF hK; (try simp at hF); simp at hK; (try simp only [hF] at hK); have hz := hb.size; (try simp at hz))
                    go_simp
                    (try simp only [])
                    exact hK _ _ rfl (Below.refl _ _)
                  · (intro v w1 K hb hF hK; (try simp at hF); simp at hK; (try simp only [hF] at hK); have hz := hb.size; (try simp at hz))
                    go_simp
                    (try simp only [])
                    exact hK _ _ rfl (Below.refl _ _)
                  · (intro v w1 K hb hF hK; (try simp at hF); simp at hK; (try simp only [hF] at hK); have hz := hb.size; (try simp at hz); (try (have hk := bcl hb (wo.heap.size) (by first | omega | (simp; done) | (simp; omega)); have hc := hk.1; have hf := hk.2.1; have hk := hk.2.2)); (try (have hk := bcl hb (w.heap.size) (by first | omega | (simp; done) | (simp; omega)); have hc := hk.1; have hf := hk.2.1; have hk := hk.2.2)))
                    go_simp
                    (try simp only [])
                    exact hK _ _ rfl (Below.refl _ _)
                  · (intro v w1 K hb hF hK; (try simp at hF); simp at hK; (try simp only [hF] at hK); have hz := hb.size; (try simp at hz))
                    go_simp
                    (try simp only [])
                    exact hK _ _ rfl (Below.refl _ _)
                  · (intro v w1 K hb hF hK; (try simp at hF); simp at hK; (try simp only [hF] at hK); have hz := hb.size; (try simp at hz); (try (have hk := bcl hb (wo.heap.size) (by first | omega | (simp; done) | (simp; omega)); have hc := hk.1; have hf := hk.2.1; have hk := hk.2.2)); (try (have hk := bcl hb (w.heap.size) (by first | omega | (simp; done) | (simp; omega)); have hc := hk.1; have hf := hk.2.1; have hk := hk.2.2)))
                    go_simp
                    (try simp only [])
                    exact hK _ _ rfl (Below.refl _ _)
                  · (intro v w1 K hb hF hK; (try simp at hF); simp at hK; (try simp only [hF] at hK); have hz := hb.size; (try simp at hz))
                    go_simp
                    (try simp only [])
                    exact hK _ _ rfl (Below.refl _ _)
                  · (intro v w1 K hb hF hK; (try simp at hF); simp at hK; (try simp only [hF] at hK); have hz := hb.size; (try simp at hz))
                    go_simp
                    (try simp only [])
                    exact hK _ _ rfl (Below.refl _ _)
                  · (intro v w1 K hb hF hK; (try simp at hF); simp at hK; (try simp only [hF] at hK); have hz := hb.size; (try simp at hz))
                    go_simp
                    (try simp only [])
                    exact hK _ _ rfl (Below.refl _ _)
                  · (intro v w1 K hb hF hK; (try simp at hF); simp at hK; (try simp only [hF] at hK); have hz := hb.size; (try simp at hz))
                    go_simp
                    (try simp only [])
                    exact hK _ _ rfl (Below.refl _ _)
                  · (intro v w1 K hb hF hK; (try simp at hF); simp at hK; (try simp only [hF] at hK); have hz := hb.size; (try simp at hz); (try (have hk := bcl hb (wo.heap.size) (by first | omega | (simp; done) | (simp; omega)); have hc := hk.1; have hf := hk.2.1; have hk := hk.2.2)); (try (have hk := bcl hb (w.heap.size) (by first | omega | (simp; done) | (simp; omega)); have hc := hk.1; have hf := hk.2.1; have hk := hk.2.2)))
                    go_simp
                    (try simp only [])
                    exact hK _ _ rfl (Below.refl _ _)
                  · (intro v w1 K hb hF hK; (try simp at hF); simp at hK; (try simp only [hF] at hK); have hz := hb.size; (try simp at hz); (try (have hk := bcl hb (wo.heap.size) (by first | omega | (simp; done) | (simp; omega)); have hc := hk.1; have hf := hk.2.1; have hk := hk.2.2)); (try (have hk := bcl hb (w.heap.size) (by first | omega | (simp; done) | (simp; omega)); have hc := hk.1; have hf := hk.2.1; have hk := hk.2.2)))
                    go_simp
                    (first | (go_at_call 35; (with_reducible refine (in_eq HIN.out _).mono ?_); rintro e w7 ⟨rfl, rfl⟩) | (go_at_call 36; (with_reducible refine (pointsValid_eq cr (HQ.out.below (by (repeat' (first | (with_reducible exact Below.refl _ _) | (with_reducible assumption) | (with_reducible refine Below.alloc ?_ ?_ _) | (with_reducible refine below_drewN ?_ _) | (with_reducible refine Below.drew ?_) | (with_reducible refine Below.setCell ?_ ?_ _) | (with_reducible refine below_call (by assumption) ?_ ?_) | (with_reducible refine below_grown (by assumption) ?_ ?_ ?_) | omega | (simp; done) | (simp; omega))))) hm12 HU.out).mono ?_); rintro e w7 ⟨rfl, hb7⟩) | skip)
                    (try simp only [])
                    exact hK _ _ rfl (by (repeat' (first | (with_reducible exact Below.refl _ _) | (with_reducible assumption) | (with_reducible refine Below.alloc ?_ ?_ _) | (with_reducible refine below_drewN ?_ _) | (with_reducible refine Below.drew ?_) | (with_reducible refine Below.setCell ?_ ?_ _) | (with_reducible refine below_call (by assumption) ?_ ?_) | go_size)))
                  · (intro v w1 K hb hF hK; (try simp at hF); simp at hK; (try simp only [hF] at hK); have hz := hb.size; (try simp at hz))
                    go_simp
                    (try simp only [])
                    exact hK _ _ rfl (Below.refl _ _)
                  · (intro v w1 K hb hF hK; (try simp at hF); simp at hK; (try simp only [hF] at hK); have hz := hb.size; (try simp at hz))
                    go_simp
                    (try simp only [])
                    exact hK _ _ rfl (Below.refl _ _)
                  · (intro v w1 K hb hF hK; (try simp at hF); simp at hK; (try simp only [hF] at hK); have hz := hb.size; (try simp at hz))
                    go_simp
                    (try simp only [])
                    exact hK _ _ rfl (Below.refl _ _)
                  · (intro v w1 K hb hF hK; (try simp at hF); simp at hK; (try simp only [hF] at hK); have hz := hb.size; (try simp at hz))
                    go_simp
                    (try simp only [])
                    exact hK _ _ rfl (Below.refl _ _)
                  · (intro v w1 K hb hF hK; (try simp at hF); simp at hK; (try simp only [hF] at hK); have hz := hb.size; (try simp at hz))
                    go_simp
                    (try simp only [])
                    exact hK _ _ rfl (Below.refl _ _)
                  · (intro v w1 K hb hF hK; (try simp at hF); simp at hK; (try simp only [hF] at hK); have hz := hb.size; (try simp at hz))
                    go_simp
                    (try simp only [])
                    exact hK _ _ rfl (Below.refl _ _)
                  · (intro v w1 K hb hF hK; (try simp at hF); simp at hK; (try simp only [hF] at hK); have hz := hb.size; (try simp at hz); (try (have hk := bcl hb (wo.heap.size) (by first | omega | (simp; done) | (simp; omega)); have hc := hk.1; have hf := hk.2.1; have hk := hk.2.2)); (try (have hk := bcl hb (w.heap.size) (by first | omega | (simp; done) | (simp; omega)); have hc := hk.1; have hf := hk.2.1; have hk := hk.2.2)))
                    go_simp
                    (try simp only [])
                    exact hK _ _ rfl (Below.refl _ _)
                  · (intro v w1 K hb hF hK; (try simp at hF); simp at hK; (try simp only [hF] at hK); have hz := hb.size; (try simp at hz))
                    go_simp
                    (try simp only [])
                    exact hK _ _ rfl (Below.refl _ _)
                  · (intro v w1 K hb hF hK; (try simp at hF); simp at hK; (try simp only [hF] at hK); have hz := hb.size; (try simp at hz))
                    go_simp
                    (try simp only [])
                    exact hK _ _ rfl (Below.refl _ _)
                  · (intro v w1 K hb hF hK; (try simp at hF); simp at hK; (try simp only [hF] at hK); have hz := hb.size; (try simp at hz))
                    go_simp
                    (try simp only [])
                    exact hK _ _ rfl (Below.refl _ _)
                case hfo => exact trivial
                (intro v w1 hb hF; simp [List.range, List.range.loop] at hF; have hz := hb.size; (try simp at hz); (try (have hk := bcl hb (wo.heap.size) (by first | omega | (simp; done) | (simp; omega)); have hc := hk.1; have hf := hk.2.1; have hk := hk.2.2)); (try (have hk := bcl hb (w.heap.size) (by first | omega | (simp; done) | (simp; omega)); have hc := hk.1; have hf := hk.2.1; have hk := hk.2.2)))
                obtain ⟨e0, e1, e2, e3, e4, e5, e6, e7, e8, e9, e10, e11, e12, e13, e14, e15, e16, e17, e18, e19, e20, e21, e22, e23, e24, e25, e26, e27, e28⟩ := hF
                simp only [List.length_cons, List.length_nil, List.drop_succ_cons, List.drop_zero, e0, e1, e2, e3, e4, e5, e6, e7, e8, e9, e10, e11, e12, e13, e14, e15, e16, e17, e18, e19, e20, e21, e22, e23, e24, e25, e26, e27, e28]
                clear e0 e1 e2 e3 e4 e5 e6 e7 e8 e9 e10 e11 e12 e13 e14 e15 e16 e17 e18 e19 e20 e21 e22 e23 e24 e25 e26 e27 e28 v
                go_wp2
                go_ret
                exact ⟨rfl, by (repeat' (first | (with_reducible exact Below.refl _ _) | (with_reducible assumption) | (with_reducible refine Below.alloc ?_ ?_ _) | (with_reducible refine below_drewN ?_ _) | (with_reducible refine Below.drew ?_) | (with_reducible refine Below.setCell ?_ ?_ _) | (with_reducible refine below_call (by assumption) ?_ ?_) | (with_reducible refine below_grown (by assumption) ?_ ?_ ?_) | omega | (simp; done) | (simp; omega)))⟩
          · have em3 : decide (m = manyV (q : Int)) = false := decide_eq_false hmv
            obtain ⟨mv, hmve⟩ : ∃ mv, manyV (q : Int) = mv := ⟨_, rfl⟩
            rw [em3, HIN.out] at HVK
            simp only [Bool.false_and, Bool.and_false] at HVK
            rw [hmve] at hlq hmv
            have hmi : ¬ (m : Int) = (mv : Int) := by omega
            have em : decide ((m : Int) = (mv : Int)) = false := decide_eq_false hmi
            have em2 : ((m : Int) == (mv : Int)) = false := by simp; omega
            clear em3 hmve
            have hv1 : v = false := by rw [← HV.out]; exact path_not (n := 0) (by rw [HL.out]; exact hlt) (by rw [HVK.out])
            subst hv1
            go_wp2_with fail
            apply wp_region_pure (by kernel_rfl) ([] :: [0] :: [1] :: [2] :: [3] :: [4] :: [4, 5] :: [4, 6] :: [4] :: [4] :: [4, 9] :: [4, 8, 10] :: [4, 11] :: [4, 7, 12] :: [4, 13] :: [14] :: [15] :: [15, 16] :: [15, 17] :: [15, 18] :: [15, 19] :: [20] :: [21] :: [21, 22] :: [23] :: [23, 24] :: [23, 25] :: [21, 23, 26] :: [21, 27] :: []) (RS.det [] _ :: RS.det [0] _ :: RS.det [1] _ :: RS.det [2] _ :: RS.det [3] _ :: RS.det [4] _ :: RS.det [4, 5] _ :: RS.det [4, 6] _ :: RS.det [4] _ :: RS.det [4] _ :: RS.det [4, 9] _ :: RS.det [4, 8, 10] _ :: RS.det [4, 11] _ :: RS.det [4, 7, 12] _ :: RS.det [4, 13] _ :: RS.det [14] _ :: RS.det [15] _ :: RS.det [15, 16] _ :: RS.det [15, 17] _ :: RS.det [15, 18] _ :: RS.det [15, 19] _ :: RS.det [20] _ :: RS.det [21] _ :: RS.det [21, 22] _ :: RS.det [23] _ :: RS.det [23, 24] _ :: RS.det [23, 25] _ :: RS.det [21, 23, 26] _ :: RS.det [21, 27] _ :: []) [] rfl (by kernel_rfl) (fun h => absurd rfl h) (by kernel_rfl) (by kernel_rfl) (st_det (st_det (st_det (st_det (st_det (st_det (st_det (st_det (st_det (st_det (st_det (st_det (st_det (st_det (st_det (st_det (st_det (st_det (st_det (st_det (st_det (st_det (st_det (st_det (st_det (st_det (st_det (st_det (st_det st_nil))))))))))))))))))))))))))))) _ (fun v => by simp; rfl)
            case hop =>
              simp only [Obls]
              refine ⟨?_, ?_, ?_, ?_, ?_, ?_, ?_, ?_, ?_, ?_, ?_, ?_, ?_, ?_, ?_, ?_, ?_, ?_, ?_, ?_, ?_, ?_, ?_, ?_, ?_, ?_, ?_, ?_, ?_, trivial⟩
              · (intro v w1 K hb hF hK; (try simp at hF); simp at hK; (try simp only [hF] at hK); have hz := hb.size; (try simp at hz))
                go_simp
                (try simp only [])
                exact hK _ _ rfl (Below.refl _ _)
              · (intro v w1 K hb hF hK; (try simp at hF); simp at hK; (try simp only [hF] at hK); have hz := hb.size; (try simp at hz); (try (have hk := bcl hb (wo.heap.size) (by first | omega | (simp; done) | (simp; omega)); have hc := hk.1; have hf := hk.2.1; have hk := hk.2.2)); (try (have hk := bcl hb (w.heap.size) (by first | omega | (simp; done) | (simp; omega)); have hc := hk.1; have hf := hk.2.1; have hk := hk.2.2)))
                go_simp
                (try simp only [])
                exact hK _ _ rfl (Below.refl _ _)
              · (intro v w1 K hb hF hK; (try simp at hF); simp at hK; (try simp only [hF] at hK); have hz := hb.size; (try simp at hz); (try (have hk := bcl hb (wo.heap.size) (by first | omega | (simp; done) | (simp; omega)); have hc := hk.1; have hf := hk.2.1; have hk := hk.2.2)); (try (have hk := bcl hb (w.heap.size) (by first | omega | (simp; done) | (simp; omega)); have hc := hk.1; have hf := hk.2.1; have hk := hk.2.2)))
                go_simp
                (first | (go_at_call 35; (with_reducible refine (in_eq HIN.out _).mono ?_); rintro e w7 ⟨rfl, rfl⟩) | (go_at_call 36; (with_reducible refine (pointsValid_eq cr (HQ.out.below (by (repeat' (first | (with_reducible exact Below.refl _ _) | (with_reducible assumption) | (with_reducible refine Below.alloc ?_ ?_ _) | (with_reducible refine below_drewN ?_ _) | (with_reducible refine Below.drew ?_) | (with_reducible refine Below.setCell ?_ ?_ _) | (with_reducible refine below_call (by assumption) ?_ ?_) | (with_reducible refine below_grown (by assumption) ?_ ?_ ?_) | omega | (simp; done) | (simp; omega))))) hm12 HU.out).mono ?_); rintro e w7 ⟨rfl, hb7⟩) | skip)
                (try simp only [])
                exact hK _ _ rfl (by (repeat' (first | (with_reducible exact Below.refl _ _) | (with_reducible assumption) | (with_reducible refine Below.alloc ?_ ?_ _) | (with_reducible refine below_drewN ?_ _) | (with_reducible refine Below.drew ?_) | (with_reducible refine Below.setCell ?_ ?_ _) | (with_reducible refine below_call (by assumption) ?_ ?_) | go_size)))
              · (intro v w1 K hb hF hK; (try simp at hF); simp at hK; (try simp only [hF] at hK); have hz := hb.size; (try simp at hz))
                go_simp
                (try simp only [])
                exact hK _ _ rfl (Below.refl _ _)
              · (intro v w1 K hb hF hK; (try simp at hF); simp at hK; (try simp only [hF] at hK); have hz := hb.size; (try simp at hz))
                go_simp
                (try simp only [])
                exact hK _ _ rfl (Below.refl _ _)
              · (intro v w1 K hb hF hK; (try simp at hF); simp at hK; (try simp only [hF] at hK); have hz := hb.size; (try simp at hz))
                go_simp
                (try simp only [])
                exact hK _ _ rfl (Below.refl _ _)
              · (intro v w1 K hb hF hK; (try simp at hF); simp at hK; (try simp only [hF] at hK); have hz := hb.size; (try simp at hz); (try (have hk := bcl hb (wo.heap.size) (by first | omega | (simp; done) | (simp; omega)); have hc := hk.1; have hf := hk.2.1; have hk := hk.2.2)); (try (have hk := bcl hb (w.heap.size) (by first | omega | (simp; done) | (simp; omega)); have hc := hk.1; have hf := hk.2.1; have hk := hk.2.2)))
                go_simp
                (try simp only [])
                exact hK _ _ rfl (Below.refl _ _)
              · (intro v w1 K hb hF hK; (try simp at hF); simp at hK; (try simp only [hF] at hK); have hz := hb.size; (try simp at hz))
                go_simp
                (try simp only [])
                exact hK _ _ rfl (Below.refl _ _)
              · (intro v w1 K hb hF hK; (try simp at hF); simp at hK; (try simp only [hF] at hK); have hz := hb.size; (try simp at hz))
                go_simp
                (try simp only [])
                exact hK _ _ rfl (Below.refl _ _)
              · (intro v w1 K hb hF hK; (try simp at hF); simp at hK; (try simp only [hF] at hK); have hz := hb.size; (try simp at hz))
                go_simp
                (try simp only [])
                exact hK _ _ rfl (Below.refl _ _)
              · (intro v w1 K hb hF hK; (try simp at hF); simp at hK; (try simp only [hF] at hK); have hz := hb.size; (try simp at hz); (try (have hk := bcl hb (wo.heap.size) (by first | omega | (simp; done) | (simp; omega)); have hc := hk.1; have hf := hk.2.1; have hk := hk.2.2)); (try (have hk := bcl hb (w.heap.size) (by first | omega | (simp; done) | (simp; omega)); have hc := hk.1; have hf := hk.2.1; have hk := hk.2.2)))
                go_simp
                (try simp only [])
                exact hK _ _ rfl (Below.refl _ _)
              · (intro v w1 K hb hF hK; (try simp at hF); simp at hK; (try simp only [hF] at hK); have hz := hb.size; (try simp at hz))
                go_simp
                (try simp only [])
                exact hK _ _ rfl (Below.refl _ _)
              · (intro v w1 K hb hF hK; (try simp at hF); simp at hK; (try simp only [hF] at hK); have hz := hb.size; (try simp at hz); (try (have hk := bcl hb (wo.heap.size) (by first | omega | (simp; done) | (simp; omega)); have hc := hk.1; have hf := hk.2.1; have hk := hk.2.2)); (try (have hk := bcl hb (w.heap.size) (by first | omega | (simp; done) | (simp; omega)); have hc := hk.1; have hf := hk.2.1; have hk := hk.2.2)))
                go_simp
                (try simp only [])
                exact hK _ _ rfl (Below.refl _ _)
              · (intro v w1 K hb hF hK; (try simp at hF); simp at hK; (try simp only [hF] at hK); have hz := hb.size; (try simp at hz))
                go_simp
                (try simp only [])
                exact hK _ _ rfl (Below.refl _ _)
              · (intro v w1 K hb hF hK; (try simp at hF); simp at hK; (try simp only [hF] at hK); have hz := hb.size; (try simp at hz))
                go_simp
                (try simp only [])
                exact hK _ _ rfl (Below.refl _ _)
              · (intro v w1 K hb hF hK; (try simp at hF); simp at hK; (try simp only [hF] at hK); have hz := hb.size; (try simp at hz))
                go_simp
                (try simp only [])
                exact hK _ _ rfl (Below.refl _ _)
              · (intro v w1 K hb hF hK; (try simp at hF); simp at hK; (try simp only [hF] at hK); have hz := hb.size; (try simp at hz))
                go_simp
                (try simp only [])
                exact hK _ _ rfl (Below.refl _ _)
              · (intro v w1 K hb hF hK; (try simp at hF); simp at hK; (try simp only [hF] at hK); have hz := hb.size; (try simp at hz); (try (have hk := bcl hb (wo.heap.size) (by first | omega | (simp; done) | (simp; omega)); have hc := hk.1; have hf := hk.2.1; have hk := hk.2.2)); (try (have hk := bcl hb (w.heap.size) (by first | omega | (simp; done) | (simp; omega)); have hc := hk.1; have hf := hk.2.1; have hk := hk.2.2)))
                go_simp
                (try simp only [])
                exact hK _ _ rfl (Below.refl _ _)
              · (intro v w1 K hb hF hK; (try simp at hF); simp at hK; (try simp only [hF] at hK); have hz := hb.size; (try simp at hz); (try (have hk := bcl hb (wo.heap.size) (by first | omega | (simp; done) | (simp; omega)); have hc := hk.1; have hf := hk.2.1; have hk := hk.2.2)); (try (have hk := bcl hb (w.heap.size) (by first | omega | (simp; done) | (simp; omega)); have hc := hk.1; have hf := hk.2.1; have hk := hk.2.2)))
                go_simp
                (first | (go_at_call 35; (with_reducible refine (in_eq HIN.out _).mono ?_); rintro e w7 ⟨rfl, rfl⟩) | (go_at_call 36; (with_reducible refine (pointsValid_eq cr (HQ.out.below (by (repeat' (first | (with_reducible exact Below.refl _ _) | (with_reducible assumption) | (with_reducible refine Below.alloc ?_ ?_ _) | (with_reducible refine below_drewN ?_ _) | (with_reducible refine Below.drew ?_) | (with_reducible refine Below.setCell ?_ ?_ _) | (with_reducible refine below_call (by assumption) ?_ ?_) | (with_reducible refine below_grown (by assumption) ?_ ?_ ?_) | omega | (simp; done) | (simp; omega))))) hm12 HU.out).mono ?_); rintro e w7 ⟨rfl, hb7⟩) | skip)
                (try simp only [])
                exact hK _ _ rfl (by (repeat' (first | (with_reducible exact Below.refl _ _) | (with_reducible assumption) | (with_reducible refine Below.alloc ?_ ?_ _) | (with_reducible refine below_drewN ?_ _) | (with_reducible refine Below.drew ?_) | (with_reducible refine Below.setCell ?_ ?_ _) | (with_reducible refine below_call (by assumption) ?_ ?_) | go_size)))
              · (intro v w1 K hb hF hK; (try simp at hF); simp at hK; (try simp only [hF] at hK); have hz := hb.size; (try simp at hz))
                go_simp
                (try simp only [])
                exact hK _ _ rfl (Below.refl _ _)
              · (intro v w1 K hb hF hK; (try simp at hF); simp at hK; (try simp only [hF] at hK); have hz := hb.size; (try simp at hz))
                go_simp
                (try simp only [])
                exact hK _ _ rfl (Below.refl _ _)
              · (intro v w1 K hb hF hK; (try simp at hF); simp at hK; (try simp only [hF] at hK); have hz := hb.size; (try simp at hz))
                go_simp
                (try simp only [])
                exact hK _ _ rfl (Below.refl _ _)
              · (intro v w1 K hb hF hK; (try simp at hF); simp at hK; (try simp only [hF] at hK); have hz := hb.size; (try simp at hz))
                go_simp
                (try simp only [])
                exact hK _ _ rfl (Below.refl _ _)
              · (intro v w1 K hb hF hK; (try simp at hF); simp at hK; (try simp only [hF] at hK); have hz := hb.size; (try simp at hz))
                go_simp
                (try simp only [])
                exact hK _ _ rfl (Below.refl _ _)
              · (intro v w1 K hb hF hK; (try simp at hF); simp at hK; (try simp only [hF] at hK); have hz := hb.size; (try simp at hz))
                go_simp
                (try simp only [])
                exact hK _ _ rfl (Below.refl _ _)
              · (intro v w1 K hb hF hK; (try simp at hF); simp at hK; (try simp only [hF] at hK); have hz := hb.size; (try simp at hz); (try (have hk := bcl hb (wo.heap.size) (by first | omega | (simp; done) | (simp; omega)); have hc := hk.1; have hf := hk.2.1; have hk := hk.2.2)); (try (have hk := bcl hb (w.heap.size) (by first | omega | (simp; done) | (simp; omega)); have hc := hk.1; have hf := hk.2.1; have hk := hk.2.2)))
                go_simp
                (try simp only [])
                exact hK _ _ rfl (Below.refl _ _)
              · (intro v w1 K hb hF hK; (try simp at hF); simp at hK; (try simp only [hF] at hK); have hz := hb.size; (try simp at hz))
                go_simp
                (try simp only [])
                exact hK _ _ rfl (Below.refl _ _)
              · (intro v w1 K hb hF hK; (try simp at hF); simp at hK; (try simp only [hF] at hK); have hz := hb.size; (try simp at hz))
                go_simp
                (try simp only [])
                exact hK _ _ rfl (Below.refl _ _)
              · (intro v w1 K hb hF hK; (try simp at hF); simp at hK; (try simp only [hF] at hK); have hz := hb.size; (try simp at hz))
                go_simp
                (try simp only [])
                exact hK _ _ rfl (Below.refl _ _)
            case hfo => exact trivial
            (intro v w1 hb hF; simp [List.range, List.range.loop] at hF; have hz := hb.size; (try simp at hz); (try (have hk := bcl hb (wo.heap.size) (by first | omega | (simp; done) | (simp; omega)); have hc := hk.1; have hf := hk.2.1; have hk := hk.2.2)); (try (have hk := bcl hb (w.heap.size) (by first | omega | (simp; done) | (simp; omega)); have hc := hk.1; have hf := hk.2.1; have hk := hk.2.2)))
            obtain ⟨e0, e1, e2, e3, e4, e5, e6, e7, e8, e9, e10, e11, e12, e13, e14, e15, e16, e17, e18, e19, e20, e21, e22, e23, e24, e25, e26, e27, e28⟩ := hF
            simp only [List.length_cons, List.length_nil, List.drop_succ_cons, List.drop_zero, e0, e1, e2, e3, e4, e5, e6, e7, e8, e9, e10, e11, e12, e13, e14, e15, e16, e17, e18, e19, e20, e21, e22, e23, e24, e25, e26, e27, e28]
            clear e0 e1 e2 e3 e4 e5 e6 e7 e8 e9 e10 e11 e12 e13 e14 e15 e16 e17 e18 e19 e20 e21 e22 e23 e24 e25 e26 e27 e28 v
            go_wp2
            go_ret
            exact ⟨rfl, by (repeat' (first | (with_reducible exact Below.refl _ _) | (with_reducible assumption) | (with_reducible refine Below.alloc ?_ ?_ _) | (with_reducible refine below_drewN ?_ _) | (with_reducible refine Below.drew ?_) | (with_reducible refine Below.setCell ?_ ?_ _) | (with_reducible refine below_call (by assumption) ?_ ?_) | (with_reducible refine below_grown (by assumption) ?_ ?_ ?_) | omega | (simp; done) | (simp; omega)))⟩
      · have ek : decide ((k : Int) = 0) = false := decide_eq_false (by omega)
        have ek2 : ((k : Int) == 0) = false := by simp; omega
        have ek3 : decide (k = 0) = false := decide_eq_false hk0
        have ek4 : (k == 0) = false := by simp [hk0]
        obtain ⟨k1, hk1⟩ : ∃ j, k = j + 1 := ⟨k - 1, by omega⟩
        have hk1n : k1 < n := by omega
        have hk1i : (k1 : Int) < n := by omega
        have ekk : (k : Int) - 1 = (k1 : Int) := by omega
        obtain ⟨b', o', pk, r', B', cr', e0, _, hr', y0, _⟩ := (HP.out.below hbel).at_ hk1n
        cases e0
        have hvb : (vb L (k - 1)).1 = pk := by rw [show k - 1 = k1 by omega, vb_at hr']
        have HK1 := Lib.hid hk1
        clear hr' hk1
        by_cases hp4 : pk = 4
        · have HBG : Hid (decide (k = 0 ∨ (vb L (k - 1)).1 = 4) = true) := Lib.hid (by rw [hvb]; simp [hp4])
          have ep : decide (pk = 4) = true := decide_eq_true hp4
          have ep2 : (pk == 4) = true := by simp [hp4]
          clear hvb
          have HVK := Lib.hid (verbOk_eq HR.out HM.out HU.out (show decide (k = 0 ∨ (vb L (k - 1)).1 = 4) = true from HBG.out))
          cases b1 with
          | false =>
            have hv1 : v = false := by rw [← HV.out]; exact path_not (n := k) (by rw [HL.out]; exact hlt) (by rw [HVK.out, HIN.out]; simp)
            subst hv1
            go_wp2_with fail
            apply wp_region_pure (by kernel_rfl) ([] :: [0] :: [1] :: [2] :: [3] :: [4] :: [4, 5] :: [4, 6] :: [4] :: [4] :: [4, 9] :: [4, 8, 10] :: [4, 11] :: [4, 7, 12] :: [4, 13] :: [14] :: [15] :: [15, 16] :: [15, 17] :: [15, 18] :: [15, 19] :: [20] :: [21] :: [21, 22] :: [23] :: [23, 24] :: [23, 25] :: [21, 23, 26] :: [21, 27] :: []) (RS.det [] _ :: RS.det [0] _ :: RS.det [1] _ :: RS.det [2] _ :: RS.det [3] _ :: RS.det [4] _ :: RS.det [4, 5] _ :: RS.det [4, 6] _ :: RS.det [4] _ :: RS.det [4] _ :: RS.det [4, 9] _ :: RS.det [4, 8, 10] _ :: RS.det [4, 11] _ :: RS.det [4, 7, 12] _ :: RS.det [4, 13] _ :: RS.det [14] _ :: RS.det [15] _ :: RS.det [15, 16] _ :: RS.det [15, 17] _ :: RS.det [15, 18] _ :: RS.det [15, 19] _ :: RS.det [20] _ :: RS.det [21] _ :: RS.det [21, 22] _ :: RS.det [23] _ :: RS.det [23, 24] _ :: RS.det [23, 25] _ :: RS.det [21, 23, 26] _ :: RS.det [21, 27] _ :: []) [] rfl (by kernel_rfl) (fun h => absurd rfl h) (by kernel_rfl) (by kernel_rfl) (st_det (st_det (st_det (st_det (st_det (st_det (st_det (st_det (st_det (st_det (st_det (st_det (st_det (st_det (st_det (st_det (st_det (st_det (st_det (st_det (st_det (st_det (st_det (st_det (st_det (st_det (st_det (st_det (st_det st_nil))))))))))))))))))))))))))))) _ (fun v => by simp; rfl)
            case hop =>
              simp only [Obls]
              refine ⟨?_, ?_, ?_, ?_, ?_, ?_, ?_, ?_, ?_, ?_, ?_, ?_, ?_, ?_, ?_, ?_, ?_, ?_, ?_, ?_, ?_, ?_, ?_, ?_, ?_, ?_, ?_, ?_, ?_, trivial⟩
              · (intro v w1 K hb hF hK; (try simp at hF); simp at hK; (try simp only [hF] at hK); have hz := hb.size; (try simp at hz))
                go_simp
                (try simp only [])
                exact hK _ _ rfl (Below.refl _ _)
              · (intro v w1 K hb hF hK; (try simp at hF); simp at hK; (try simp only [hF] at hK); have hz := hb.size; (try simp at hz); (try (have hk := bcl hb (wo.heap.size) (by first | omega | (simp; done) | (simp; omega)); have hc := hk.1; have hf := hk.2.1; have hk := hk.2.2)); (try (have hk := bcl hb (w.heap.size) (by first | omega | (simp; done) | (simp; omega)); have hc := hk.1; have hf := hk.2.1; have hk := hk.2.2)))
                go_simp
                (try simp only [])
                exact hK _ _ rfl (Below.refl _ _)
              · (intro v w1 K hb hF hK; (try simp at hF); simp at hK; (try simp only [hF] at hK); have hz := hb.size; (try simp at hz); (try (have hk := bcl hb (wo.heap.size) (by first | omega | (simp; done) | (simp; omega)); have hc := hk.1; have hf := hk.2.1; have hk := hk.2.2)); (try (have hk := bcl hb (w.heap.size) (by first | omega | (simp; done) | (simp; omega)); have hc := hk.1; have hf := hk.2.1; have hk := hk.2.2)))
                go_simp
                (first | (go_at_call 35; (with_reducible refine (in_eq HIN.out _).mono ?_); rintro e w7 ⟨rfl, rfl⟩) | (go_at_call 36; (with_reducible refine (pointsValid_eq cr (HQ.out.below (by (repeat' (first | (with_reducible exact Below.refl _ _) | (with_reducible assumption) | (with_reducible refine Below.alloc ?_ ?_ _) | (with_reducible refine below_drewN ?_ _) | (with_reducible refine Below.drew ?_) | (with_reducible refine Below.setCell ?_ ?_ _) | (with_reducible refine below_call (by assumption) ?_ ?_) | (with_reducible refine below_grown (by assumption) ?_ ?_ ?_) | omega | (simp; done) | (simp; omega))))) hm12 HU.out).mono ?_); rintro e w7 ⟨rfl, hb7⟩) | skip)
                (try simp only [])
                exact hK _ _ rfl (by (repeat' (first | (with_reducible exact Below.refl _ _) | (with_reducible assumption) | (with_reducible refine Below.alloc ?_ ?_ _) | (with_reducible refine below_drewN ?_ _) | (with_reducible refine Below.drew ?_) | (with_reducible refine Below.setCell ?_ ?_ _) | (with_reducible refine below_call (by assumption) ?_ ?_) | go_size)))
              · (intro v w1 K hb hF hK; (try simp at hF); simp at hK; (try simp only [hF] at hK); have hz := hb.size; (try simp at hz))
                go_simp
                (try simp only [])
                exact hK _ _ rfl (Below.refl _ _)
              · (intro v w1 K hb hF hK; (try simp at hF); simp at hK; (try simp only [hF] at hK); have hz := hb.size; (try simp at hz))
                go_simp
                (try simp only [])
                exact hK _ _ rfl (Below.refl _ _)
              · (intro v w1 K hb hF hK; (try simp at hF); simp at hK; (try simp only [hF] at hK); have hz := hb.size; (try simp at hz))
                go_simp
                (try simp only [])
                exact hK _ _ rfl (Below.refl _ _)
              · (intro v w1 K hb hF hK; (try simp at hF); simp at hK; (try simp only [hF] at hK); have hz := hb.size; (try simp at hz); (try (have hk := bcl hb (wo.heap.size) (by first | omega | (simp; done) | (simp; omega)); have hc := hk.1; have hf := hk.2.1; have hk := hk.2.2)); (try (have hk := bcl hb (w.heap.size) (by first | omega | (simp; done) | (simp; omega)); have hc := hk.1; have hf := hk.2.1; have hk := hk.2.2)))
                go_simp
                (try simp only [])
                exact hK _ _ rfl (Below.refl _ _)
              · (intro v w1 K hb hF hK; (try simp at hF); simp at hK; (try simp only [hF] at hK); have hz := hb.size; (try simp at hz))
                go_simp
                (try simp only [])
                exact hK _ _ rfl (Below.refl _ _)
              · (intro v w1 K hb hF hK; (try simp at hF); simp at hK; (try simp only [hF] at hK); have hz := hb.size; (try simp at hz))
                go_simp
                (try simp only [])
                exact hK _ _ rfl (Below.refl _ _)
              · (intro v w1 K hb hF hK; (try simp at hF); simp at hK; (try simp only [hF] at hK); have hz := hb.size; (try simp at hz))
                go_simp
                (try simp only [])
                exact hK _ _ rfl (Below.refl _ _)
              · (intro v w1 K hb hF hK; (try simp at hF); simp at hK; (try simp only [hF] at hK); have hz := hb.size; (try simp at hz); (try (have hk := bcl hb (wo.heap.size) (by first | omega | (simp; done) | (simp; omega)); have hc := hk.1; have hf := hk.2.1; have hk := hk.2.2)); (try (have hk := bcl hb (w.heap.size) (by first | omega | (simp; done) | (simp; omega)); have hc := hk.1; have hf := hk.2.1; have hk := hk.2.2)))
                go_simp
                (try simp only [])
                exact hK _ _ rfl (Below.refl _ _)
              · (intro v w1 K hb hF hK; (try simp at hF); simp at hK; (try simp only [hF] at hK); have hz := hb.size; (try simp at hz))
                go_simp
                (try simp only [])
                exact hK _ _ rfl (Below.refl _ _)
              · (intro v w1 K hb hF hK; (try simp at hF); simp at hK; (try simp only [hF] at hK); have hz := hb.size; (try simp at hz); (try (have hk := bcl hb (wo.heap.size) (by first | omega | (simp; done) | (simp; omega)); have hc := hk.1; have hf := hk.2.1; have hk := hk.2.2)); (try (have hk := bcl hb (w.heap.size) (by first | omega | (simp; done) | (simp; omega)); have hc := hk.1; have hf := hk.2.1; have hk := hk.2.2)))
                go_simp
                (try simp only [])
                exact hK _ _ rfl (Below.refl _ _)
              · (intro v w1 K hb hF hK; (try simp at hF); simp at hK; (try simp only [hF] at hK); have hz := hb.size; (try simp at hz))
                go_simp
                (try simp only [])
                exact hK _ _ rfl (Below.refl _ _)
              · (intro v w1 K hb hF hK; (try simp at hF); simp at hK; (try simp only [hF] at hK); have hz := hb.size; (try simp at hz))
                go_simp
                (try simp only [])
                exact hK _ _ rfl (Below.refl _ _)
              · (intro v w1 K hb hF hK; (try simp at hF); simp at hK; (try simp only [hF] at hK); have hz := hb.size; (try simp at hz))
                go_simp
                (try simp only [])
                exact hK _ _ rfl (Below.refl _ _)
              · (intro v w1 K hb hF hK; (try simp at hF); simp at hK; (try simp only [hF] at hK); have hz := hb.size; (try simp at hz))
                go_simp
                (try simp only [])
                exact hK _ _ rfl (Below.refl _ _)
              · (intro v w1 K hb hF hK; (try simp at hF); simp at hK; (try simp only [hF] at hK); have hz := hb.size; (try simp at hz); (try (have hk := bcl hb (wo.heap.size) (by first | omega | (simp; done) | (simp; omega)); have hc := hk.1; have hf := hk.2.1; have hk := hk.2.2)); (try (have hk := bcl hb (w.heap.size) (by first | omega | (simp; done) | (simp; omega)); have hc := hk.1; have hf := hk.2.1; have hk := hk.2.2)))
                go_simp
                (try simp only [])
                exact hK _ _ rfl (Below.refl _ _)
              · (intro v w1 K hb hF hK; (try simp at hF); simp at hK; (try simp only [hF] at hK); have hz := hb.size; (try simp at hz); (try (have hk := bcl hb (wo.heap.size) (by first | omega | (simp; done) | (simp; omega)); have hc := hk.1; have hf := hk.2.1; have hk := hk.2.2)); (try (have hk := bcl hb (w.heap.size) (by first | omega | (simp; done) | (simp; omega)); have hc := hk.1; have hf := hk.2.1; have hk := hk.2.2)))
                go_simp
                (first | (go_at_call 35; (with_reducible refine (in_eq HIN.out _).mono ?_); rintro e w7 ⟨rfl, rfl⟩) | (go_at_call 36; (with_reducible refine (pointsValid_eq cr (HQ.out.below (by (repeat' (first | (with_reducible exact Below.refl _ _) | (with_reducible assumption) | (with_reducible refine Below.alloc ?_ ?_ _) | (with_reducible refine below_drewN ?_ _) | (with_reducible refine Below.drew ?_) | (with_reducible refine Below.setCell ?_ ?_ _) | (with_reducible refine below_call (by assumption) ?_ ?_) | (with_reducible refine below_grown (by assumption) ?_ ?_ ?_) | omega | (simp; done) | (simp; omega))))) hm12 HU.out).mono ?_); rintro e w7 ⟨rfl, hb7⟩) | skip)
                (try simp only [])
                exact hK _ _ rfl (by (repeat' (first | (with_reducible exact Below.refl _ _) | (with_reducible assumption) | (with_reducible refine Below.alloc ?_ ?_ _) | (with_reducible refine below_drewN ?_ _) | (with_reducible refine Below.drew ?_) | (with_reducible refine Below.setCell ?_ ?_ _) | (with_reducible refine below_call (by assumption) ?_ ?_) | go_size)))
              · (intro v w1 K hb hF hK; (try simp at hF); simp at hK; (try simp only [hF] at hK); have hz := hb.size; (try simp at hz))
                go_simp
                (try simp only [])
                exact hK _ _ rfl (Below.refl _ _)
              · (intro v w1 K hb hF hK; (try simp at hF); simp at hK; (try simp only [hF] at hK); have hz := hb.size; (try simp at hz))
                go_simp
                (try simp only [])
                exact hK _ _ rfl (Below.refl _ _)
              · (intro v w1 K hb hF hK; (try simp at hF); simp at hK; (try simp only [hF] at hK); have hz := hb.size; (try simp at hz))
                go_simp
                (try simp only [])
                exact hK _ _ rfl (Below.refl _ _)
              · (intro v w1 K hb hF hK; (try simp at hF); simp at hK; (try simp only [hF] at hK); have hz := hb.size; (try simp at hz))
                go_simp
                (try simp only [])
                exact hK _ _ rfl (Below.refl _ _)
              · (intro v w1 K hb hF hK; (try simp at hF); simp at hK; (try simp only [hF] at hK); have hz := hb.size; (try simp at hz))
                go_simp
                (try simp only [])
                exact hK _ _ rfl (Below.refl _ _)
              · (intro v w1 K hb hF hK; (try simp at hF); simp at hK; (try simp only [hF] at hK); have hz := hb.size; (try simp at hz))
                go_simp
                (try simp only [])
                exact hK _ _ rfl (Below.refl _ _)
              · (intro v w1 K hb hF hK; (try simp at hF); simp at hK; (try simp only [hF] at hK); have hz := hb.size; (try simp at hz); (try (have hk := bcl hb (wo.heap.size) (by first | omega | (simp; done) | (simp; omega)); have hc := hk.1; have hf := hk.2.1; have hk := hk.2.2)); (try (have hk := bcl hb (w.heap.size) (by first | omega | (simp; done) | (simp; omega)); have hc := hk.1; have hf := hk.2.1; have hk := hk.2.2)))
                go_simp
                (try simp only [])
                exact hK _ _ rfl (Below.refl _ _)
              · (intro v w1 K hb hF hK; (try simp at hF); simp at hK; (try simp only [hF] at hK); have hz := hb.size; (try simp at hz))
                go_simp
                (try simp only [])
                exact hK _ _ rfl (Below.refl _ _)
              · (intro v w1 K hb hF hK; (try simp at hF); simp at hK; (try simp only [hF] at hK); have hz := hb.size; (try simp at hz))
                go_simp
                (try simp only [])
                exact hK _ _ rfl (Below.refl _ _)
              · (intro v w1 K hb hF hK; (try simp at hF); simp at hK; (try simp only [hF] at hK); have hz := hb.size; (try simp at hz))
                go_simp
                (try simp only [])
                exact hK _ _ rfl (Below.refl _ _)
            case hfo => exact trivial
            (intro v w1 hb hF; simp [List.range, List.range.loop] at hF; have hz := hb.size; (try simp at hz); (try (have hk := bcl hb (wo.heap.size) (by first | omega | (simp; done) | (simp; omega)); have hc := hk.1; have hf := hk.2.1; have hk := hk.2.2)); (try (have hk := bcl hb (w.heap.size) (by first | omega | (simp; done) | (simp; omega)); have hc := hk.1; have hf := hk.2.1; have hk := hk.2.2)))
            obtain ⟨e0, e1, e2, e3, e4, e5, e6, e7, e8, e9, e10, e11, e12, e13, e14, e15, e16, e17, e18, e19, e20, e21, e22, e23, e24, e25, e26, e27, e28⟩ := hF
            simp only [List.length_cons, List.length_nil, List.drop_succ_cons, List.drop_zero, e0, e1, e2, e3, e4, e5, e6, e7, e8, e9, e10, e11, e12, e13, e14, e15, e16, e17, e18, e19, e20, e21, e22, e23, e24, e25, e26, e27, e28]
            clear e0 e1 e2 e3 e4 e5 e6 e7 e8 e9 e10 e11 e12 e13 e14 e15 e16 e17 e18 e19 e20 e21 e22 e23 e24 e25 e26 e27 e28 v
            go_wp2
            go_ret
            exact ⟨rfl, by (repeat' (first | (with_reducible exact Below.refl _ _) | (with_reducible assumption) | (with_reducible refine Below.alloc ?_ ?_ _) | (with_reducible refine below_drewN ?_ _) | (with_reducible refine Below.drew ?_) | (with_reducible refine Below.setCell ?_ ?_ _) | (with_reducible refine below_call (by assumption) ?_ ?_) | (with_reducible refine below_grown (by assumption) ?_ ?_ ?_) | omega | (simp; done) | (simp; omega)))⟩
          | true =>
            have hin := inB_true.1 HIN.out
            obtain ⟨q, rfl⟩ : ∃ q : Nat, kd = (q : Int) := ⟨kd.toNat, by omega⟩
            have hq5 : q < 5 := by omega
            have hq5i : (q : Int) < 5 := by omega
            have hlq := lit_at HLIT.out hq5
            by_cases hmv : m = manyV (q : Int)
            · have em3 : decide (m = manyV (q : Int)) = true := decide_eq_true hmv
              rw [em3, HIN.out] at HVK
              simp only [Bool.true_and] at HVK
              rw [← hmv] at hlq
              clear hmv em3
              cases u with
              | false =>
                simp only [Bool.false_and] at HVK
                have hv1 : v = false := by rw [← HV.out]; exact path_not (n := k) (by rw [HL.out]; exact hlt) (by rw [HVK.out])
                subst hv1
                go_wp2_with fail
                apply wp_region_pure (by kernel_rfl) ([] :: [0] :: [1] :: [2] :: [3] :: [4] :: [4, 5] :: [4, 6] :: [4] :: [4] :: [4, 9] :: [4, 8, 10] :: [4, 11] :: [4, 7, 12] :: [4, 13] :: [14] :: [15] :: [15, 16] :: [15, 17] :: [15, 18] :: [15, 19] :: [20] :: [21] :: [21, 22] :: [23] :: [23, 24] :: [23, 25] :: [21, 23, 26] :: [21, 27] :: []) (RS.det [] _ :: RS.det [0] _ :: RS.det [1] _ :: RS.det [2] _ :: RS.det [3] _ :: RS.det [4] _ :: RS.det [4, 5] _ :: RS.det [4, 6] _ :: RS.det [4] _ :: RS.det [4] _ :: RS.det [4, 9] _ :: RS.det [4, 8, 10] _ :: RS.det [4, 11] _ :: RS.det [4, 7, 12] _ :: RS.det [4, 13] _ :: RS.det [14] _ :: RS.det [15] _ :: RS.det [15, 16] _ :: RS.det [15, 17] _ :: RS.det [15, 18] _ :: RS.det [15, 19] _ :: RS.det [20] _ :: RS.det [21] _ :: RS.det [21, 22] _ :: RS.det [23] _ :: RS.det [23, 24] _ :: RS.det [23, 25] _ :: RS.det [21, 23, 26] _ :: RS.det [21, 27] _ :: []) [] rfl (by kernel_rfl) (fun h => absurd rfl h) (by kernel_rfl) (by kernel_rfl) (st_det (st_det (st_det (st_det (st_det (st_det (st_det (st_det (st_det (st_det (st_det (st_det (st_det (st_det (st_det (st_det (st_det (st_det (st_det (st_det (st_det (st_det (st_det (st_det (st_det (st_det (st_det (st_det (st_det st_nil))))))))))))))))))))))))))))) _ (fun v => by simp; rfl)
                case hop =>
                  simp only [Obls]
                  refine ⟨?_, ?_, ?_, ?_, ?_, ?_, ?_, ?_, ?_, ?_, ?_, ?_, ?_, ?_, ?_, ?_, ?_, ?_, ?_, ?_, ?_, ?_, ?_, ?_, ?_, ?_, ?_, ?_, ?_, trivial⟩
                  · (intro v w1 K hb hF hK; (try simp at hF); simp at hK; (try simp only [hF] at hK); have hz := hb.size; (try simp at hz))
                    go_simp
                    (try simp only [])
                    exact hK _ _ rfl (Below.refl _ _)
                  · (intro v w1 K hb hF hK; (try simp at hF); simp at hK; (try simp only [hF] at hK); have hz := hb.size; (try simp at hz); (try (have hk := bcl hb (wo.heap.size) (by first | omega | (simp; done) | (simp; omega)); have hc := hk.1; have hf := hk.2.1; have hk := hk.2.2)); (try (have hk := bcl hb (w.heap.size) (by first | omega | (simp; done) | (simp; omega)); have hc := hk.1; have hf := hk.2.1; have hk := hk.2.2)))
                    go_simp
                    (try simp only [])
                    exact hK _ _ rfl (Below.refl _ _)
                  · (intro v w1 K hb hF hK; (try simp at hF); simp at hK; (try simp only [hF] at hK); have hz := hb.size; (try simp at hz); (try (have hk := bcl hb (wo.heap.size) (by first | omega | (simp; done) | (simp; omega)); have hc := hk.1; have hf := hk.2.1; have hk := hk.2.2)); (try (have hk := bcl hb (w.heap.size) (by first | omega | (simp; done) | (simp; omega)); have hc := hk.1; have hf := hk.2.1; have hk := hk.2.2)))
                    go_simp
                    (first | (go_at_call 35; (with_reducible refine (in_eq HIN.out _).mono ?_); rintro e w7 ⟨rfl, rfl⟩) | (go_at_call 36; (with_reducible refine (pointsValid_eq cr (HQ.out.below (by (repeat' (first | (with_reducible exact Below.refl _ _) | (with_reducible assumption) | (with_reducible refine Below.alloc ?_ ?_ _) | (with_reducible refine below_drewN ?_ _) | (with_reducible refine Below.drew ?_) | (with_reducible refine Below.setCell ?_ ?_ _) | (with_reducible refine below_call (by assumption) ?_ ?_) | (with_reducible refine below_grown (by assumption) ?_ ?_ ?_) | omega | (simp; done) | (simp; omega))))) hm12 HU.out).mono ?_); rintro e w7 ⟨rfl, hb7⟩) | skip)
                    (try simp only [])
                    exact hK _ _ rfl (by (repeat' (first | (with_reducible exact Below.refl _ _) | (with_reducible assumption) | (with_reducible refine Below.alloc ?_ ?_ _) | (with_reducible refine below_drewN ?_ _) | (with_reducible refine Below.drew ?_) | (with_reducible refine Below.setCell ?_ ?_ _) | (with_reducible refine below_call (by assumption) ?_ ?_) | go_size)))
                  · (intro v w1 K hb hF hK; (try simp at hF); simp at hK; (try simp only [hF] at hK); have hz := hb.size; (try simp at hz))
                    go_simp
                    (try simp only [])
                    exact hK _ _ rfl (Below.refl _ _)
                  · (intro v w1 K hb hF hK; (try simp at hF); simp at hK; (try simp only [hF] at hK); have hz := hb.size; (try simp at hz))
                    go_simp
                    (try simp only [])
                    exact hK _ _ rfl (Below.refl _ _)
                  · (intro v w1 K hb hF hK; (try simp at hF); simp at hK; (try simp only [hF] at hK); have hz := hb.size; (try simp at hz))
                    go_simp
                    (try simp only [])
                    exact hK _ _ rfl (Below.refl _ _)
                  · (intro v w1 K hb hF hK; (try simp at hF); simp at hK; (try simp only [hF] at hK); have hz := hb.size; (try simp at hz); (try (have hk := bcl hb (wo.heap.size) (by first | omega | (simp; done) | (simp; omega)); have hc := hk.1; have hf := hk.2.1; have hk := hk.2.2)); (try (have hk := bcl hb (w.heap.size) (by first | omega | (simp; done) | (simp; omega)); have hc := hk.1; have hf := hk.2.1; have hk := hk.2.2)))
                    go_simp
                    (try simp only [])
                    exact hK _ _ rfl (Below.refl _ _)
                  · (intro v w1 K hb hF hK; (try simp at hF); simp at hK; (try simp only [hF] at hK); have hz := hb.size; (try simp at hz))
                    go_simp
                    (try simp only [])
                    exact hK _ _ rfl (Below.refl _ _)
                  · (intro v w1 K hb hF hK; (try simp at hF); simp at hK; (try simp only [hF] at hK); have hz := hb.size; (try simp at hz))
                    go_simp
                    (try simp only [])
                    exact hK _ _ rfl (Below.refl _ _)
                  · (intro v w1 K hb hF hK; (try simp at hF); simp at hK; (try simp only [hF] at hK); have hz := hb.size; (try simp at hz))
                    go_simp
                    (try simp only [])
                    exact hK _ _ rfl (Below.refl _ _)
                  · (intro v w1 K hb hF hK; (try simp at hF); simp at hK; (try simp only [hF] at hK); have hz := hb.size; (try simp at hz); (try (have hk := bcl hb (wo.heap.size) (by first | omega | (simp; done) | (simp; omega)); have hc := hk.1; have hf := hk.2.1; have hk := hk.2.2)); (try (have hk := bcl hb (w.heap.size) (by first | omega | (simp; done) | (simp; omega)); have hc := hk.1; have hf := hk.2.1; have hk := hk.2.2)))
                    go_simp
                    (try simp only [])
                    exact hK _ _ rfl (Below.refl _ _)
                  · (intro v w1 K hb hF hK; (try simp at hF); simp at hK; (try simp only [hF] at hK); have hz := hb.size; (try simp at hz))
                    go_simp
                    (try simp only [])
                    exact hK _ _ rfl (Below.refl _ _)
                  · (intro v w1 K hb hF hK; (try simp at hF); simp at hK; (try simp only [hF] at hK); have hz := hb.size; (try simp at hz); (try (have hk := bcl hb (wo.heap.size) (by first | omega | (simp; done) | (simp; omega)); have hc := hk.1; have hf := hk.2.1; have hk := hk.2.2)); (try (have hk := bcl hb (w.heap.size) (by first | omega | (simp; done) | (simp; omega)); have hc := hk.1; have hf := hk.2.1; have hk := hk.2.2)))
                    go_simp
                    (try simp only [])
                    exact hK _ _ rfl (Below.refl _ _)
                  · (intro v w1 K hb hF hK; (try simp at hF); simp at hK; (try simp only [hF] at hK); have hz := hb.size; (try simp at hz))
                    go_simp
                    (try simp only [])
                    exact hK _ _ rfl (Below.refl _ _)
                  · (intro v w1 K hb hF hK; (try simp at hF); simp at hK; (try simp only [hF] at hK); have hz := hb.size; (try simp at hz))
                    go_simp
                    (try simp only [])
                    exact hK _ _ rfl (Below.refl _ _)
                  · (intro v w1 K hb hF hK; (try simp at hF); simp at hK; (try simp only [hF] at hK); have hz := hb.size; (try simp at hz))
                    go_simp
                    (try simp only [])
                    exact hK _ _ rfl (Below.refl _ _)
                  · (intro v w1 K hb hF hK; (try simp at hF); simp at hK; (try simp only [hF] at hK); have hz := hb.size; (try simp at hz))
                    go_simp
                    (try simp only [])
                    exact hK _ _ rfl (Below.refl _ _)
                  · (intro v w1 K hb hF hK; (try simp at hF); simp at hK; (try simp only [hF] at hK); have hz := hb.size; (try simp at hz); (try (have hk := bcl hb (wo.heap.size) (by first | omega | (simp; done) | (simp; omega)); have hc := hk.1; have hf := hk.2.1; have hk := hk.2.2)); (try (have hk := bcl hb (w.heap.size) (by first | omega | (simp; done) | (simp; omega)); have hc := hk.1; have hf := hk.2.1; have hk := hk.2.2)))
                    go_simp
                    (try simp only [])
                    exact hK _ _ rfl (Below.refl _ _)
                  · (intro v w1 K hb hF hK; (try simp at hF); simp at hK; (try simp only [hF] at hK); have hz := hb.size; (try simp at hz); (try (have hk := bcl hb (wo.heap.size) (by first | omega | (simp; done) | (simp; omega)); have hc := hk.1; have hf := hk.2.1; have hk := hk.2.2)); (try (have hk := bcl hb (w.heap.size) (by first | omega | (simp; done) | (simp; omega)); have hc := hk.1; have hf := hk.2.1; have hk := hk.2.2)))
                    go_simp
                    (first | (go_at_call 35; (with_reducible refine (in_eq HIN.out _).mono ?_); rintro e w7 ⟨rfl, rfl⟩) | (go_at_call 36; (with_reducible refine (pointsValid_eq cr (HQ.out.below (by (repeat' (first | (with_reducible exact Below.refl _ _) | (with_reducible assumption) | (with_reducible refine Below.alloc ?_ ?_ _) | (with_reducible refine below_drewN ?_ _) | (with_reducible refine Below.drew ?_) | (with_reducible refine Below.setCell ?_ ?_ _) | (with_reducible refine below_call (by assumption) ?_ ?_) | (with_reducible refine below_grown (by assumption) ?_ ?_ ?_) | omega | (simp; done) | (simp; omega))))) hm12 HU.out).mono ?_); rintro e w7 ⟨rfl, hb7⟩) | skip)
                    (try simp only [])
                    exact hK _ _ rfl (by (repeat' (first | (with_reducible exact Below.refl _ _) | (with_reducible assumption) | (with_reducible refine Below.alloc ?_ ?_ _) | (with_reducible refine below_drewN ?_ _) | (with_reducible refine Below.drew ?_) | (with_reducible refine Below.setCell ?_ ?_ _) | (with_reducible refine below_call (by assumption) ?_ ?_) | go_size)))
                  · (intro v w1 K hb hF hK; (try simp at hF); simp at hK; (try simp only [hF] at hK); have hz := hb.size; (try simp at hz))
                    go_simp
                    (try simp only [])
                    exact hK _ _ rfl (Below.refl _ _)
                  · (intro v w1 K hb hF hK; (try simp at hF); simp at hK; (try simp only [hF] at hK); have hz := hb.size; (try simp at hz))
                    go_simp
                    (try simp only [])
                    exact hK _ _ rfl (Below.refl _ _)
                  · (intro v w1 K hb hF hK; (try simp at hF); simp at hK; (try simp only [hF] at hK); have hz := hb.size; (try simp at hz))
                    go_simp
                    (try simp only [])
                    exact hK _ _ rfl (Below.refl _ _)
                  · (intro v w1 K hb hF hK; (try simp at hF); simp at hK; (try simp only [hF] at hK); have hz := hb.size; (try simp at hz))
                    go_simp
                    (try simp only [])
                    exact hK _ _ rfl (Below.refl _ _)
                  · (intro v w1 K hb hF hK; (try simp at hF); simp at hK; (try simp only [hF] at hK); have hz := hb.size; (try simp at hz))
                    go_simp
                    (try simp only [])
                    exact hK _ _ rfl (Below.refl _ _)
                  · (intro v w1 K hb hF hK; (try simp at hF); simp at hK; (try simp only [hF] at hK); have hz := hb.size; (try simp at hz))
                    go_simp
                    (try simp only [])
                    exact hK _ _ rfl (Below.refl _ _)
                  · (intro v w1 K hb hF hK; (try simp at hF); simp at hK; (try simp only [hF] at hK); have hz := hb.size; (try simp at hz); (try (have hk := bcl hb (wo.heap.size) (by first | omega | (simp; done) | (simp; omega)); have hc := hk.1; have hf := hk.2.1; have hk := hk.2.2)); (try (have hk := bcl hb (w.heap.size) (by first | omega | (simp; done) | (simp; omega)); have hc := hk.1; have hf := hk.2.1; have hk := hk.2.2)))
                    go_simp
                    (try simp only [])
                    exact hK _ _ rfl (Below.refl _ _)
                  · (intro v w1 K hb hF hK; (try simp at hF); simp at hK; (try simp only [hF] at hK); have hz := hb.size; (try simp at hz))
                    go_simp
                    (try simp only [])
                    exact hK _ _ rfl (Below.refl _ _)
                  · (intro v w1 K hb hF hK; (try simp at hF); simp at hK; (try simp only [hF] at hK); have hz := hb.size; (try simp at hz))
                    go_simp
                    (try simp only [])
                    exact hK _ _ rfl (Below.refl _ _)
                  · (intro v w1 K hb hF hK; (try simp at hF); simp at hK; (try simp only [hF] at hK); have hz := hb.size; (try simp at hz))
                    go_simp
                    (try simp only [])
                    exact hK _ _ rfl (Below.refl _ _)
                case hfo => exact trivial
                (intro v w1 hb hF; simp [List.range, List.range.loop] at hF; have hz := hb.size; (try simp at hz); (try (have hk := bcl hb (wo.heap.size) (by first | omega | (simp; done) | (simp; omega)); have hc := hk.1; have hf := hk.2.1; have hk := hk.2.2)); (try (have hk := bcl hb (w.heap.size) (by first | omega | (simp; done) | (simp; omega)); have hc := hk.1; have hf := hk.2.1; have hk := hk.2.2)))
                obtain ⟨e0, e1, e2, e3, e4, e5, e6, e7, e8, e9, e10, e11, e12, e13, e14, e15, e16, e17, e18, e19, e20, e21, e22, e23, e24, e25, e26, e27, e28⟩ := hF
                simp only [List.length_cons, List.length_nil, List.drop_succ_cons, List.drop_zero, e0, e1, e2, e3, e4, e5, e6, e7, e8, e9, e10, e11, e12, e13, e14, e15, e16, e17, e18, e19, e20, e21, e22, e23, e24, e25, e26, e27, e28]
                clear e0 e1 e2 e3 e4 e5 e6 e7 e8 e9 e10 e11 e12 e13 e14 e15 e16 e17 e18 e19 e20 e21 e22 e23 e24 e25 e26 e27 e28 v
                go_wp2
                go_ret
                exact ⟨rfl, by (repeat' (first | (with_reducible exact Below.refl _ _) | (with_reducible assumption) | (with_reducible refine Below.alloc ?_ ?_ _) | (with_reducible refine below_drewN ?_ _) | (with_reducible refine Below.drew ?_) | (with_reducible refine Below.setCell ?_ ?_ _) | (with_reducible refine below_call (by assumption) ?_ ?_) | (with_reducible refine below_grown (by assumption) ?_ ?_ ?_) | omega | (simp; done) | (simp; omega)))⟩
              | true =>
                simp only [Bool.true_and] at HVK
                by_cases hq0 : q = 0
                · subst hq0
                  have HOK : Hid (verbOk L k = true) := Lib.hid (by rw [HVK.out]; rfl)
                  rw [show ((0 : Nat) : Int) = 0 from rfl] at x0 HIN
                  clear hin hq5 hq5i
                  go_wp2_with fail
                  apply wp_region_pure (by kernel_rfl) ([] :: [0] :: [1] :: [2] :: [3] :: [4] :: [4, 5] :: [4, 6] :: [4] :: [4] :: [4, 9] :: [4, 8, 10] :: [4, 11] :: [4, 7, 12] :: [4, 13] :: [14] :: [15] :: [15, 16] :: [15, 17] :: [15, 18] :: [15, 19] :: [20] :: [21] :: [21, 22] :: [23] :: [23, 24] :: [23, 25] :: [21, 23, 26] :: [21, 27] :: []) (RS.det [] _ :: RS.det [0] _ :: RS.det [1] _ :: RS.det [2] _ :: RS.det [3] _ :: RS.det [4] _ :: RS.det [4, 5] _ :: RS.det [4, 6] _ :: RS.det [4] _ :: RS.det [4] _ :: RS.det [4, 9] _ :: RS.det [4, 8, 10] _ :: RS.det [4, 11] _ :: RS.det [4, 7, 12] _ :: RS.det [4, 13] _ :: RS.det [14] _ :: RS.det [15] _ :: RS.det [15, 16] _ :: RS.det [15, 17] _ :: RS.det [15, 18] _ :: RS.det [15, 19] _ :: RS.det [20] _ :: RS.det [21] _ :: RS.det [21, 22] _ :: RS.det [23] _ :: RS.det [23, 24] _ :: RS.det [23, 25] _ :: RS.det [21, 23, 26] _ :: RS.det [21, 27] _ :: []) [] rfl (by kernel_rfl) (fun h => absurd rfl h) (by kernel_rfl) (by kernel_rfl) (st_det (st_det (st_det (st_det (st_det (st_det (st_det (st_det (st_det (st_det (st_det (st_det (st_det (st_det (st_det (st_det (st_det (st_det (st_det (st_det (st_det (st_det (st_det (st_det (st_det (st_det (st_det (st_det (st_det st_nil))))))))))))))))))))))))))))) _ (fun v => by simp; rfl)
                  case hop =>
                    simp only [Obls]
                    refine ⟨?_, ?_, ?_, ?_, ?_, ?_, ?_, ?_, ?_, ?_, ?_, ?_, ?_, ?_, ?_, ?_, ?_, ?_, ?_, ?_, ?_, ?_, ?_, ?_, ?_, ?_, ?_, ?_, ?_, trivial⟩
                    · (intro v w1 K hb hF hK; (try simp at hF); simp at hK; (try simp only [hF] at hK); have hz := hb.size; (try simp at hz))
                      go_simp
                      (try simp only [])
                      exact hK _ _ rfl (Below.refl _ _)
                    · (intro v w1 K hb hF hK; (try simp at hF); simp at hK; (try simp only [hF] at hK); have hz := hb.size; (try simp at hz); (try (have hk := bcl hb (wo.heap.size) (by first | omega | (simp; done) | (simp; omega)); have hc := hk.1; have hf := hk.2.1; have hk := hk.2.2)); (try (have hk := bcl hb (w.heap.size) (by first | omega | (simp; done) | (simp; omega)); have hc := hk.1; have hf := hk.2.1; have hk := hk.2.2)))
                      go_simp
                      (try simp only [])
                      exact hK _ _ rfl (Below.refl _ _)
                    · (intro v w1 K hb hF hK; (try simp at hF); simp at hK; (try simp only [hF] at hK); have hz := hb.size; (try simp at hz); (try (have hk := bcl hb (wo.heap.size) (by first | omega | (simp; done) | (simp; omega)); have hc := hk.1; have hf := hk.2.1; have hk := hk.2.2)); (try (have hk := bcl hb (w.heap.size) (by first | omega | (simp; done) | (simp; omega)); have hc := hk.1; have hf := hk.2.1; have hk := hk.2.2)))
                      go_simp
                      (first | (go_at_call 35; (with_reducible refine (in_eq HIN.out _).mono ?_); rintro e w7 ⟨rfl, rfl⟩) | (go_at_call 36; (with_reducible refine (pointsValid_eq cr (HQ.out.below (by (repeat' (first | (with_reducible exact Below.refl _ _) | (with_reducible assumption) | (with_reducible refine Below.alloc ?_ ?_ _) | (with_reducible refine below_drewN ?_ _) | (with_reducible refine Below.drew ?_) | (with_reducible refine Below.setCell ?_ ?_ _) | (with_reducible refine below_call (by assumption) ?_ ?_) | (with_reducible refine below_grown (by assumption) ?_ ?_ ?_) | omega | (simp; done) | (simp; omega))))) hm12 HU.out).mono ?_); rintro e w7 ⟨rfl, hb7⟩) | skip)
                      (try simp only [])
                      exact hK _ _ rfl (by (repeat' (first | (with_reducible exact Below.refl _ _) | (with_reducible assumption) | (with_reducible refine Below.alloc ?_ ?_ _) | (with_reducible refine below_drewN ?_ _) | (with_reducible refine Below.drew ?_) | (with_reducible refine Below.setCell ?_ ?_ _) | (with_reducible refine below_call (by assumption) ?_ ?_) | go_size)))
                    · (intro v w1 K hb hF hK; (try simp at hF); simp at hK; (try simp only [hF] at hK); have hz := hb.size; (try simp at hz))
                      go_simp
                      (try simp only [])
                      exact hK _ _ rfl (Below.refl _ _)
                    · (intro v w1 K hb hF hK; (try simp at hF); simp at hK; (try simp only [hF] at hK); have hz := hb.size; (try simp at hz))
                      go_simp
                      (try simp only [])
                      exact hK _ _ rfl (Below.refl _ _)
                    · (intro v w1 K hb hF hK; (try simp at hF); simp at hK; (try simp only [hF] at hK); have hz := hb.size; (try simp at hz))
                      go_simp
                      (try simp only [])
                      exact hK _ _ rfl (Below.refl _ _)
                    · (intro v w1 K hb hF hK; (try simp at hF); simp at hK; (try simp only [hF] at hK); have hz := hb.size; (try simp at hz); (try (have hk := bcl hb (wo.heap.size) (by first | omega | (simp; done) | (simp; omega)); have hc := hk.1; have hf := hk.2.1; have hk := hk.2.2)); (try (have hk := bcl hb (w.heap.size) (by first | omega | (simp; done) | (simp; omega)); have hc := hk.1; have hf := hk.2.1; have hk := hk.2.2)))
                      go_simp
                      (try simp only [])
                      exact hK _ _ rfl (Below.refl _ _)
                    · (intro v w1 K hb hF hK; (try simp at hF); simp at hK; (try simp only [hF] at hK); have hz := hb.size; (try simp at hz))
                      go_simp
                      (try simp only [])
                      exact hK _ _ rfl (Below.refl _ _)
                    · (intro v w1 K hb hF hK; (try simp at hF); simp at hK; (try simp only [hF] at hK); have hz := hb.size; (try simp at hz))
                      go_simp
                      (try simp only [])
                      exact hK _ _ rfl (Below.refl _ _)
                    · (intro v w1 K hb hF hK; (try simp at hF); simp at hK; (try simp only [hF] at hK); have hz := hb.size; (try simp at hz))
                      go_simp
                      (try simp only [])
                      exact hK _ _ rfl (Below.refl _ _)
                    · (intro v w1 K hb hF hK; (try simp at hF); simp at hK; (try simp only [hF] at hK); have hz := hb.size; (try simp at hz); (try (have hk := bcl hb (wo.heap.size) (by first | omega | (simp; done) | (simp; omega)); have hc := hk.1; have hf := hk.2.1; have hk := hk.2.2)); (try (have hk := bcl hb (w.heap.size) (by first | omega | (simp; done) | (simp; omega)); have hc := hk.1; have hf := hk.2.1; have hk := hk.2.2)))
                      go_simp
                      (try simp only [])
                      exact hK _ _ rfl (Below.refl _ _)
                    · (intro v w1 K hb hF hK; (try simp at hF); simp at hK; (try simp only [hF] at hK); have hz := hb.size; (try simp at hz))
                      go_simp
                      (try simp only [])
                      exact hK _ _ rfl (Below.refl _ _)
                    · (intro v w1 K hb hF hK; (try simp at hF); simp at hK; (try simp only [hF] at hK); have hz := hb.size; (try simp at hz); (try (have hk := bcl hb (wo.heap.size) (by first | omega | (simp; done) | (simp; omega)); have hc := hk.1; have hf := hk.2.1; have hk := hk.2.2)); (try (have hk := bcl hb (w.heap.size) (by first | omega | (simp; done) | (simp; omega)); have hc := hk.1; have hf := hk.2.1; have hk := hk.2.2)))
                      go_simp
                      (try simp only [])
                      exact hK _ _ rfl (Below.refl _ _)
                    · (intro v w1 K hb hF hK; (try simp at hF); simp at hK; (try simp only [hF] at hK); have hz := hb.size; (try simp at hz))
                      go_simp
                      (try simp only [])
                      exact hK _ _ rfl (Below.refl _ _)
                    · (intro v w1 K hb hF hK; (try simp at hF); simp at hK; (try simp only [hF] at hK); have hz := hb.size; (try simp at hz))
                      go_simp
                      (try simp only [])
                      exact hK _ _ rfl (Below.refl _ _)
                    · (intro v w1 K hb hF hK; (try simp at hF); simp at hK; (try simp only [hF] at hK); have hz := hb.size; (try simp at hz))
                      go_simp
                      (try simp only [])
                      exact hK _ _ rfl (Below.refl _ _)
                    · (intro v w1 K hb hF hK; (try simp at hF); simp at hK; (try simp only [hF] at hK); have hz := hb.size; (try simp at hz))
                      go_simp
                      (try simp only [])
                      exact hK _ _ rfl (Below.refl _ _)
                    · (intro v w1 K hb hF hK; (try simp at hF); simp at hK; (try simp only [hF] at hK); have hz := hb.size; (try simp at hz); (try (have hk := bcl hb (wo.heap.size) (by first | omega | (simp; done) | (simp; omega)); have hc := hk.1; have hf := hk.2.1; have hk := hk.2.2)); (try (have hk := bcl hb (w.heap.size) (by first | omega | (simp; done) | (simp; omega)); have hc := hk.1; have hf := hk.2.1; have hk := hk.2.2)))
                      go_simp
                      (try simp only [])
                      exact hK _ _ rfl (Below.refl _ _)
                    · (intro v w1 K hb hF hK; (try simp at hF); simp at hK; (try simp only [hF] at hK); have hz := hb.size; (try simp at hz); (try (have hk := bcl hb (wo.heap.size) (by first | omega | (simp; done) | (simp; omega)); have hc := hk.1; have hf := hk.2.1; have hk := hk.2.2)); (try (have hk := bcl hb (w.heap.size) (by first | omega | (simp; done) | (simp; omega)); have hc := hk.1; have hf := hk.2.1; have hk := hk.2.2)))
                      go_simp
                      (first | (go_at_call 35; (with_reducible refine (in_eq HIN.out _).mono ?_); rintro e w7 ⟨rfl, rfl⟩) | (go_at_call 36; (with_reducible refine (pointsValid_eq cr (HQ.out.below (by (repeat' (first | (with_reducible exact Below.refl _ _) | (with_reducible assumption) | (with_reducible refine Below.alloc ?_ ?_ _) | (with_reducible refine below_drewN ?_ _) | (with_reducible refine Below.drew ?_) | (with_reducible refine Below.setCell ?_ ?_ _) | (with_reducible refine below_call (by assumption) ?_ ?_) | (with_reducible refine below_grown (by assumption) ?_ ?_ ?_) | omega | (simp; done) | (simp; omega))))) hm12 HU.out).mono ?_); rintro e w7 ⟨rfl, hb7⟩) | skip)
                      (try simp only [])
                      exact hK _ _ rfl (by (repeat' (first | (with_reducible exact Below.refl _ _) | (with_reducible assumption) | (with_reducible refine Below.alloc ?_ ?_ _) | (with_reducible refine below_drewN ?_ _) | (with_reducible refine Below.drew ?_) | (with_reducible refine Below.setCell ?_ ?_ _) | (with_reducible refine below_call (by assumption) ?_ ?_) | go_size)))
                    · (intro v w1 K hb hF hK; (try simp at hF); simp at hK; (try simp only [hF] at hK); have hz := hb.size; (try simp at hz))
                      go_simp
                      (try simp only [])
                      exact hK _ _ rfl (Below.refl _ _)
                    · (intro v w1 K hb hF hK; (try simp at hF); simp at hK; (try simp only [hF] at hK); have hz := hb.size; (try simp at hz))
                      go_simp
                      (try simp only [])
                      exact hK _ _ rfl (Below.refl _ _)
                    · (intro v w1 K hb hF hK; (try simp at hF); simp at hK; (try simp only [hF] at hK); have hz := hb.size; (try simp at hz))
                      go_simp
                      (try simp only [])
                      exact hK _ _ rfl (Below.refl _ _)
                    · (intro v w1 K hb hF hK; (try simp at hF); simp at hK; (try simp only [hF] at hK); have hz := hb.size; (try simp at hz))
                      go_simp
                      (try simp only [])
                      exact hK _ _ rfl (Below.refl _ _)
                    · (intro v w1 K hb hF hK; (try simp at hF); simp at hK; (try simp only [hF] at hK); have hz := hb.size; (try simp at hz))
                      go_simp
                      (try simp only [])
                      exact hK _ _ rfl (Below.refl _ _)
                    · (intro v w1 K hb hF hK; (try simp at hF); simp at hK; (try simp only [hF] at hK); have hz := hb.size; (try simp at hz))
                      go_simp
                      (try simp only [])
                      exact hK _ _ rfl (Below.refl _ _)
                    · (intro v w1 K hb hF hK; (try simp at hF); simp at hK; (try simp only [hF] at hK); have hz := hb.size; (try simp at hz); (try (have hk := bcl hb (wo.heap.size) (by first | omega | (simp; done) | (simp; omega)); have hc := hk.1; have hf := hk.2.1; have hk := hk.2.2)); (try (have hk := bcl hb (w.heap.size) (by first | omega | (simp; done) | (simp; omega)); have hc := hk.1; have hf := hk.2.1; have hk := hk.2.2)))
                      go_simp
                      (try simp only [])
                      exact hK _ _ rfl (Below.refl _ _)
                    · (intro v w1 K hb hF hK; (try simp at hF); simp at hK; (try simp only [hF] at hK); have hz := hb.size; (try simp at hz))
                      go_simp
                      (try simp only [])
                      exact hK _ _ rfl (Below.refl _ _)
                    · (intro v w1 K hb hF hK; (try simp at hF); simp at hK; (try simp only [hF] at hK); have hz := hb.size; (try simp at hz))
                      go_simp
                      (try simp only [])
                      exact hK _ _ rfl (Below.refl _ _)
                    · (intro v w1 K hb hF hK; (try simp at hF); simp at hK; (try simp only [hF] at hK); have hz := hb.size; (try simp at hz))
                      go_simp
                      (try simp only [])
                      exact hK _ _ rfl (Below.refl _ _)
                  case hfo => exact trivial
                  (intro v w1 hb hF; simp [List.range, List.range.loop] at hF; have hz := hb.size; (try simp at hz); (try (have hk := bcl hb (wo.heap.size) (by first | omega | (simp; done) | (simp; omega)); have hc := hk.1; have hf := hk.2.1; have hk := hk.2.2)); (try (have hk := bcl hb (w.heap.size) (by first | omega | (simp; done) | (simp; omega)); have hc := hk.1; have hf := hk.2.1; have hk := hk.2.2)))
                  obtain ⟨e0, e1, e2, e3, e4, e5, e6, e7, e8, e9, e10, e11, e12, e13, e14, e15, e16, e17, e18, e19, e20, e21, e22, e23, e24, e25, e26, e27, e28⟩ := hF
                  simp only [List.length_cons, List.length_nil, List.drop_succ_cons, List.drop_zero, e0, e1, e2, e3, e4, e5, e6, e7, e8, e9, e10, e11, e12, e13, e14, e15, e16, e17, e18, e19, e20, e21, e22, e23, e24, e25, e26, e27, e28]
                  clear e0 e1 e2 e3 e4 e5 e6 e7 e8 e9 e10 e11 e12 e13 e14 e15 e16 e17 e18 e19 e20 e21 e22 e23 e24 e25 e26 e27 e28 v
                  go_wp2
                  go_roundw
                  case rel => exact ⟨k + 1, by omega, by go_num, by rw [HST.out, Int.natCast_add], by simp only [verbsOk, HVO.out, HOK.out, Bool.and_self], blk_below (blk_alloc HLIT.out _) hb, by (repeat' (first | (with_reducible exact Below.refl _ _) | (with_reducible assumption) | (with_reducible refine Below.alloc ?_ ?_ _) | (with_reducible refine below_drewN ?_ _) | (with_reducible refine Below.drew ?_) | (with_reducible refine Below.setCell ?_ ?_ _) | (with_reducible refine below_call (by assumption) ?_ ?_) | (with_reducible refine below_grown (by assumption) ?_ ?_ ?_) | omega | (simp; done) | (simp; omega)))⟩
                  case measure => simp [intOf]; omega
                · have hqi : ¬ (q : Int) = 0 := by omega
                  have e0 : decide ((q : Int) = 0) = false := decide_eq_false (by omega)
                  have e1 : ((q : Int) == 0) = false := by simp; omega
                  have e2 : decide (q = 0) = false := decide_eq_false hq0
                  have e3 : (q == 0) = false := by simp [hq0]
                  have HOK : Hid (verbOk L k = false) := Lib.hid (by rw [HVK.out]; simp; exact hq0)
                  have hv1 : v = false := by rw [← HV.out]; exact path_not (n := k) (by rw [HL.out]; exact hlt) HOK.out
                  subst hv1
                  go_wp2_with fail
                  apply wp_region_pure (by kernel_rfl) ([] :: [0] :: [1] :: [2] :: [3] :: [4] :: [4, 5] :: [4, 6] :: [4] :: [4] :: [4, 9] :: [4, 8, 10] :: [4, 11] :: [4, 7, 12] :: [4, 13] :: [14] :: [15] :: [15, 16] :: [15, 17] :: [15, 18] :: [15, 19] :: [20] :: [21] :: [21, 22] :: [23] :: [23, 24] :: [23, 25] :: [21, 23, 26] :: [21, 27] :: []) (RS.det [] _ :: RS.det [0] _ :: RS.det [1] _ :: RS.det [2] _ :: RS.det [3] _ :: RS.det [4] _ :: RS.det [4, 5] _ :: RS.det [4, 6] _ :: RS.det [4] _ :: RS.det [4] _ :: RS.det [4, 9] _ :: RS.det [4, 8, 10] _ :: RS.det [4, 11] _ :: RS.det [4, 7, 12] _ :: RS.det [4, 13] _ :: RS.det [14] _ :: RS.det [15] _ :: RS.det [15, 16] _ :: RS.det [15, 17] _ :: RS.det [15, 18] _ :: RS.det [15, 19] _ :: RS.det [20] _ :: RS.det [21] _ :: RS.det [21, 22] _ :: RS.det [23] _ :: RS.det [23, 24] _ :: RS.det [23, 25] _ :: RS.det [21, 23, 26] _ :: RS.det [21, 27] _ :: []) [] rfl (by kernel_rfl) (fun h => absurd rfl h) (by kernel_rfl) (by kernel_rfl) (st_det (st_det (st_det (st_det (st_det (st_det (st_det (st_det (st_det (st_det (st_det (st_det (st_det (st_det (st_det (st_det (st_det (st_det (st_det (st_det (st_det (st_det (st_det (st_det (st_det (st_det (st_det (st_det (st_det st_nil))))))))))))))))))))))))))))) _ (fun v => by simp; rfl)
                  case hop =>
                    simp only [Obls]
                    refine ⟨?_, ?_, ?_, ?_, ?_, ?_, ?_, ?_, ?_, ?_, ?_, ?_, ?_, ?_, ?_, ?_, ?_, ?_, ?_, ?_, ?_, ?_, ?_, ?_, ?_, ?_, ?_, ?_, ?_, trivial⟩
                    · (intro v w1 K hb hF hK; (try simp at hF); simp at hK; (try simp only [hF] at hK); have hz := hb.size; (try simp at hz))
                      go_simp
                      (try simp only [])
                      exact hK _ _ rfl (Below.refl _ _)
                    · (intro v w1 K hb hF hK; (try simp at hF); simp at hK; (try simp only [hF] at hK); have hz := hb.size; (try simp at hz); (try (have hk := bcl hb (wo.heap.size) (by first | omega | (simp; done) | (simp; omega)); have hc := hk.1; have hf := hk.2.1; have hk := hk.2.2)); (try (have hk := bcl hb (w.heap.size) (by first | omega | (simp; done) | (simp; omega)); have hc := hk.1; have hf := hk.2.1; have hk := hk.2.2)))
                      go_simp
                      (try simp only [])
                      exact hK _ _ rfl (Below.refl _ _)
                    · (intro v w1 K hb hF hK; (try simp at hF); simp at hK; (try simp only [hF] at hK); have hz := hb.size; (try simp at hz); (try (have hk := bcl hb (wo.heap.size) (by first | omega | (simp; done) | (simp; omega)); have hc := hk.1; have hf := hk.2.1; have hk := hk.2.2)); (try (have hk := bcl hb (w.heap.size) (by first | omega | (simp; done) | (simp; omega)); have hc := hk.1; have hf := hk.2.1; have hk := hk.2.2)))
                      go_simp
                      (first | (go_at_call 35; (with_reducible refine (in_eq HIN.out _).mono ?_); rintro e w7 ⟨rfl, rfl⟩) | (go_at_call 36; (with_reducible refine (pointsValid_eq cr (HQ.out.below (by (repeat' (first | (with_reducible exact Below.refl _ _) | (with_reducible assumption) | (with_reducible refine Below.alloc ?_ ?_ _) | (with_reducible refine below_drewN ?_ _) | (with_reducible refine Below.drew ?_) | (with_reducible refine Below.setCell ?_ ?_ _) | (with_reducible refine below_call (by assumption) ?_ ?_) | (with_reducible refine below_grown (by assumption) ?_ ?_ ?_) | omega | (simp; done) | (simp; omega))))) hm12 HU.out).mono ?_); rintro e w7 ⟨rfl, hb7⟩) | skip)
                      (try simp only [])
                      exact hK _ _ rfl (by (repeat' (first | (with_reducible exact Below.refl _ _) | (with_reducible assumption) | (with_reducible refine Below.alloc ?_ ?_ _) | (with_reducible refine below_drewN ?_ _) | (with_reducible refine Below.drew ?_) | (with_reducible refine Below.setCell ?_ ?_ _) | (with_reducible refine below_call (by assumption) ?_ ?_) | go_size)))
                    · (intro v w1 K hb hF hK; (try simp at hF); simp at hK; (try simp only [hF] at hK); have hz := hb.size; (try simp at hz))
                      go_simp
                      (try simp only [])
                      exact hK _ _ rfl (Below.refl _ _)
                    · (intro v w1 K hb hF hK; (try simp at hF); simp at hK; (try simp only [hF] at hK); have hz := hb.size; (try simp at hz))
                      go_simp
                      (try simp only [])
                      exact hK _ _ rfl (Below.refl _ _)
                    · (intro v w1 K hb hF hK; (try simp at hF); simp at hK; (try simp only [hF] at hK); have hz := hb.size; (try simp at hz))
                      go_simp
                      (try simp only [])
                      exact hK _ _ rfl (Below.refl _ _)
                    · (intro v w1 K hb hF hK; (try simp at hF); simp at hK; (try simp only [hF] at hK); have hz := hb.size; (try simp at hz); (try (have hk := bcl hb (wo.heap.size) (by first | omega | (simp; done) | (simp; omega)); have hc := hk.1; have hf := hk.2.1; have hk := hk.2.2)); (try (have hk := bcl hb (w.heap.size) (by first | omega | (simp; done) | (simp; omega)); have hc := hk.1; have hf := hk.2.1; have hk := hk.2.2)))
                      go_simp
                      (try simp only [])
                      exact hK _ _ rfl (Below.refl _ _)
                    · (intro v w1 K hb hF hK; (try simp at hF); simp at hK; (try simp only [hF] at hK); have hz := hb.size; (try simp at hz))
                      go_simp
                      (try simp only [])
                      exact hK _ _ rfl (Below.refl _ _)
                    · (intro v w1 K hb hF hK; (try simp at hF); simp at hK; (try simp only [hF] at hK); have hz := hb.size; (try simp at hz))
                      go_simp
                      (try simp only [])
                      exact hK _ _ rfl (Below.refl _ _)
                    · (intro v w1 K hb hF hK; (try simp at hF); simp at hK; (try simp only [hF] at hK); have hz := hb.size; (try simp at hz))
                      go_simp
                      (try simp only [])
                      exact hK _ _ rfl (Below.refl _ _)
                    · (intro v w1 K hb hF hK; (try simp at hF); simp at hK; (try simp only [hF] at hK); have hz := hb.size; (try simp at hz); (try (have hk := bcl hb (wo.heap.size) (by first | omega | (simp; done) | (simp; omega)); have hc := hk.1; have hf := hk.2.1; have hk := hk.2.2)); (try (have hk := bcl hb (w.heap.size) (by first | omega | (simp; done) | (simp; omega)); have hc := hk.1; have hf := hk.2.1; have hk := hk.2.2)))
                      go_simp
                      (try simp only [])
                      exact hK _ _ rfl (Below.refl _ _)
                    · (intro v w1 K hb hF hK; (try simp at hF); simp at hK; (try simp only [hF] at hK); have hz := hb.size; (try simp at hz))
                      go_simp
                      (try simp only [])
                      exact hK _ _ rfl (Below.refl _ _)
                    · (intro v w1 K hb hF hK; (try simp at hF); simp at hK; (try simp only [hF] at hK); have hz := hb.size; (try simp at hz); (try (have hk := bcl hb (wo.heap.size) (by first | omega | (simp; done) | (simp; omega)); have hc := hk.1; have hf := hk.2.1; have hk := hk.2.2)); (try (have hk := bcl hb (w.heap.size) (by first | omega | (simp; done) | (simp; omega)); have hc := hk.1; have hf := hk.2.1; have hk := hk.2.2)))
                      go_simp
                      (try simp only [])
                      exact hK _ _ rfl (Below.refl _ _)
                    · (intro v w1 K hb hF hK; (try simp at hF); simp at hK; (try simp only [hF] at hK); have hz := hb.size; (try simp at hz))
                      go_simp
                      (try simp only [])
                      exact hK _ _ rfl (Below.refl _ _)
                    · (intro v w1 K hb hF hK; (try simp at hF); simp at hK; (try simp only [hF] at hK); have hz := hb.size; (try simp at hz))
                      go_simp
                      (try simp only [])
                      exact hK _ _ rfl (Below.refl _ _)
                    · (intro v w1 K hb hF hK; (try simp at hF); simp at hK; (try simp only [hF] at hK); have hz := hb.size; (try simp at hz))
                      go_simp
                      (try simp only [])
                      exact hK _ _ rfl (Below.refl _ _)
                    · (intro v w1 K hb hF hK; (try simp at hF); simp at hK; (try simp only [hF] at hK); have hz := hb.size; (try simp at hz))
                      go_simp
                      (try simp only [])
                      exact hK _ _ rfl (Below.refl _ _)
                    · (intro v w1 K hb hF hK; (try simp at hF); simp at hK; (try simp only [hF] at hK); have hz := hb.size; (try simp at hz); (try (have hk := bcl hb (wo.heap.size) (by first | omega | (simp; done) | (simp; omega)); have hc := hk.1; have hf := hk.2.1; have hk := hk.2.2)); (try (have hk := bcl hb (w.heap.size) (by first | omega | (simp; done) | (simp; omega)); have hc := hk.1; have hf := hk.2.1; have hk := hk.2.2)))
                      go_simp
                      (try simp only [])
                      exact hK _ _ rfl (Below.refl _ _)
                    · (intro v w1 K hb hF hK; (try simp at hF); simp at hK; (try simp only [hF] at hK); have hz := hb.size; (try simp at hz); (try (have hk := bcl hb (wo.heap.size) (by first | omega | (simp; done) | (simp; omega)); have hc := hk.1; have hf := hk.2.1; have hk := hk.2.2)); (try (have hk := bcl hb (w.heap.size) (by first | omega | (simp; done) | (simp; omega)); have hc := hk.1; have hf := hk.2.1; have hk := hk.2.2)))
                      go_simp
                      (first | (go_at_call 35; (with_reducible refine (in_eq HIN.out _).mono ?_); rintro e w7 ⟨rfl, rfl⟩) | (go_at_call 36; (with_reducible refine (pointsValid_eq cr (HQ.out.below (by (repeat' (first | (with_reducible exact Below.refl _ _) | (with_reducible assumption) | (with_reducible refine Below.alloc ?_ ?_ _) | (with_reducible refine below_drewN ?_ _) | (with_reducible refine Below.drew ?_) | (with_reducible refine Below.setCell ?_ ?_ _) | (with_reducible refine below_call (by assumption) ?_ ?_) | (with_reducible refine below_grown (by assumption) ?_ ?_ ?_) | omega | (simp; done) | (simp; omega))))) hm12 HU.out).mono ?_); rintro e w7 ⟨rfl, hb7⟩) | skip)
                      (try simp only [])
                      exact hK _ _ rfl (by (repeat' (first | (with_reducible exact Below.refl _ _) | (with_reducible assumption) | (with_reducible refine Below.alloc ?_ ?_ _) | (with_reducible refine below_drewN ?_ _) | (with_reducible refine Below.drew ?_) | (with_reducible refine Below.setCell ?_ ?_ _) | (with_reducible refine below_call (by assumption) ?_ ?_) | go_size)))
                    · (intro v w1 K hb hF hK; (try simp at hF); simp at hK; (try simp only [hF] at hK); have hz := hb.size; (try simp at hz))
                      go_simp
                      (try simp only [])
                      exact hK _ _ rfl (Below.refl _ _)
                    · (intro v w1 K hb hF hK; (try simp at hF); simp at hK; (try simp only [hF] at hK); have hz := hb.size; (try simp at hz))
                      go_simp
                      (try simp only [])
                      exact hK _ _ rfl (Below.refl _ _)
                    · (intro v w1 K hb hF hK; (try simp at hF); simp at hK; (try simp only [hF] at hK); have hz := hb.size; (try simp at hz))
                      go_simp
                      (try simp only [])
                      exact hK _ _ rfl (Below.refl _ _)
                    · (intro v w1 K hb hF hK; (try simp at hF); simp at hK; (try simp only [hF] at hK); have hz := hb.size; (try simp at hz))
                      go_simp
                      (try simp only [])
                      exact hK _ _ rfl (Below.refl _ _)
                    · (intro v w1 K hb hF hK; (try simp at hF); simp at hK; (try simp only [hF] at hK); have hz := hb.size; (try simp at hz))
                      go_simp
                      (try simp only [])
                      exact hK _ _ rfl (Below.refl _ _)
                    · (intro v w1 K hb hF hK; (try simp at hF); simp at hK; (try simp only [hF] at hK); have hz := hb.size; (try simp at hz))
                      go_simp
                      (try simp only [])
                      exact hK _ _ rfl (Below.refl _ _)
                    · (intro v w1 K hb hF hK; (try simp at hF); simp at hK; (try simp only [hF] at hK); have hz := hb.size; (try simp at hz); (try (have hk := bcl hb (wo.heap.size) (by first | omega | (simp; done) | (simp; omega)); have hc := hk.1; have hf := hk.2.1; have hk := hk.2.2)); (try (have hk := bcl hb (w.heap.size) (by first | omega | (simp; done) | (simp; omega)); have hc := hk.1; have hf := hk.2.1; have hk := hk.2.2)))
                      go_simp
                      (try simp only [])
                      exact hK _ _ rfl (Below.refl _ _)
                    · (intro v w1 K hb hF hK; (try simp at hF); simp at hK; (try simp only [hF] at hK); have hz := hb.size; (try simp at hz))
                      go_simp
                      (try simp only [])
                      exact hK _ _ rfl (Below.refl _ _)
                    · (intro v w1 K hb hF hK; (try simp at hF); simp at hK; (try simp only [hF] at hK); have hz := hb.size; (try simp at hz))
                      go_simp
                      (try simp only [])
                      exact hK _ _ rfl (Below.refl _ _)
                    · (intro v w1 K hb hF hK; (try simp at hF); simp at hK; (try simp only [hF] at hK); have hz := hb.size; (try simp at hz))
                      go_simp
                      (try simp only [])
                      exact hK _ _ rfl (Below.refl _ _)
                  case hfo => exact trivial
                  (intro v w1 hb hF; simp [List.range, List.range.loop] at hF; have hz := hb.size; (try simp at hz); (try (have hk := bcl hb (wo.heap.size) (by first | omega | (simp; done) | (simp; omega)); have hc := hk.1; have hf := hk.2.1; have hk := hk.2.2)); (try (have hk := bcl hb (w.heap.size) (by first | omega | (simp; done) | (simp; omega)); have hc := hk.1; have hf := hk.2.1; have hk := hk.2.2)))
                  obtain ⟨e0, e1, e2, e3, e4, e5, e6, e7, e8, e9, e10, e11, e12, e13, e14, e15, e16, e17, e18, e19, e20, e21, e22, e23, e24, e25, e26, e27, e28⟩ := hF
                  simp only [List.length_cons, List.length_nil, List.drop_succ_cons, List.drop_zero, e0, e1, e2, e3, e4, e5, e6, e7, e8, e9, e10, e11, e12, e13, e14, e15, e16, e17, e18, e19, e20, e21, e22, e23, e24, e25, e26, e27, e28]
                  clear e0 e1 e2 e3 e4 e5 e6 e7 e8 e9 e10 e11 e12 e13 e14 e15 e16 e17 e18 e19 e20 e21 e22 e23 e24 e25 e26 e27 e28 v
                  go_wp2
                  go_ret
                  exact ⟨rfl, by (repeat' (first | (with_reducible exact Below.refl _ _) | (with_reducible assumption) | (with_reducible refine Below.alloc ?_ ?_ _) | (with_reducible refine below_drewN ?_ _) | (with_reducible refine Below.drew ?_) | (with_reducible refine Below.setCell ?_ ?_ _) | (with_reducible refine below_call (by assumption) ?_ ?_) | (with_reducible refine below_grown (by assumption) ?_ ?_ ?_) | omega | (simp; done) | (simp; omega)))⟩
            · have em3 : decide (m = manyV (q : Int)) = false := decide_eq_false hmv
              obtain ⟨mv, hmve⟩ : ∃ mv, manyV (q : Int) = mv := ⟨_, rfl⟩
              rw [em3, HIN.out] at HVK
              simp only [Bool.false_and, Bool.and_false] at HVK
              rw [hmve] at hlq hmv
              have hmi : ¬ (m : Int) = (mv : Int) := by omega
              have em : decide ((m : Int) = (mv : Int)) = false := decide_eq_false hmi
              have em2 : ((m : Int) == (mv : Int)) = false := by simp; omega
              clear em3 hmve
              have hv1 : v = false := by rw [← HV.out]; exact path_not (n := k) (by rw [HL.out]; exact hlt) (by rw [HVK.out])
              subst hv1
              go_wp2_with fail
              apply wp_region_pure (by kernel_rfl) ([] :: [0] :: [1] :: [2] :: [3] :: [4] :: [4, 5] :: [4, 6] :: [4] :: [4] :: [4, 9] :: [4, 8, 10] :: [4, 11] :: [4, 7, 12] :: [4, 13] :: [14] :: [15] :: [15, 16] :: [15, 17] :: [15, 18] :: [15, 19] :: [20] :: [21] :: [21, 22] :: [23] :: [23, 24] :: [23, 25] :: [21, 23, 26] :: [21, 27] :: []) (RS.det [] _ :: RS.det [0] _ :: RS.det [1] _ :: RS.det [2] _ :: RS.det [3] _ :: RS.det [4] _ :: RS.det [4, 5] _ :: RS.det [4, 6] _ :: RS.det [4] _ :: RS.det [4] _ :: RS.det [4, 9] _ :: RS.det [4, 8, 10] _ :: RS.det [4, 11] _ :: RS.det [4, 7, 12] _ :: RS.det [4, 13] _ :: RS.det [14] _ :: RS.det [15] _ :: RS.det [15, 16] _ :: RS.det [15, 17] _ :: RS.det [15, 18] _ :: RS.det [15, 19] _ :: RS.det [20] _ :: RS.det [21] _ :: RS.det [21, 22] _ :: RS.det [23] _ :: RS.det [23, 24] _ :: RS.det [23, 25] _ :: RS.det [21, 23, 26] _ :: RS.det [21, 27] _ :: []) [] rfl (by kernel_rfl) (fun h => absurd rfl h) (by kernel_rfl) (by kernel_rfl) (st_det (st_det (st_det (st_det (st_det (st_det (st_det (st_det (st_det (st_det (st_det (st_det (st_det (st_det (st_det (st_det (st_det (st_det (st_det (st_det (st_det (st_det (st_det (st_det (st_det (st_det (st_det (st_det (st_det st_nil))))))))))))))))))))))))))))) _ (fun v => by simp; rfl)
              case hop =>
                simp only [Obls]
                refine ⟨?_, ?_, ?_, ?_, ?_, ?_, ?_, ?_, ?_, ?_, ?_, ?_, ?_, ?_, ?_, ?_, ?_, ?_, ?_, ?_, ?_, ?_, ?_, ?_, ?_, ?_, ?_, ?_, ?_, trivial⟩
                · (intro v w1 K hb hF hK; (try simp at hF); simp at hK; (try simp only [hF] at hK); have hz := hb.size; (try simp at hz))
                  go_simp
                  (try simp only [])
                  exact hK _ _ rfl (Below.refl _ _)
                · (intro v w1 K hb hF hK; (try simp at hF); simp at hK; (try simp only [hF] at hK); have hz := hb.size; (try simp at hz); (try (have hk := bcl hb (wo.heap.size) (by first | omega | (simp; done) | (simp; omega)); have hc := hk.1; have hf := hk.2.1; have hk := hk.2.2)); (try (have hk := bcl hb (w.heap.size) (by first | omega | (simp; done) | (simp; omega)); have hc := hk.1; have hf := hk.2.1; have hk := hk.2.2)))
                  go_simp
                  (try simp only [])
                  exact hK _ _ rfl (Below.refl _ _)
                · (intro v w1 K hb hF hK; (try simp at hF); simp at hK; (try simp only [hF] at hK); have hz := hb.size; (try simp at hz); (try (have hk := bcl hb (wo.heap.size) (by first | omega | (simp; done) | (simp; omega)); have hc := hk.1; have hf := hk.2.1; have hk := hk.2.2)); (try (have hk := bcl hb (w.heap.size) (by first | omega | (simp; done) | (simp; omega)); have hc := hk.1; have hf := hk.2.1; have hk := hk.2.2)))
                  go_simp
                  (first | (go_at_call 35; (with_reducible refine (in_eq HIN.out _).mono ?_); rintro e w7 ⟨rfl, rfl⟩) | (go_at_call 36; (with_reducible refine (pointsValid_eq cr (HQ.out.below (by (repeat' (first | (with_reducible exact Below.refl _ _) | (with_reducible assumption) | (with_reducible refine Below.alloc ?_ ?_ _) | (with_reducible refine below_drewN ?_ _) | (with_reducible refine Below.drew ?_) | (with_reducible refine Below.setCell ?_ ?_ _) | (with_reducible refine below_call (by assumption) ?_ ?_) | (with_reducible refine below_grown (by assumption) ?_ ?_ ?_) | omega | (simp; done) | (simp; omega))))) hm12 HU.out).mono ?_); rintro e w7 ⟨rfl, hb7⟩) | skip)
                  (try simp only [])
                  exact hK _ _ rfl (by (repeat' (first | (with_reducible exact Below.refl _ _) | (with_reducible assumption) | (with_reducible refine Below.alloc ?_ ?_ _) | (with_reducible refine below_drewN ?_ _) | (with_reducible refine Below.drew ?_) | (with_reducible refine Below.setCell ?_ ?_ _) | (with_reducible refine below_call (by assumption) ?_ ?_) | go_size)))
                · (intro v w1 K hb hF hK; (try simp at hF); simp at hK; (try simp only [hF] at hK); have hz := hb.size; (try simp at hz))
                  go_simp
                  (try simp only [])
                  exact hK _ _ rfl (Below.refl _ _)
                · (intro v w1 K hb hF hK; (try simp at hF); simp at hK; (try simp only [hF] at hK); have hz := hb.size; (try simp at hz))
                  go_simp
                  (try simp only [])
                  exact hK _ _ rfl (Below.refl _ _)
                · (intro v w1 K hb hF hK; (try simp at hF); simp at hK; (try simp only [hF] at hK); have hz := hb.size; (try simp at hz))
                  go_simp
                  (try simp only [])
                  exact hK _ _ rfl (Below.refl _ _)
                · (intro v w1 K hb hF hK; (try simp at hF); simp at hK; (try simp only [hF] at hK); have hz := hb.size; (try simp at hz); (try (have hk := bcl hb (wo.heap.size) (by first | omega | (simp; done) | (simp; omega)); have hc := hk.1; have hf := hk.2.1; have hk := hk.2.2)); (try (have hk := bcl hb (w.heap.size) (by first | omega | (simp; done) | (simp; omega)); have hc := hk.1; have hf := hk.2.1; have hk := hk.2.2)))
                  go_simp
                  (try simp only [])
                  exact hK _ _ rfl (Below.refl _ _)
                · (intro v w1 K hb hF hK; (try simp at hF); simp at hK; (try simp only [hF] at hK); have hz := hb.size; (try simp at hz))
                  go_simp
                  (try simp only [])
                  exact hK _ _ rfl (Below.refl _ _)
                · (intro v w1 K hb hF hK; (try simp at hF); simp at hK; (try simp only [hF] at hK); have hz := hb.size; (try simp at hz))
                  go_simp
                  (try simp only [])
                  exact hK _ _ rfl (Below.refl _ _)
                · (intro v w1 K hb hF hK; (try simp at hF); simp at hK; (try simp only [hF] at hK); have hz := hb.size; (try simp at hz))
                  go_simp
                  (try simp only [])
                  exact hK _ _ rfl (Below.refl _ _)
                · (intro v w1 K hb hF hK; (try simp at hF); simp at hK; (try simp only [hF] at hK); have hz := hb.size; (try simp at hz); (try (have hk := bcl hb (wo.heap.size) (by first | omega | (simp; done) | (simp; omega)); have hc := hk.1; have hf := hk.2.1; have hk := hk.2.2)); (try (have hk := bcl hb (w.heap.size) (by first | omega | (simp; done) | (simp; omega)); have hc := hk.1; have hf := hk.2.1; have hk := hk.2.2)))
                  go_simp
                  (try simp only [])
                  exact hK _ _ rfl (Below.refl _ _)
                · (intro v w1 K hb hF hK; (try simp at hF); simp at hK; (try simp only [hF] at hK); have hz := hb.size; (try simp at hz))
                  go_simp
                  (try simp only [])
                  exact hK _ _ rfl (Below.refl _ _)
                · (intro v w1 K hb hF hK; (try simp at hF); simp at hK; (try simp only [hF] at hK); have hz := hb.size; (try simp at hz); (try (have hk := bcl hb (wo.heap.size) (by first | omega | (simp; done) | (simp; omega)); have hc := hk.1; have hf := hk.2.1; have hk := hk.2.2)); (try (have hk := bcl hb (w.heap.size) (by first | omega | (simp; done) | (simp; omega)); have hc := hk.1; have hf := hk.2.1; have hk := hk.2.2)))
                  go_simp
                  (try simp only [])
                  exact hK _ _ rfl (Below.refl _ _)
                · (intro v w1 K hb hF hK; (try simp at hF); simp at hK; (try simp only [hF] at hK); have hz := hb.size; (try simp at hz))
                  go_simp
                  (try simp only [])
                  exact hK _ _ rfl (Below.refl _ _)
                · (intro v w1 K hb hF hK; (try simp at hF); simp at hK; (try simp only [hF] at hK); have hz := hb.size; (try simp at hz))
                  go_simp
                  (try simp only [])
                  exact hK _ _ rfl (Below.refl _ _)
                · (intro v w1 K hb hF hK; (try simp at hF); simp at hK; (try simp only [hF] at hK); have hz := hb.size; (try simp at hz))
                  go_simp
                  (try simp only [])
                  exact hK _ _ rfl (Below.refl _ _)
                · (intro v w1 K hb hF hK; (try simp at hF); simp at hK; (try simp only [hF] at hK); have hz := hb.size; (try simp at hz))
                  go_simp
                  (try simp only [])
                  exact hK _ _ rfl (Below.refl _ _)
                · (intro v w1 K hb hF hK; (try simp at hF); simp at hK; (try simp only [hF] at hK); have hz := hb.size; (try simp at hz); (try (have hk := bcl hb (wo.heap.size) (by first | omega | (simp; done) | (simp; omega)); have hc := hk.1; have hf := hk.2.1; have hk := hk.2.2)); (try (have hk := bcl hb (w.heap.size) (by first | omega | (simp; done) | (simp; omega)); have hc := hk.1; have hf := hk.2.1; have hk := hk.2.2)))
                  go_simp
                  (try simp only [])
                  exact hK _ _ rfl (Below.refl _ _)
                · (intro v w1 K hb hF hK; (try simp at hF); simp at hK; (try simp only [hF] at hK); have hz := hb.size; (try simp at hz); (try (have hk := bcl hb (wo.heap.size) (by first | omega | (simp; done) | (simp; omega)); have hc := hk.1; have hf := hk.2.1; have hk := hk.2.2)); (try (have hk := bcl hb (w.heap.size) (by first | omega | (simp; done) | (simp; omega)); have hc := hk.1; have hf := hk.2.1; have hk := hk.2.2)))
                  go_simp
                  (first | (go_at_call 35; (with_reducible refine (in_eq HIN.out _).mono ?_); rintro e w7 ⟨rfl, rfl⟩) | (go_at_call 36; (with_reducible refine (pointsValid_eq cr (HQ.out.below (by (repeat' (first | (with_reducible exact Below.refl _ _) | (with_reducible assumption) | (with_reducible refine Below.alloc ?_ ?_ _) | (with_reducible refine below_drewN ?_ _) | (with_reducible refine Below.drew ?_) | (with_reducible refine Below.setCell ?_ ?_ _) | (with_reducible refine below_call (by assumption) ?_ ?_) | (with_reducible refine below_grown (by assumption) ?_ ?_ ?_) | omega | (simp; done) | (simp; omega))))) hm12 HU.out).mono ?_); rintro e w7 ⟨rfl, hb7⟩) | skip)
                  (try simp only [])
                  exact hK _ _ rfl (by (repeat' (first | (with_reducible exact Below.refl _ _) | (with_reducible assumption) | (with_reducible refine Below.alloc ?_ ?_ _) | (with_reducible refine below_drewN ?_ _) | (with_reducible refine Below.drew ?_) | (with_reducible refine Below.setCell ?_ ?_ _) | (with_reducible refine below_call (by assumption) ?_ ?_) | go_size)))
                · (intro v w1 K hb hF hK; (try simp at hF); simp at hK; (try simp only [hF] at hK); have hz := hb.size; (try simp at hz))
                  go_simp
                  (try simp only [])
                  exact hK _ _ rfl (Below.refl _ _)
                · (intro v w1 K hb hF hK; (try simp at hF); simp at hK; (try simp only [hF] at hK); have hz := hb.size; (try simp at hz))
                  go_simp
                  (try simp only [])
                  exact hK _ _ rfl (Below.refl _ _)
                · (intro v w1 K hb hF hK; (try simp at hF); simp at hK; (try simp only [hF] at hK); have hz := hb.size; (try simp at hz))
                  go_simp
                  (try simp only [])
                  exact hK _ _ rfl (Below.refl _ _)
                · (intro v w1 K hb hF hK; (try simp at hF); simp at hK; (try simp only [hF] at hK); have hz := hb.size; (try simp at hz))
                  go_simp
                  (try simp only [])
                  exact hK _ _ rfl (Below.refl _ _)
                · (intro v w1 K hb hF hK; (try simp at hF); simp at hK; (try simp only [hF] at hK); have hz := hb.size; (try simp at hz))
                  go_simp
                  (try simp only [])
                  exact hK _ _ rfl (Below.refl _ _)
                · (intro v w1 K hb hF hK; (try simp at hF); simp at hK; (try simp only [hF] at hK); have hz := hb.size; (try simp at hz))
                  go_simp
                  (try simp only [])
                  exact hK _ _ rfl (Below.refl _ _)
                · (intro v w1 K hb hF hK; (try simp at hF); simp at hK; (try simp only [hF] at hK); have hz := hb.size; (try simp at hz); (try (have hk := bcl hb (wo.heap.size) (by first | omega | (simp; done) | (simp; omega)); have hc := hk.1; have hf := hk.2.1; have hk := hk.2.2)); (try (have hk := bcl hb (w.heap.size) (by first | omega | (simp; done) | (simp; omega)); have hc := hk.1; have hf := hk.2.1; have hk := hk.2.2)))
                  go_simp
                  (try simp only [])
                  exact hK _ _ rfl (Below.refl _ _)
                · (intro v w1 K hb hF hK; (try simp at hF); simp at hK; (try simp only [hF] at hK); have hz := hb.size; (try simp at hz))
                  go_simp
                  (try simp only [])
                  exact hK _ _ rfl (Below.refl _ _)
                · (intro v w1 K hb hF hK; (try simp at hF); simp at hK; (try simp only [hF] at hK); have hz := hb.size; (try simp at hz))
                  go_simp
                  (try simp only [])
                  exact hK _ _ rfl (Below.refl _ _)
                · (intro v w1 K hb hF hK; (try simp at hF); simp at hK; (try simp only [hF] at hK); have hz := hb.size; (try simp at hz))
                  go_simp
                  (try simp only [])
                  exact hK _ _ rfl (Below.refl _ _)
              case hfo => exact trivial
              (intro v w1 hb hF; simp [List.range, List.range.loop] at hF; have hz := hb.size; (try simp at hz); (try (have hk := bcl hb (wo.heap.size) (by first | omega | (simp; done) | (simp; omega)); have hc := hk.1; have hf := hk.2.1; have hk := hk.2.2)); (try (have hk := bcl hb (w.heap.size) (by first | omega | (simp; done) | (simp; omega)); have hc := hk.1; have hf := hk.2.1; have hk := hk.2.2)))
              obtain ⟨e0, e1, e2, e3, e4, e5, e6, e7, e8, e9, e10, e11, e12, e13, e14, e15, e16, e17, e18, e19, e20, e21, e22, e23, e24, e25, e26, e27, e28⟩ := hF
              simp only [List.length_cons, List.length_nil, List.drop_succ_cons, List.drop_zero, e0, e1, e2, e3, e4, e5, e6, e7, e8, e9, e10, e11, e12, e13, e14, e15, e16, e17, e18, e19, e20, e21, e22, e23, e24, e25, e26, e27, e28]
              clear e0 e1 e2 e3 e4 e5 e6 e7 e8 e9 e10 e11 e12 e13 e14 e15 e16 e17 e18 e19 e20 e21 e22 e23 e24 e25 e26 e27 e28 v
              go_wp2
              go_ret
              exact ⟨rfl, by (repeat' (first | (with_reducible exact Below.refl _ _) | (with_reducible assumption) | (with_reducible refine Below.alloc ?_ ?_ _) | (with_reducible refine below_drewN ?_ _) | (with_reducible refine Below.drew ?_) | (with_reducible refine Below.setCell ?_ ?_ _) | (with_reducible refine below_call (by assumption) ?_ ?_) | (with_reducible refine below_grown (by assumption) ?_ ?_ ?_) | omega | (simp; done) | (simp; omega)))⟩
        · have HBG : Hid (decide (k = 0 ∨ (vb L (k - 1)).1 = 4) = false) := Lib.hid (by rw [hvb]; simp [hp4, hk0])
          have ep : decide (pk = 4) = false := decide_eq_false hp4
          have ep2 : (pk == 4) = false := by simp [hp4]
          clear hvb
          have HVK := Lib.hid (verbOk_eq HR.out HM.out HU.out (show decide (k = 0 ∨ (vb L (k - 1)).1 = 4) = false from HBG.out))
          cases b1 with
          | false =>
            have hv1 : v = false := by rw [← HV.out]; exact path_not (n := k) (by rw [HL.out]; exact hlt) (by rw [HVK.out, HIN.out]; simp)
            subst hv1
            go_wp2_with fail
            apply wp_region_pure (by kernel_rfl) ([] :: [0] :: [1] :: [2] :: [3] :: [4] :: [4, 5] :: [4, 6] :: [4] :: [4] :: [4, 9] :: [4, 8, 10] :: [4, 11] :: [4, 7, 12] :: [4, 13] :: [14] :: [15] :: [15, 16] :: [15, 17] :: [15, 18] :: [15, 19] :: [20] :: [21] :: [21, 22] :: [23] :: [23, 24] :: [23, 25] :: [21, 23, 26] :: [21, 27] :: []) (RS.det [] _ :: RS.det [0] _ :: RS.det [1] _ :: RS.det [2] _ :: RS.det [3] _ :: RS.det [4] _ :: RS.det [4, 5] _ :: RS.det [4, 6] _ :: RS.det [4] _ :: RS.det [4] _ :: RS.det [4, 9] _ :: RS.det [4, 8, 10] _ :: RS.det [4, 11] _ :: RS.det [4, 7, 12] _ :: RS.det [4, 13] _ :: RS.det [14] _ :: RS.det [15] _ :: RS.det [15, 16] _ :: RS.det [15, 17] _ :: RS.det [15, 18] _ :: RS.det [15, 19] _ :: RS.det [20] _ :: RS.det [21] _ :: RS.det [21, 22] _ :: RS.det [23] _ :: RS.det [23, 24] _ :: RS.det [23, 25] _ :: RS.det [21, 23, 26] _ :: RS.det [21, 27] _ :: []) [] rfl (by kernel_rfl) (fun h => absurd rfl h) (by kernel_rfl) (by kernel_rfl) (st_det (st_det (st_det (st_det (st_det (st_det (st_det (st_det (st_det (st_det (st_det (st_det (st_det (st_det (st_det (st_det (st_det (st_det (st_det (st_det (st_det (st_det (st_det (st_det (st_det (st_det (st_det (st_det (st_det st_nil))))))))))))))))))))))))))))) _ (fun v => by simp; rfl)
            case hop =>
              simp only [Obls]
              refine ⟨?_, ?_, ?_, ?_, ?_, ?_, ?_, ?_, ?_, ?_, ?_, ?_, ?_, ?_, ?_, ?_, ?_, ?_, ?_, ?_, ?_, ?_, ?_, ?_, ?_, ?_, ?_, ?_, ?_, trivial⟩
              · (intro v w1 K hb hF hK; (try simp at hF); simp at hK; (try simp only [hF] at hK); have hz := hb.size; (try simp at hz))
                go_simp
                (try simp only [])
                exact hK _ _ rfl (Below.refl _ _)
              · (intro v w1 K hb hF hK; (try simp at hF); simp at hK; (try simp only [hF] at hK); have hz := hb.size; (try simp at hz); (try (have hk := bcl hb (wo.heap.size) (by first | omega | (simp; done) | (simp; omega)); have hc := hk.1; have hf := hk.2.1; have hk := hk.2.2)); (try (have hk := bcl hb (w.heap.size) (by first | omega | (simp; done) | (simp; omega)); have hc := hk.1; have hf := hk.2.1; have hk := hk.2.2)))
                go_simp
                (try simp only [])
                exact hK _ _ rfl (Below.refl _ _)
              · (intro v w1 K hb hF hK; (try simp at hF); simp at hK; (try simp only [hF] at hK); have hz := hb.size; (try simp at hz); (try (have hk := bcl hb (wo.heap.size) (by first | omega | (simp; done) | (simp; omega)); have hc := hk.1; have hf := hk.2.1; have hk := hk.2.2)); (try (have hk := bcl hb (w.heap.size) (by first | omega | (simp; done) | (simp; omega)); have hc := hk.1; have hf := hk.2.1; have hk := hk.2.2)))
                go_simp
                (first | (go_at_call 35; (with_reducible refine (in_eq HIN.out _).mono ?_); rintro e w7 ⟨rfl, rfl⟩) | (go_at_call 36; (with_reducible refine (pointsValid_eq cr (HQ.out.below (by (repeat' (first | (with_reducible exact Below.refl _ _) | (with_reducible assumption) | (with_reducible refine Below.alloc ?_ ?_ _) | (with_reducible refine below_drewN ?_ _) | (with_reducible refine Below.drew ?_) | (with_reducible refine Below.setCell ?_ ?_ _) | (with_reducible refine below_call (by assumption) ?_ ?_) | (with_reducible refine below_grown (by assumption) ?_ ?_ ?_) | omega | (simp; done) | (simp; omega))))) hm12 HU.out).mono ?_); rintro e w7 ⟨rfl, hb7⟩) | skip)
                (try simp only [])
                exact hK _ _ rfl (by (repeat' (first | (with_reducible exact Below.refl _ _) | (with_reducible assumption) | (with_reducible refine Below.alloc ?_ ?_ _) | (with_reducible refine below_drewN ?_ _) | (with_reducible refine Below.drew ?_) | (with_reducible refine Below.setCell ?_ ?_ _) | (with_reducible refine below_call (by assumption) ?_ ?_) | go_size)))
              · (intro v w1 K hb hF hK; (try simp at hF); simp at hK; (try simp only [hF] at hK); have hz := hb.size; (try simp at hz))
                go_simp
                (try simp only [])
                exact hK _ _ rfl (Below.refl _ _)
              · (intro v w1 K hb hF hK; (try simp at hF); simp at hK; (try simp only [hF] at hK); have hz := hb.size; (try simp at hz))
                go_simp
                (try simp only [])
                exact hK _ _ rfl (Below.refl _ _)
              · (intro v w1 K hb hF hK; (try simp at hF); simp at hK; (try simp only [hF] at hK); have hz := hb.size; (try simp at hz))
                go_simp
                (try simp only [])
                exact hK _ _ rfl (Below.refl _ _)
              · (intro v w1 K hb hF hK; (try simp at hF); simp at hK; (try simp only [hF] at hK); have hz := hb.size; (try simp at hz); (try (have hk := bcl hb (wo.heap.size) (by first | omega | (simp; done) | (simp; omega)); have hc := hk.1; have hf := hk.2.1; have hk := hk.2.2)); (try (have hk := bcl hb (w.heap.size) (by first | omega | (simp; done) | (simp; omega)); have hc := hk.1; have hf := hk.2.1; have hk := hk.2.2)))
                go_simp
                (try simp only [])
                exact hK _ _ rfl (Below.refl _ _)
              · (intro v w1 K hb hF hK; (try simp at hF); simp at hK; (try simp only [hF] at hK); have hz := hb.size; (try simp at hz))
                go_simp
                (try simp only [])
                exact hK _ _ rfl (Below.refl _ _)
              · (intro v w1 K hb hF hK; (try simp at hF); simp at hK; (try simp only [hF] at hK); have hz := hb.size; (try simp at hz))
                go_simp
                (try simp only [])
                exact hK _ _ rfl (Below.refl _ _)
              · (intro v w1 K hb hF hK; (try simp at hF); simp at hK; (try simp only [hF] at hK); have hz := hb.size; (try simp at hz))
                go_simp
                (try simp only [])
                exact hK _ _ rfl (Below.refl _ _)
              · (intro v w1 K hb hF hK; (try simp at hF); simp at hK; (try simp only [hF] at hK); have hz := hb.size; (try simp at hz); (try (have hk := bcl hb (wo.heap.size) (by first | omega | (simp; done) | (simp; omega)); have hc := hk.1; have hf := hk.2.1; have hk := hk.2.2)); (try (have hk := bcl hb (w.heap.size) (by first | omega | (simp; done) | (simp; omega)); have hc := hk.1; have hf := hk.2.1; have hk := hk.2.2)))
                go_simp
                (try simp only [])
                exact hK _ _ rfl (Below.refl _ _)
              · (intro v w1 K hb hF hK; (try simp at hF); simp at hK; (try simp only [hF] at hK); have hz := hb.size; (try simp at hz))
                go_simp
                (try simp only [])
                exact hK _ _ rfl (Below.refl _ _)
              · (intro v w1 K hb hF hK; (try simp at hF); simp at hK; (try simp only [hF] at hK); have hz := hb.size; (try simp at hz); (try (have hk := bcl hb (wo.heap.size) (by first | omega | (simp; done) | (simp; omega)); have hc := hk.1; have hf := hk.2.1; have hk := hk.2.2)); (try (have hk := bcl hb (w.heap.size) (by first | omega | (simp; done) | (simp; omega)); have hc := hk.1; have hf := hk.2.1; have hk := hk.2.2)))
                go_simp
                (try simp only [])
                exact hK _ _ rfl (Below.refl _ _)
              · (intro v w1 K hb hF hK; (try simp at hF); simp at hK; (try simp only [hF] at hK); have hz := hb.size; (try simp at hz))
                go_simp
                (try simp only [])
                exact hK _ _ rfl (Below.refl _ _)
              · (intro v w1 K hb hF hK; (try simp at hF); simp at hK; (try simp only [hF] at hK); have hz := hb.size; (try simp at hz))
                go_simp
                (try simp only [])
                exact hK _ _ rfl (Below.refl _ _)
              · (intro v w1 K hb hF hK; (try simp at hF); simp at hK; (try simp only [hF] at hK); have hz := hb.size; (try simp at hz))
                go_simp
                (try simp only [])
                exact hK _ _ rfl (Below.refl _ _)
              · (intro v w1 K hb hF hK; (try simp at hF); simp at hK; (try simp only [hF] at hK); have hz := hb.size; (try simp at hz))
                go_simp
                (try simp only [])
                exact hK _ _ rfl (Below.refl _ _)
              · (intro v w1 K hb hF hK; (try simp at hF); simp at hK; (try simp only [hF] at hK); have hz := hb.size; (try simp at hz); (try (have hk := bcl hb (wo.heap.size) (by first | omega | (simp; done) | (simp; omega)); have hc := hk.1; have hf := hk.2.1; have hk := hk.2.2)); (try (have hk := bcl hb (w.heap.size) (by first | omega | (simp; done) | (simp; omega)); have hc := hk.1; have hf := hk.2.1; have hk := hk.2.2)))
                go_simp
                (try simp only [])
                exact hK _ _ rfl (Below.refl _ _)
              · (intro v w1 K hb hF hK; (try simp at hF); simp at hK; (try simp only [hF] at hK); have hz := hb.size; (try simp at hz); (try (have hk := bcl hb (wo.heap.size) (by first | omega | (simp; done) | (simp; omega)); have hc := hk.1; have hf := hk.2.1; have hk := hk.2.2)); (try (have hk := bcl hb (w.heap.size) (by first | omega | (simp; done) | (simp; omega)); have hc := hk.1; have hf := hk.2.1; have hk := hk.2.2)))
                go_simp
                (first | (go_at_call 35; (with_reducible refine (in_eq HIN.out _).mono ?_); rintro e w7 ⟨rfl, rfl⟩) | (go_at_call 36; (with_reducible refine (pointsValid_eq cr (HQ.out.below (by (repeat' (first | (with_reducible exact Below.refl _ _) | (with_reducible assumption) | (with_reducible refine Below.alloc ?_ ?_ _) | (with_reducible refine below_drewN ?_ _) | (with_reducible refine Below.drew ?_) | (with_reducible refine Below.setCell ?_ ?_ _) | (with_reducible refine below_call (by assumption) ?_ ?_) | (with_reducible refine below_grown (by assumption) ?_ ?_ ?_) | omega | (simp; done) | (simp; omega))))) hm12 HU.out).mono ?_); rintro e w7 ⟨rfl, hb7⟩) | skip)
                (try simp only [])
                exact hK _ _ rfl (by (repeat' (first | (with_reducible exact Below.refl _ _) | (with_reducible assumption) | (with_reducible refine Below.alloc ?_ ?_ _) | (with_reducible refine below_drewN ?_ _) | (with_reducible refine Below.drew ?_) | (with_reducible refine Below.setCell ?_ ?_ _) | (with_reducible refine below_call (by assumption) ?_ ?_) | go_size)))
              · (intro v w1 K hb hF hK; (try simp at hF); simp at hK; (try simp only [hF] at hK); have hz := hb.size; (try simp at hz))
                go_simp
                (try simp only [])
                exact hK _ _ rfl (Below.refl _ _)
              · (intro v w1 K hb hF hK; (try simp at hF); simp at hK; (try simp only [hF] at hK); have hz := hb.size; (try simp at hz))
                go_simp
                (try simp only [])
                exact hK _ _ rfl (Below.refl _ _)
              · (intro v w1 K hb hF hK; (try simp at hF); simp at hK; (try simp only [hF] at hK); have hz := hb.size; (try simp at hz))
                go_simp
                (try simp only [])
                exact hK _ _ rfl (Below.refl _ _)
              · (intro v w1 K hb hF hK; (try simp at hF); simp at hK; (try simp only [hF] at hK); have hz := hb.size; (try simp at hz))
                go_simp
                (try simp only [])
                exact hK _ _ rfl (Below.refl _ _)
              · (intro v w1 K hb hF hK; (try simp at hF); simp at hK; (try simp only [hF] at hK); have hz := hb.size; (try simp at hz))
                go_simp
                (try simp only [])
                exact hK _ _ rfl (Below.refl _ _)
              · (intro v w1 K hb hF hK; (try simp at hF); simp at hK; (try simp only [hF] at hK); have hz := hb.size; (try simp at hz))
                go_simp
                (try simp only [])
                exact hK _ _ rfl (Below.refl _ _)
              · (intro v w1 K hb hF hK; (try simp at hF); simp at hK; (try simp only [hF] at hK); have hz := hb.size; (try simp at hz); (try (have hk := bcl hb (wo.heap.size) (by first | omega | (simp; done) | (simp; omega)); have hc := hk.1; have hf := hk.2.1; have hk := hk.2.2)); (try (have hk := bcl hb (w.heap.size) (by first | omega | (simp; done) | (simp; omega)); have hc := hk.1; have hf := hk.2.1; have hk := hk.2.2)))
                go_simp
                (try simp only [])
                exact hK _ _ rfl (Below.refl _ _)
              · (intro v w1 K hb hF hK; (try simp at hF); simp at hK; (try simp only [hF] at hK); have hz := hb.size; (try simp at hz))
                go_simp
                (try simp only [])
                exact hK _ _ rfl (Below.refl _ _)
              · (intro v w1 K hb hF hK; (try simp at hF); simp at hK; (try simp only [hF] at hK); have hz := hb.size; (try simp at hz))
                go_simp
                (try simp only [])
                exact hK _ _ rfl (Below.refl _ _)
              · (intro v w1 K hb hF hK; (try simp at hF); simp at hK; (try simp only [hF] at hK); have hz := hb.size; (try simp at hz))
                go_simp
                (try simp only [])
                exact hK _ _ rfl (Below.refl _ _)
            case hfo => exact trivial
            (intro v w1 hb hF; simp [List.range, List.range.loop] at hF; have hz := hb.size; (try simp at hz); (try (have hk := bcl hb (wo.heap.size) (by first | omega | (simp; done) | (simp; omega)); have hc := hk.1; have hf := hk.2.1; have hk := hk.2.2)); (try (have hk := bcl hb (w.heap.size) (by first | omega | (simp; done) | (simp; omega)); have hc := hk.1; have hf := hk.2.1; have hk := hk.2.2)))
            obtain ⟨e0, e1, e2, e3, e4, e5, e6, e7, e8, e9, e10, e11, e12, e13, e14, e15, e16, e17, e18, e19, e20, e21, e22, e23, e24, e25, e26, e27, e28⟩ := hF
            simp only [List.length_cons, List.length_nil, List.drop_succ_cons, List.drop_zero, e0, e1, e2, e3, e4, e5, e6, e7, e8, e9, e10, e11, e12, e13, e14, e15, e16, e17, e18, e19, e20, e21, e22, e23, e24, e25, e26, e27, e28]
            clear e0 e1 e2 e3 e4 e5 e6 e7 e8 e9 e10 e11 e12 e13 e14 e15 e16 e17 e18 e19 e20 e21 e22 e23 e24 e25 e26 e27 e28 v
            go_wp2
            go_ret
            exact ⟨rfl, by (repeat' (first | (with_reducible exact Below.refl _ _) | (with_reducible assumption) | (with_reducible refine Below.alloc ?_ ?_ _) | (with_reducible refine below_drewN ?_ _) | (with_reducible refine Below.drew ?_) | (with_reducible refine Below.setCell ?_ ?_ _) | (with_reducible refine below_call (by assumption) ?_ ?_) | (with_reducible refine below_grown (by assumption) ?_ ?_ ?_) | omega | (simp; done) | (simp; omega)))⟩
          | true =>
            have hin := inB_true.1 HIN.out
            obtain ⟨q, rfl⟩ : ∃ q : Nat, kd = (q : Int) := ⟨kd.toNat, by omega⟩
            have hq5 : q < 5 := by omega
            have hq5i : (q : Int) < 5 := by omega
            have hlq := lit_at HLIT.out hq5
            by_cases hmv : m = manyV (q : Int)
            · have em3 : decide (m = manyV (q : Int)) = true := decide_eq_true hmv
              rw [em3, HIN.out] at HVK
              simp only [Bool.true_and] at HVK
              rw [← hmv] at hlq
              clear hmv em3
              cases u with
              | false =>
                simp only [Bool.false_and] at HVK
                have hv1 : v = false := by rw [← HV.out]; exact path_not (n := k) (by rw [HL.out]; exact hlt) (by rw [HVK.out])
                subst hv1
                go_wp2_with fail
                apply wp_region_pure (by kernel_rfl) ([] :: [0] :: [1] :: [2] :: [3] :: [4] :: [4, 5] :: [4, 6] :: [4] :: [4] :: [4, 9] :: [4, 8, 10] :: [4, 11] :: [4, 7, 12] :: [4, 13] :: [14] :: [15] :: [15, 16] :: [15, 17] :: [15, 18] :: [15, 19] :: [20] :: [21] :: [21, 22] :: [23] :: [23, 24] :: [23, 25] :: [21, 23, 26] :: [21, 27] :: []) (RS.det [] _ :: RS.det [0] _ :: RS.det [1] _ :: RS.det [2] _ :: RS.det [3] _ :: RS.det [4] _ :: RS.det [4, 5] _ :: RS.det [4, 6] _ :: RS.det [4] _ :: RS.det [4] _ :: RS.det [4, 9] _ :: RS.det [4, 8, 10] _ :: RS.det [4, 11] _ :: RS.det [4, 7, 12] _ :: RS.det [4, 13] _ :: RS.det [14] _ :: RS.det [15] _ :: RS.det [15, 16] _ :: RS.det [15, 17] _ :: RS.det [15, 18] _ :: RS.det [15, 19] _ :: RS.det [20] _ :: RS.det [21] _ :: RS.det [21, 22] _ :: RS.det [23] _ :: RS.det [23, 24] _ :: RS.det [23, 25] _ :: RS.det [21, 23, 26] _ :: RS.det [21, 27] _ :: []) [] rfl (by kernel_rfl) (fun h => absurd rfl h) (by kernel_rfl) (by kernel_rfl) (st_det (st_det (st_det (st_det (st_det (st_det (st_det (st_det (st_det (st_det (st_det (st_det (st_det (st_det (st_det (st_det (st_det (st_det (st_det (st_det (st_det (st_det (st_det (st_det (st_det (st_det (st_det (st_det (st_det st_nil))))))))))))))))))))))))))))) _ (fun v => by simp; rfl)
                case hop =>
                  simp only [Obls]
                  refine ⟨?_, ?_, ?_, ?_, ?_, ?_, ?_, ?_, ?_, ?_, ?_, ?_, ?_, ?_, ?_, ?_, ?_, ?_, ?_, ?_, ?_, ?_, ?_, ?_, ?_, ?_, ?_, ?_, ?_, trivial⟩
                  · (intro v w1 K hb hF hK; (try simp at hF); simp at hK; (try simp only [hF] at hK); have hz := hb.size; (try simp at hz))
                    go_simp
                    (try simp only [])
                    exact hK _ _ rfl (Below.refl _ _)
                  · (intro v w1 K hb hF hK; (try simp at hF); simp at hK; (try simp only [hF] at hK); have hz := hb.size; (try simp at hz); (try (have hk := bcl hb (wo.heap.size) (by first | omega | (simp; done) | (simp; omega)); have hc := hk.1; have hf := hk.2.1; have hk := hk.2.2)); (try (have hk := bcl hb (w.heap.size) (by first | omega | (simp; done) | (simp; omega)); have hc := hk.1; have hf := hk.2.1; have hk := hk.2.2)))
                    go_simp
                    (try simp only [])
                    exact hK _ _ rfl (Below.refl _ _)
                  · (intro v w1 K hb hF hK; (try simp at hF); simp at hK; (try simp only [hF] at hK); have hz := hb.size; (try simp at hz); (try (have hk := bcl hb (wo.heap.size) (by first | omega | (simp; done) | (simp; omega)); have hc := hk.1; have hf := hk.2.1; have hk := hk.2.2)); (try (have hk := bcl hb (w.heap.size) (by first | omega | (simp; done) | (simp; omega)); have hc := hk.1; have hf := hk.2.1; have hk := hk.2.2)))
                    go_simp
                    (first | (go_at_call 35; (with_reducible refine (in_eq HIN.out _).mono ?_); rintro e w7 ⟨rfl, rfl⟩) | (go_at_call 36; (with_reducible refine (pointsValid_eq cr (HQ.out.below (by (repeat' (first | (with_reducible exact Below.refl _ _) | (with_reducible assumption) | (with_reducible refine Below.alloc ?_ ?_ _) | (with_reducible refine below_drewN ?_ _) | (with_reducible refine Below.drew ?_) | (with_reducible refine Below.setCell ?_ ?_ _) | (with_reducible refine below_call (by assumption) ?_ ?_) | (with_reducible refine below_grown (by assumption) ?_ ?_ ?_) | omega | (simp; done) | (simp; omega))))) hm12 HU.out).mono ?_); rintro e w7 ⟨rfl, hb7⟩) | skip)
                    (try simp only [])
                    exact hK _ _ rfl (by (repeat' (first | (with_reducible exact Below.refl _ _) | (with_reducible assumption) | (with_reducible refine Below.alloc ?_ ?_ _) | (with_reducible refine below_drewN ?_ _) | (with_reducible refine Below.drew ?_) | (with_reducible refine Below.setCell ?_ ?_ _) | (with_reducible refine below_call (by assumption) ?_ ?_) | go_size)))
                  · (intro v w1 K hb hF hK; (try simp at hF); simp at hK; (try simp only [hF] at hK); have hz := hb.size; (try simp at hz))
                    go_simp
                    (try simp only [])
                    exact hK _ _ rfl (Below.refl _ _)
                  · (intro v w1 K hb hF hK; (try simp at hF); simp at hK; (try simp only [hF] at hK); have hz := hb.size; (try simp at hz))
                    go_simp
                    (try simp only [])
                    exact hK _ _ rfl (Below.refl _ _)
                  · (intro v w1 K hb hF hK; (try simp at hF); simp at hK; (try simp only [hF] at hK); have hz := hb.size; (try simp at hz))
                    go_simp
                    (try simp only [])
                    exact hK _ _ rfl (Below.refl _ _)
                  · (intro v w1 K hb hF hK; (try simp at hF); simp at hK; (try simp only [hF] at hK); have hz := hb.size; (try simp at hz); (try (have hk := bcl hb (wo.heap.size) (by first | omega | (simp; done) | (simp; omega)); have hc := hk.1; have hf := hk.2.1; have hk := hk.2.2)); (try (have hk := bcl hb (w.heap.size) (by first | omega | (simp; done) | (simp; omega)); have hc := hk.1; have hf := hk.2.1; have hk := hk.2.2)))
                    go_simp
                    (try simp only [])
                    exact hK _ _ rfl (Below.refl _ _)
                  · (intro v w1 K hb hF hK; (try simp at hF); simp at hK; (try simp only [hF] at hK); have hz := hb.size; (try simp at hz))
                    go_simp
                    (try simp only [])
                    exact hK _ _ rfl (Below.refl _ _)
                  · (intro v w1 K hb hF hK; (try simp at hF); simp at hK; (try simp only [hF] at hK); have hz := hb.size; (try simp at hz))
                    go_simp
                    (try simp only [])
                    exact hK _ _ rfl (Below.refl _ _)
                  · (intro v w1 K hb hF hK; (try simp at hF); simp at hK; (try simp only [hF] at hK); have hz := hb.size; (try simp at hz))
                    go_simp
                    (try simp only [])
                    exact hK _ _ rfl (Below.refl _ _)
                  · (intro v w1 K hb hF hK; (try simp at hF); simp at hK; (try simp only [hF] at hK); have hz := hb.size; (try simp at hz); (try (have hk := bcl hb (wo.heap.size) (by first | omega | (simp; done) | (simp; omega)); have hc := hk.1; have hf := hk.2.1; have hk := hk.2.2)); (try (have hk := bcl hb (w.heap.size) (by first | omega | (simp; done) | (simp; omega)); have hc := hk.1; have hf := hk.2.1; have hk := hk.2.2)))
                    go_simp
                    (try simp only [])
                    exact hK _ _ rfl (Below.refl _ _)
                  · (intro v w1 K hb hF hK; (try simp at hF); simp at hK; (try simp only [hF] at hK); have hz := hb.size; (try simp at hz))
                    go_simp
                    (try simp only [])
                    exact hK _ _ rfl (Below.refl _ _)
                  · (intro v w1 K hb hF hK; (try simp at hF); simp at hK; (try simp only [hF] at hK); have hz := hb.size; (try simp at hz); (try (have hk := bcl hb (wo.heap.size) (by first | omega | (simp; done) | (simp; omega)); have hc := hk.1; have hf := hk.2.1; have hk := hk.2.2)); (try (have hk := bcl hb (w.heap.size) (by first | omega | (simp; done) | (simp; omega)); have hc := hk.1; have hf := hk.2.1; have hk := hk.2.2)))
                    go_simp
                    (try simp only [])
                    exact hK _ _ rfl (Below.refl _ _)
                  · (intro v w1 K hb hF hK; (try simp at hF); simp at hK; (try simp only [hF] at hK); have hz := hb.size; (try simp at hz))
                    go_simp
                    (try simp only [])
                    exact hK _ _ rfl (Below.refl _ _)
                  · (intro v w1 K hb hF hK; (try simp at hF); simp at hK; (try simp only [hF] at hK); have hz := hb.size; (try simp at hz))
                    go_simp
                    (try simp only [])
                    exact hK _ _ rfl (Below.refl _ _)
                  · (intro v w1 K hb hF hK; (try simp at hF); simp at hK; (try simp only [hF] at hK); have hz := hb.size; (try simp at hz))
                    go_simp
                    (try simp only [])
                    exact hK _ _ rfl (Below.refl _ _)
                  · (intro v w1 K hb hF hK; (try simp at hF); simp at hK; (try simp only [hF] at hK); have hz := hb.size; (try simp at hz))
                    go_simp
                    (try simp only [])
                    exact hK _ _ rfl (Below.refl _ _)
                  · (intro v w1 K hb hF hK; (try simp at hF); simp at hK; (try simp only [hF] at hK); have hz := hb.size; (try simp at hz); (try (have hk := bcl hb (wo.heap.size) (by first | omega | (simp; done) | (simp; omega)); have hc := hk.1; have hf := hk.2.1; have hk := hk.2.2)); (try (have hk := bcl hb (w.heap.size) (by first | omega | (simp; done) | (simp; omega)); have hc := hk.1; have hf := hk.2.1; have hk := hk.2.2)))
                    go_simp
                    (try simp only [])
                    exact hK _ _ rfl (Below.refl _ _)
                  · (intro v w1 K hb hF hK; (try simp at hF); simp at hK; (try simp only [hF] at hK); have hz := hb.size; (try simp at hz); (try (have hk := bcl hb (wo.heap.size) (by first | omega | (simp; done) | (simp; omega)); have hc := hk.1; have hf := hk.2.1; have hk := hk.2.2)); (try (have hk := bcl hb (w.heap.size) (by first | omega | (simp; done) | (simp; omega)); have hc := hk.1; have hf := hk.2.1; have hk := hk.2.2)))
                    go_simp
                    (first | (go_at_call 35; (with_reducible refine (in_eq HIN.out _).mono ?_); rintro e w7 ⟨rfl, rfl⟩) | (go_at_call 36; (with_reducible refine (pointsValid_eq cr (HQ.out.below (by (repeat' (first | (with_reducible exact Below.refl _ _) | (with_reducible assumption) | (with_reducible refine Below.alloc ?_ ?_ _) | (with_reducible refine below_drewN ?_ _) | (with_reducible refine Below.drew ?_) | (with_reducible refine Below.setCell ?_ ?_ _) | (with_reducible refine below_call (by assumption) ?_ ?_) | (with_reducible refine below_grown (by assumption) ?_ ?_ ?_) | omega | (simp; done) | (simp; omega))))) hm12 HU.out).mono ?_); rintro e w7 ⟨rfl, hb7⟩) | skip)
                    (try simp only [])
                    exact hK _ _ rfl (by (repeat' (first | (with_reducible exact Below.refl _ _) | (with_reducible assumption) | (with_reducible refine Below.alloc ?_ ?_ _) | (with_reducible refine below_drewN ?_ _) | (with_reducible refine Below.drew ?_) | (with_reducible refine Below.setCell ?_ ?_ _) | (with_reducible refine below_call (by assumption) ?_ ?_) | go_size)))
                  · (intro v w1 K hb hF hK; (try simp at hF); simp at hK; (try simp only [hF] at hK); have hz := hb.size; (try simp at hz))
                    go_simp
                    (try simp only [])
                    exact hK _ _ rfl (Below.refl _ _)
                  · (intro v w1 K hb hF hK; (try simp at hF); simp at hK; (try simp only [hF] at hK); have hz := hb.size; (try simp at hz))
                    go_simp
                    (try simp only [])
                    exact hK _ _ rfl (Below.refl _ _)
                  · (intro v w1 K hb hF hK; (try simp at hF); simp at hK; (try simp only [hF] at hK); have hz := hb.size; (try simp at hz))
                    go_simp
                    (try simp only [])
                    exact hK _ _ rfl (Below.refl _ _)
                  · (intro v w1 K hb hF hK; (try simp at hF); simp at hK; (try simp only [hF] at hK); have hz := hb.size; (try simp at hz))
                    go_simp
                    (try simp only [])
                    exact hK _ _ rfl (Below.refl _ _)
                  · (intro v w1 K hb hF hK; (try simp at hF); simp at hK; (try simp only [hF] at hK); have hz := hb.size; (try simp at hz))
                    go_simp
                    (try simp only [])
                    exact hK _ _ rfl (Below.refl _ _)
                  · (intro v w1 K hb hF hK; (try simp at hF); simp at hK; (try simp only [hF] at hK); have hz := hb.size; (try simp at hz))
                    go_simp
                    (try simp only [])
                    exact hK _ _ rfl (Below.refl _ _)
                  · (intro v w1 K hb hF hK; (try simp at hF); simp at hK; (try simp only [hF] at hK); have hz := hb.size; (try simp at hz); (try (have hk := bcl hb (wo.heap.size) (by first | omega | (simp; done) | (simp; omega)); have hc := hk.1; have hf := hk.2.1; have hk := hk.2.2)); (try (have hk := bcl hb (w.heap.size) (by first | omega | (simp; done) | (simp; omega)); have hc := hk.1; have hf := hk.2.1; have hk := hk.2.2)))
                    go_simp
                    (try simp only [])
                    exact hK _ _ rfl (Below.refl _ _)
                  · (intro v w1 K hb hF hK; (try simp at hF); simp at hK; (try simp only [hF] at hK); have hz := hb.size; (try simp at hz))
                    go_simp
                    (try simp only [])
                    exact hK _ _ rfl (Below.refl _ _)
                  · (intro v w1 K hb hF hK; (try simp at hF); simp at hK; (try simp only [hF] at hK); have hz := hb.size; (try simp at hz))
                    go_simp
                    (try simp only [])
                    exact hK _ _ rfl (Below.refl _ _)
                  · (intro v w1 K hb hF hK; (try simp at hF); simp at hK; (try simp only [hF] at hK); have hz := hb.size; (try simp at hz))
                    go_simp
                    (try simp only [])
                    exact hK _ _ rfl (Below.refl _ _)
                case hfo => exact trivial
                (intro v w1 hb hF; simp [List.range, List.range.loop] at hF; have hz := hb.size; (try simp at hz); (try (have hk := bcl hb (wo.heap.size) (by first | omega | (simp; done) | (simp; omega)); have hc := hk.1; have hf := hk.2.1; have hk := hk.2.2)); (try (have hk := bcl hb (w.heap.size) (by first | omega | (simp; done) | (simp; omega)); have hc := hk.1; have hf := hk.2.1; have hk := hk.2.2)))
                obtain ⟨e0, e1, e2, e3, e4, e5, e6, e7, e8, e9, e10, e11, e12, e13, e14, e15, e16, e17, e18, e19, e20, e21, e22, e23, e24, e25, e26, e27, e28⟩ := hF
                simp only [List.length_cons, List.length_nil, List.drop_succ_cons, List.drop_zero, e0, e1, e2, e3, e4, e5, e6, e7, e8, e9, e10, e11, e12, e13, e14, e15, e16, e17, e18, e19, e20, e21, e22, e23, e24, e25, e26, e27, e28]
                clear e0 e1 e2 e3 e4 e5 e6 e7 e8 e9 e10 e11 e12 e13 e14 e15 e16 e17 e18 e19 e20 e21 e22 e23 e24 e25 e26 e27 e28 v
                go_wp2
                go_ret
                exact ⟨rfl, by (repeat' (first | (with_reducible exact Below.refl _ _) | (with_reducible assumption) | (with_reducible refine Below.alloc ?_ ?_ _) | (with_reducible refine below_drewN ?_ _) | (with_reducible refine Below.drew ?_) | (with_reducible refine Below.setCell ?_ ?_ _) | (with_reducible refine below_call (by assumption) ?_ ?_) | (with_reducible refine below_grown (by assumption) ?_ ?_ ?_) | omega | (simp; done) | (simp; omega)))⟩
              | true =>
                have HOK : Hid (verbOk L k = true) := Lib.hid (by rw [HVK.out]; simp)
                go_wp2_with fail
                apply wp_region_pure (by kernel_rfl) ([] :: [0] :: [1] :: [2] :: [3] :: [4] :: [4, 5] :: [4, 6] :: [4] :: [4] :: [4, 9] :: [4, 8, 10] :: [4, 11] :: [4, 7, 12] :: [4, 13] :: [14] :: [15] :: [15, 16] :: [15, 17] :: [15, 18] :: [15, 19] :: [20] :: [21] :: [21, 22] :: [23] :: [23, 24] :: [23, 25] :: [21, 23, 26] :: [21, 27] :: []) (RS.det [] _ :: RS.det [0] _ :: RS.det [1] _ :: RS.det [2] _ :: RS.det [3] _ :: RS.det [4] _ :: RS.det [4, 5] _ :: RS.det [4, 6] _ :: RS.det [4] _ :: RS.det [4] _ :: RS.det [4, 9] _ :: RS.det [4, 8, 10] _ :: RS.det [4, 11] _ :: RS.det [4, 7, 12] _ :: RS.det [4, 13] _ :: RS.det [14] _ :: RS.det [15] _ :: RS.det [15, 16] _ :: RS.det [15, 17] _ :: RS.det [15, 18] _ :: RS.det [15, 19] _ :: RS.det [20] _ :: RS.det [21] _ :: RS.det [21, 22] _ :: RS.det [23] _ :: RS.det [23, 24] _ :: RS.det [23, 25] _ :: RS.det [21, 23, 26] _ :: RS.det [21, 27] _ :: []) [] rfl (by kernel_rfl) (fun h => absurd rfl h) (by kernel_rfl) (by kernel_rfl) (st_det (st_det (st_det (st_det (st_det (st_det (st_det (st_det (st_det (st_det (st_det (st_det (st_det (st_det (st_det (st_det (st_det (st_det (st_det (st_det (st_det (st_det (st_det (st_det (st_det (st_det (st_det (st_det (st_det st_nil))))))))))))))))))))))))))))) _ (fun v => by simp; rfl)
                case hop =>
                  simp only [Obls]
                  refine ⟨?_, ?_, ?_, ?_, ?_, ?_, ?_, ?_, ?_, ?_, ?_, ?_, ?_, ?_, ?_, ?_, ?_, ?_, ?_, ?_, ?_, ?_, ?_, ?_, ?_, ?_, ?_, ?_, ?_, trivial⟩
                  · (intro v w1 K hb hF hK; (try simp at hF); simp at hK; (try simp only [hF] at hK); have hz := hb.size; (try simp at hz))
                    go_simp
                    (try simp only [])
                    exact hK _ _ rfl (Below.refl _ _)
                  · (intro v w1 K hb hF hK; (try simp at hF); simp at hK; (try simp only [hF] at hK); have hz := hb.size; (try simp at hz); (try (have hk := bcl hb (wo.heap.size) (by first | omega | (simp; done) | (simp; omega)); have hc := hk.1; have hf := hk.2.1; have hk := hk.2.2)); (try (have hk := bcl hb (w.heap.size) (by first | omega | (simp; done) | (simp; omega)); have hc := hk.1; have hf := hk.2.1; have hk := hk.2.2)))
                    go_simp
                    (try simp only [])
                    exact hK _ _ rfl (Below.refl _ _)
                  · (intro v w1 K hb hF hK; (try simp at hF); simp at hK; (try simp only [hF] at hK); have hz := hb.size; (try simp at hz); (try (have hk := bcl hb (wo.heap.size) (by first | omega | (simp; done) | (simp; omega)); have hc := hk.1; have hf := hk.2.1; have hk := hk.2.2)); (try (have hk := bcl hb (w.heap.size) (by first | omega | (simp; done) | (simp; omega)); have hc := hk.1; have hf := hk.2.1; have hk := hk.2.2)))
                    go_simp
                    (first | (go_at_call 35; (with_reducible refine (in_eq HIN.out _).mono ?_); rintro e w7 ⟨rfl, rfl⟩) | (go_at_call 36; (with_reducible refine (pointsValid_eq cr (HQ.out.below (by (repeat' (first | (with_reducible exact Below.refl _ _) | (with_reducible assumption) | (with_reducible refine Below.alloc ?_ ?_ _) | (with_reducible refine below_drewN ?_ _) | (with_reducible refine Below.drew ?_) | (with_reducible refine Below.setCell ?_ ?_ _) | (with_reducible refine below_call (by assumption) ?_ ?_) | (with_reducible refine below_grown (by assumption) ?_ ?_ ?_) | omega | (simp; done) | (simp; omega))))) hm12 HU.out).mono ?_); rintro e w7 ⟨rfl, hb7⟩) | skip)
                    (try simp only [])
                    exact hK _ _ rfl (by (repeat' (first | (with_reducible exact Below.refl _ _) | (with_reducible assumption) | (with_reducible refine Below.alloc ?_ ?_ _) | (with_reducible refine below_drewN ?_ _) | (with_reducible refine Below.drew ?_) | (with_reducible refine Below.setCell ?_ ?_ _) | (with_reducible refine below_call (by assumption) ?_ ?_) | go_size)))
                  · (intro v w1 K hb hF hK; (try simp at hF); simp at hK; (try simp only [hF] at hK); have hz := hb.size; (try simp at hz))
                    go_simp
                    (try simp only [])
                    exact hK _ _ rfl (Below.refl _ _)
                  · (intro v w1 K hb hF hK; (try simp at hF); simp at hK; (try simp only [hF] at hK); have hz := hb.size; (try simp at hz))
                    go_simp
                    (try simp only [])
                    exact hK _ _ rfl (Below.refl _ _)
                  · (intro v w1 K hb hF hK; (try simp at hF); simp at hK; (try simp only [hF] at hK); have hz := hb.size; (try simp at hz))
                    go_simp
                    (try simp only [])
                    exact hK _ _ rfl (Below.refl _ _)
                  · (intro v w1 K hb hF hK; (try simp at hF); simp at hK; (try simp only [hF] at hK); have hz := hb.size; (try simp at hz); (try (have hk := bcl hb (wo.heap.size) (by first | omega | (simp; done) | (simp; omega)); have hc := hk.1; have hf := hk.2.1; have hk := hk.2.2)); (try (have hk := bcl hb (w.heap.size) (by first | omega | (simp; done) | (simp; omega)); have hc := hk.1; have hf := hk.2.1; have hk := hk.2.2)))
                    go_simp
                    (try simp only [])
                    exact hK _ _ rfl (Below.refl _ _)
                  · (intro v w1 K hb hF hK; (try simp at hF); simp at hK; (try simp only [hF] at hK); have hz := hb.size; (try simp at hz))
                    go_simp
                    (try simp only [])
                    exact hK _ _ rfl (Below.refl _ _)
                  · (intro v w1 K hb hF hK; (try simp at hF); simp at hK; (try simp only [hF] at hK); have hz := hb.size; (try simp at hz))
                    go_simp
                    (try simp only [])
                    exact hK _ _ rfl (Below.refl _ _)
                  · (intro v w1 K hb hF hK; (try simp at hF); simp at hK; (try simp only [hF] at hK); have hz := hb.size; (try simp at hz))
                    go_simp
                    (try simp only [])
                    exact hK _ _ rfl (Below.refl _ _)
                  · (intro v w1 K hb hF hK; (try simp at hF); simp at hK; (try simp only [hF] at hK); have hz := hb.size; (try simp at hz); (try (have hk := bcl hb (wo.heap.size) (by first | omega | (simp; done) | (simp; omega)); have hc := hk.1; have hf := hk.2.1; have hk := hk.2.2)); (try (have hk := bcl hb (w.heap.size) (by first | omega | (simp; done) | (simp; omega)); have hc := hk.1; have hf := hk.2.1; have hk := hk.2.2)))
                    go_simp
                    (try simp only [])
                    exact hK _ _ rfl (Below.refl _ _)
                  · (intro v w1 K hb hF hK; (try simp at hF); simp at hK; (try simp only [hF] at hK); have hz := hb.size; (try simp at hz))
                    go_simp
                    (try simp only [])
                    exact hK _ _ rfl (Below.refl _ _)
                  · (intro v w1 K hb hF hK; (try simp at hF); simp at hK; (try simp only [hF] at hK); have hz := hb.size; (try simp at hz); (try (have hk := bcl hb (wo.heap.size) (by first | omega | (simp; done) | (simp; omega)); have hc := hk.1; have hf := hk.2.1; have hk := hk.2.2)); (try (have hk := bcl hb (w.heap.size) (by first | omega | (simp; done) | (simp; omega)); have hc := hk.1; have hf := hk.2.1; have hk := hk.2.2)))
                    go_simp
                    (try simp only [])
                    exact hK _ _ rfl (Below.refl _ _)
                  · (intro v w1 K hb hF hK; (try simp at hF); simp at hK; (try simp only [hF] at hK); have hz := hb.size; (try simp at hz))
                    go_simp
                    (try simp only [])
                    exact hK _ _ rfl (Below.refl _ _)
                  · (intro v w1 K hb hF hK; (try simp at hF); simp at hK; (try simp only [hF] at hK); have hz := hb.size; (try simp at hz))
                    go_simp
                    (try simp only [])
                    exact hK _ _ rfl (Below.refl _ _)
                  · (intro v w1 K hb hF hK; (try simp at hF); simp at hK; (try simp only [hF] at hK); have hz := hb.size; (try simp at hz))
                    go_simp
                    (try simp only [])
                    exact hK _ _ rfl (Below.refl _ _)
                  · (intro v w1 K hb hF hK; (try simp at hF); simp at hK; (try simp only [hF] at hK); have hz := hb.size; (try simp at hz))
                    go_simp
                    (try simp only [])
                    exact hK _ _ rfl (Below.refl _ _)
                  · (intro v w1 K hb hF hK; (try simp at hF); simp at hK; (try simp only [hF] at hK); have hz := hb.size; (try simp at hz); (try (have hk := bcl hb (wo.heap.size) (by first | omega | (simp; done) | (simp; omega)); have hc := hk.1; have hf := hk.2.1; have hk := hk.2.2)); (try (have hk := bcl hb (w.heap.size) (by first | omega | (simp; done) | (simp; omega)); have hc := hk.1; have hf := hk.2.1; have hk := hk.2.2)))
                    go_simp
                    (try simp only [])
                    exact hK _ _ rfl (Below.refl _ _)
                  · (intro v w1 K hb hF hK; (try simp at hF); simp at hK; (try simp only [hF] at hK); have hz := hb.size; (try simp at hz); (try (have hk := bcl hb (wo.heap.size) (by first | omega | (simp; done) | (simp; omega)); have hc := hk.1; have hf := hk.2.1; have hk := hk.2.2)); (try (have hk := bcl hb (w.heap.size) (by first | omega | (simp; done) | (simp; omega)); have hc := hk.1; have hf := hk.2.1; have hk := hk.2.2)))
                    go_simp
                    (first | (go_at_call 35; (with_reducible refine (in_eq HIN.out _).mono ?_); rintro e w7 ⟨rfl, rfl⟩) | (go_at_call 36; (with_reducible refine (pointsValid_eq cr (HQ.out.below (by (repeat' (first | (with_reducible exact Below.refl _ _) | (with_reducible assumption) | (with_reducible refine Below.alloc ?_ ?_ _) | (with_reducible refine below_drewN ?_ _) | (with_reducible refine Below.drew ?_) | (with_reducible refine Below.setCell ?_ ?_ _) | (with_reducible refine below_call (by assumption) ?_ ?_) | (with_reducible refine below_grown (by assumption) ?_ ?_ ?_) | omega | (simp; done) | (simp; omega))))) hm12 HU.out).mono ?_); rintro e w7 ⟨rfl, hb7⟩) | skip)
                    (try simp only [])
                    exact hK _ _ rfl (by (repeat' (first | (with_reducible exact Below.refl _ _) | (with_reducible assumption) | (with_reducible refine Below.alloc ?_ ?_ _) | (with_reducible refine below_drewN ?_ _) | (with_reducible refine Below.drew ?_) | (with_reducible refine Below.setCell ?_ ?_ _) | (with_reducible refine below_call (by assumption) ?_ ?_) | go_size)))
                  · (intro v w1 K hb hF hK; (try simp at hF); simp at hK; (try simp only [hF] at hK); have hz := hb.size; (try simp at hz))
                    go_simp
                    (try simp only [])
                    exact hK _ _ rfl (Below.refl _ _)
                  · (intro v w1 K hb hF hK; (try simp at hF); simp at hK; (try simp only [hF] at hK); have hz := hb.size; (try simp at hz))
                    go_simp
                    (try simp only [])
                    exact hK _ _ rfl (Below.refl _ _)
                  · (intro v w1 K hb hF hK; (try simp at hF); simp at hK; (try simp only [hF] at hK); have hz := hb.size; (try simp at hz))
                    go_simp
                    (try simp only [])
                    exact hK _ _ rfl (Below.refl _ _)
                  · (intro v w1 K hb hF hK; (try simp at hF); simp at hK; (try simp only [hF] at hK); have hz := hb.size; (try simp at hz))
                    go_simp
                    (try simp only [])
                    exact hK _ _ rfl (Below.refl _ _)
                  · (intro v w1 K hb hF hK; (try simp at hF); simp at hK; (try simp only [hF] at hK); have hz := hb.size; (try simp at hz))
                    go_simp
                    (try simp only [])
                    exact hK _ _ rfl (Below.refl _ _)
                  · (intro v w1 K hb hF hK; (try simp at hF); simp at hK; (try simp only [hF] at hK); have hz := hb.size; (try simp at hz))
                    go_simp
                    (try simp only [])
                    exact hK _ _ rfl (Below.refl _ _)
                  · (intro v w1 K hb hF hK; (try simp at hF); simp at hK; (try simp only [hF] at hK); have hz := hb.size; (try simp at hz); (try (have hk := bcl hb (wo.heap.size) (by first | omega | (simp; done) | (simp; omega)); have hc := hk.1; have hf := hk.2.1; have hk := hk.2.2)); (try (have hk := bcl hb (w.heap.size) (by first | omega | (simp; done) | (simp; omega)); have hc := hk.1; have hf := hk.2.1; have hk := hk.2.2)))
                    go_simp
                    (try simp only [])
                    exact hK _ _ rfl (Below.refl _ _)
                  · (intro v w1 K hb hF hK; (try simp at hF); simp at hK; (try simp only [hF] at hK); have hz := hb.size; (try simp at hz))
                    go_simp
                    (try simp only [])
                    exact hK _ _ rfl (Below.refl _ _)
                  · (intro v w1 K hb hF hK; (try simp at hF); simp at hK; (try simp only [hF] at hK); have hz := hb.size; (try simp at hz))
                    go_simp
                    (try simp only [])
                    exact hK _ _ rfl (Below.refl _ _)
                  · (intro v w1 K hb hF hK; (try simp at hF); simp at hK; (try simp only [hF] at hK); have hz := hb.size; (try simp at hz))
                    go_simp
                    (try simp only [])
                    exact hK _ _ rfl (Below.refl _ _)
                case hfo => exact trivial
                (intro v w1 hb hF; simp [List.range, List.range.loop] at hF; have hz := hb.size; (try simp at hz); (try (have hk := bcl hb (wo.heap.size) (by first | omega | (simp; done) | (simp; omega)); have hc := hk.1; have hf := hk.2.1; have hk := hk.2.2)); (try (have hk := bcl hb (w.heap.size) (by first | omega | (simp; done) | (simp; omega)); have hc := hk.1; have hf := hk.2.1; have hk := hk.2.2)))
                obtain ⟨e0, e1, e2, e3, e4, e5, e6, e7, e8, e9, e10, e11, e12, e13, e14, e15, e16, e17, e18, e19, e20, e21, e22, e23, e24, e25, e26, e27, e28⟩ := hF
                simp only [List.length_cons, List.length_nil, List.drop_succ_cons, List.drop_zero, e0, e1, e2, e3, e4, e5, e6, e7, e8, e9, e10, e11, e12, e13, e14, e15, e16, e17, e18, e19, e20, e21, e22, e23, e24, e25, e26, e27, e28]
                clear e0 e1 e2 e3 e4 e5 e6 e7 e8 e9 e10 e11 e12 e13 e14 e15 e16 e17 e18 e19 e20 e21 e22 e23 e24 e25 e26 e27 e28 v
                go_wp2
                go_roundw
                case rel => exact ⟨k + 1, by omega, by go_num, by rw [HST.out, Int.natCast_add], by simp only [verbsOk, HVO.out, HOK.out, Bool.and_self], blk_below (blk_alloc HLIT.out _) hb, by (repeat' (first | (with_reducible exact Below.refl _ _) | (with_reducible assumption) | (with_reducible refine Below.alloc ?_ ?_ _) | (with_reducible refine below_drewN ?_ _) | (with_reducible refine Below.drew ?_) | (with_reducible refine Below.setCell ?_ ?_ _) | (with_reducible refine below_call (by assumption) ?_ ?_) | (with_reducible refine below_grown (by assumption) ?_ ?_ ?_) | omega | (simp; done) | (simp; omega)))⟩
                case measure => simp [intOf]; omega
            · have em3 : decide (m = manyV (q : Int)) = false := decide_eq_false hmv
              obtain ⟨mv, hmve⟩ : ∃ mv, manyV (q : Int) = mv := ⟨_, rfl⟩
              rw [em3, HIN.out] at HVK
              simp only [Bool.false_and, Bool.and_false] at HVK
              rw [hmve] at hlq hmv
              have hmi : ¬ (m : Int) = (mv : Int) := by omega
              have em : decide ((m : Int) = (mv : Int)) = false := decide_eq_false hmi
              have em2 : ((m : Int) == (mv : Int)) = false := by simp; omega
              clear em3 hmve
              have hv1 : v = false := by rw [← HV.out]; exact path_not (n := k) (by rw [HL.out]; exact hlt) (by rw [HVK.out])
              subst hv1
              go_wp2_with fail
              apply wp_region_pure (by kernel_rfl) ([] :: [0] :: [1] :: [2] :: [3] :: [4] :: [4, 5] :: [4, 6] :: [4] :: [4] :: [4, 9] :: [4, 8, 10] :: [4, 11] :: [4, 7, 12] :: [4, 13] :: [14] :: [15] :: [15, 16] :: [15, 17] :: [15, 18] :: [15, 19] :: [20] :: [21] :: [21, 22] :: [23] :: [23, 24] :: [23, 25] :: [21, 23, 26] :: [21, 27] :: []) (RS.det [] _ :: RS.det [0] _ :: RS.det [1] _ :: RS.det [2] _ :: RS.det [3] _ :: RS.det [4] _ :: RS.det [4, 5] _ :: RS.det [4, 6] _ :: RS.det [4] _ :: RS.det [4] _ :: RS.det [4, 9] _ :: RS.det [4, 8, 10] _ :: RS.det [4, 11] _ :: RS.det [4, 7, 12] _ :: RS.det [4, 13] _ :: RS.det [14] _ :: RS.det [15] _ :: RS.det [15, 16] _ :: RS.det [15, 17] _ :: RS.det [15, 18] _ :: RS.det [15, 19] _ :: RS.det [20] _ :: RS.det [21] _ :: RS.det [21, 22] _ :: RS.det [23] _ :: RS.det [23, 24] _ :: RS.det [23, 25] _ :: RS.det [21, 23, 26] _ :: RS.det [21, 27] _ :: []) [] rfl (by kernel_rfl) (fun h => absurd rfl h) (by kernel_rfl) (by kernel_rfl) (st_det (st_det (st_det (st_det (st_det (st_det (st_det (st_det (st_det (st_det (st_det (st_det (st_det (st_det (st_det (st_det (st_det (st_det (st_det (st_det (st_det (st_det (st_det (st_det (st_det (st_det (st_det (st_det (st_det st_nil))))))))))))))))))))))))))))) _ (fun v => by simp; rfl)
              case hop =>
                simp only [Obls]
                refine ⟨?_, ?_, ?_, ?_, ?_, ?_, ?_, ?_, ?_, ?_, ?_, ?_, ?_, ?_, ?_, ?_, ?_, ?_, ?_, ?_, ?_, ?_, ?_, ?_, ?_, ?_, ?_, ?_, ?_, trivial⟩
                · (intro v w1 K hb hF hK; (try simp at hF); simp at hK; (try simp only [hF] at hK); have hz := hb.size; (try simp at hz))
                  go_simp
                  (try simp only [])
                  exact hK _ _ rfl (Below.refl _ _)
                · (intro v w1 K hb hF hK; (try simp at hF); simp at hK; (try simp only [hF] at hK); have hz := hb.size; (try simp at hz); (try (have hk := bcl hb (wo.heap.size) (by first | omega | (simp; done) | (simp; omega)); have hc := hk.1; have hf := hk.2.1; have hk := hk.2.2)); (try (have hk := bcl hb (w.heap.size) (by first | omega | (simp; done) | (simp; omega)); have hc := hk.1; have hf := hk.2.1; have hk := hk.2.2)))
                  go_simp
                  (try simp only [])
                  exact hK _ _ rfl (Below.refl _ _)
                · (intro v w1 K hb hF hK; (try simp at hF); simp at hK; (try simp only [hF] at hK); have hz := hb.size; (try simp at hz); (try (have hk := bcl hb (wo.heap.size) (by first | omega | (simp; done) | (simp; omega)); have hc := hk.1; have hf := hk.2.1; have hk := hk.2.2)); (try (have hk := bcl hb (w.heap.size) (by first | omega | (simp; done) | (simp; omega)); have hc := hk.1; have hf := hk.2.1; have hk := hk.2.2)))
                  go_simp
                  (first | (go_at_call 35; (with_reducible refine (in_eq HIN.out _).mono ?_); rintro e w7 ⟨rfl, rfl⟩) | (go_at_call 36; (with_reducible refine (pointsValid_eq cr (HQ.out.below (by (repeat' (first | (with_reducible exact Below.refl _ _) | (with_reducible assumption) | (with_reducible refine Below.alloc ?_ ?_ _) | (with_reducible refine below_drewN ?_ _) | (with_reducible refine Below.drew ?_) | (with_reducible refine Below.setCell ?_ ?_ _) | (with_reducible refine below_call (by assumption) ?_ ?_) | (with_reducible refine below_grown (by assumption) ?_ ?_ ?_) | omega | (simp; done) | (simp; omega))))) hm12 HU.out).mono ?_); rintro e w7 ⟨rfl, hb7⟩) | skip)
                  (try simp only [])
                  exact hK _ _ rfl (by (repeat' (first | (with_reducible exact Below.refl _ _) | (with_reducible assumption) | (with_reducible refine Below.alloc ?_ ?_ _) | (with_reducible refine below_drewN ?_ _) | (with_reducible refine Below.drew ?_) | (with_reducible refine Below.setCell ?_ ?_ _) | (with_reducible refine below_call (by assumption) ?_ ?_) | go_size)))
                · (intro v w1 K hb hF hK; (try simp at hF); simp at hK; (try simp only [hF] at hK); have hz := hb.size; (try simp at hz))
                  go_simp
                  (try simp only [])
                  exact hK _ _ rfl (Below.refl _ _)
                · (intro v w1 K hb hF hK; (try simp at hF); simp at hK; (try simp only [hF] at hK); have hz := hb.size; (try simp at hz))
                  go_simp
                  (try simp only [])
                  exact hK _ _ rfl (Below.refl _ _)
                · (intro v w1 K hb hF hK; (try simp at hF); simp at hK; (try simp only [hF] at hK); have hz := hb.size; (try simp at hz))
                  go_simp
                  (try simp only [])
                  exact hK _ _ rfl (Below.refl _ _)
                · (intro v w1 K hb hF hK; (try simp at hF); simp at hK; (try simp only [hF] at hK); have hz := hb.size; (try simp at hz); (try (have hk := bcl hb (wo.heap.size) (by first | omega | (simp; done) | (simp; omega)); have hc := hk.1; have hf := hk.2.1; have hk := hk.2.2)); (try (have hk := bcl hb (w.heap.size) (by first | omega | (simp; done) | (simp; omega)); have hc := hk.1; have hf := hk.2.1; have hk := hk.2.2)))
                  go_simp
                  (try simp only [])
                  exact hK _ _ rfl (Below.refl _ _)
                · (intro v w1 K hb hF hK; (try simp at hF); simp at hK; (try simp only [hF] at hK); have hz := hb.size; (try simp at hz))
                  go_simp
                  (try simp only [])
                  exact hK _ _ rfl (Below.refl _ _)
                · (intro v w1 K hb hF hK; (try simp at hF); simp at hK; (try simp only [hF] at hK); have hz := hb.size; (try simp at hz))
                  go_simp
                  (try simp only [])
                  exact hK _ _ rfl (Below.refl _ _)
                · (intro v w1 K hb hF hK; (try simp at hF); simp at hK; (try simp only [hF] at hK); have hz := hb.size; (try simp at hz))
                  go_simp
                  (try simp only [])
                  exact hK _ _ rfl (Below.refl _ _)
                · (intro v w1 K hb hF hK; (try simp at hF); simp at hK; (try simp only [hF] at hK); have hz := hb.size; (try simp at hz); (try (have hk := bcl hb (wo.heap.size) (by first | omega | (simp; done) | (simp; omega)); have hc := hk.1; have hf := hk.2.1; have hk := hk.2.2)); (try (have hk := bcl hb (w.heap.size) (by first | omega | (simp; done) | (simp; omega)); have hc := hk.1; have hf := hk.2.1; have hk := hk.2.2)))
                  go_simp
                  (try simp only [])
                  exact hK _ _ rfl (Below.refl _ _)
                · (intro v w1 K hb hF hK; (try simp at hF); simp at hK; (try simp only [hF] at hK); have hz := hb.size; (try simp at hz))
                  go_simp
                  (try simp only [])
                  exact hK _ _ rfl (Below.refl _ _)
                · (intro v w1 K hb hF hK; (try simp at hF); simp at hK; (try simp only [hF] at hK); have hz := hb.size; (try simp at hz); (try (have hk := bcl hb (wo.heap.size) (by first | omega | (simp; done) | (simp; omega)); have hc := hk.1; have hf := hk.2.1; have hk := hk.2.2)); (try (have hk := bcl hb (w.heap.size) (by first | omega | (simp; done) | (simp; omega)); have hc := hk.1; have hf := hk.2.1; have hk := hk.2.2)))
                  go_simp
                  (try simp only [])
                  exact hK _ _ rfl (Below.refl _ _)
                · (intro v w1 K hb hF hK; (try simp at hF); simp at hK; (try simp only [hF] at hK); have hz := hb.size; (try simp at hz))
                  go_simp
                  (try simp only [])
                  exact hK _ _ rfl (Below.refl _ _)
                · (intro v w1 K hb hF hK; (try simp at hF); simp at hK; (try simp only [hF] at hK); have hz := hb.size; (try simp at hz))
                  go_simp
                  (try simp only [])
                  exact hK _ _ rfl (Below.refl _ _)
                · (intro v w1 K hb hF hK; (try simp at hF); simp at hK; (try simp only [hF] at hK); have hz := hb.size; (try simp at hz))
                  go_simp
                  (try simp only [])
                  exact hK _ _ rfl (Below.refl _ _)
                · (intro v w1 K hb hF hK; (try simp at hF); simp at hK; (try simp only [hF] at hK); have hz := hb.size; (try simp at hz))
                  go_simp
                  (try simp only [])
                  exact hK _ _ rfl (Below.refl _ _)
                · (intro v w1 K hb hF hK; (try simp at hF); simp at hK; (try simp only [hF] at hK); have hz := hb.size; (try simp at hz); (try (have hk := bcl hb (wo.heap.size) (by first | omega | (simp; done) | (simp; omega)); have hc := hk.1; have hf := hk.2.1; have hk := hk.2.2)); (try (have hk := bcl hb (w.heap.size) (by first | omega | (simp; done) | (simp; omega)); have hc := hk.1; have hf := hk.2.1; have hk := hk.2.2)))
                  go_simp
                  (try simp only [])
                  exact hK _ _ rfl (Below.refl _ _)
                · (intro v w1 K hb hF hK; (try simp at hF); simp at hK; (try simp only [hF] at hK); have hz := hb.size; (try simp at hz); (try (have hk := bcl hb (wo.heap.size) (by first | omega | (simp; done) | (simp; omega)); have hc := hk.1; have hf := hk.2.1; have hk := hk.2.2)); (try (have hk := bcl hb (w.heap.size) (by first | omega | (simp; done) | (simp; omega)); have hc := hk.1; have hf := hk.2.1; have hk := hk.2.2)))
                  go_simp
                  (first | (go_at_call 35; (with_reducible refine (in_eq HIN.out _).mono ?_); rintro e w7 ⟨rfl, rfl⟩) | (go_at_call 36; (with_reducible refine (pointsValid_eq cr (HQ.out.below (by (repeat' (first | (with_reducible exact Below.refl _ _) | (with_reducible assumption) | (with_reducible refine Below.alloc ?_ ?_ _) | (with_reducible refine below_drewN ?_ _) | (with_reducible refine Below.drew ?_) | (with_reducible refine Below.setCell ?_ ?_ _) | (with_reducible refine below_call (by assumption) ?_ ?_) | (with_reducible refine below_grown (by assumption) ?_ ?_ ?_) | omega | (simp; done) | (simp; omega))))) hm12 HU.out).mono ?_); rintro e w7 ⟨rfl, hb7⟩) | skip)
                  (try simp only [])
                  exact hK _ _ rfl (by (repeat' (first | (with_reducible exact Below.refl _ _) | (with_reducible assumption) | (with_reducible refine Below.alloc ?_ ?_ _) | (with_reducible refine below_drewN ?_ _) | (with_reducible refine Below.drew ?_) | (with_reducible refine Below.setCell ?_ ?_ _) | (with_reducible refine below_call (by assumption) ?_ ?_) | go_size)))
                · (intro v w1 K hb hF hK; (try simp at hF); simp at hK; (try simp only [hF] at hK); have hz := hb.size; (try simp at hz))
                  go_simp
                  (try simp only [])
                  exact hK _ _ rfl (Below.refl _ _)
                · (intro v w1 K hb hF hK; (try simp at hF); simp at hK; (try simp only [hF] at hK); have hz := hb.size; (try simp at hz))
                  go_simp
                  (try simp only [])
                  exact hK _ _ rfl (Below.refl _ _)
                · (intro v w1 K hb hF hK; (try simp at hF); simp at hK; (try simp only [hF] at hK); have hz := hb.size; (try simp at hz))
                  go_simp
                  (try simp only [])
                  exact hK _ _ rfl (Below.refl _ _)
                · (intro v w1 K hb hF hK; (try simp at hF); simp at hK; (try simp only [hF] at hK); have hz := hb.size; (try simp at hz))
                  go_simp
                  (try simp only [])
                  exact hK _ _ rfl (Below.refl _ _)
                · (intro v w1 K hb hF hK; (try simp at hF); simp at hK; (try simp only [hF] at hK); have hz := hb.size; (try simp at hz))
                  go_simp
                  (try simp only [])
                  exact hK _ _ rfl (Below.refl _ _)
                · (intro v w1 K hb hF hK; (try simp at hF); simp at hK; (try simp only [hF] at hK); have hz := hb.size; (try simp at hz))
                  go_simp
                  (try simp only [])
                  exact hK _ _ rfl (Below.refl _ _)
                · (intro v w1 K hb hF hK; (try simp at hF); simp at hK; (try simp only [hF] at hK); have hz := hb.size; (try simp at hz); (try (have hk := bcl hb (wo.heap.size) (by first | omega | (simp; done) | (simp; omega)); have hc := hk.1; have hf := hk.2.1; have hk := hk.2.2)); (try (have hk := bcl hb (w.heap.size) (by first | omega | (simp; done) | (simp; omega)); have hc := hk.1; have hf := hk.2.1; have hk := hk.2.2)))
                  go_simp
                  (try simp only [])
                  exact hK _ _ rfl (Below.refl _ _)
                · (intro v w1 K hb hF hK; (try simp at hF); simp at hK; (try simp only [hF] at hK); have hz := hb.size; (try simp at hz))
                  go_simp
                  (try simp only [])
                  exact hK _ _ rfl (Below.refl _ _)
                · (intro v w1 K hb hF hK; (try simp at hF); simp at hK; (try simp only [hF] at hK); have hz := hb.size; (try simp at hz))
                  go_simp
                  (try simp only [])
                  exact hK _ _ rfl (Below.refl _ _)
                · (intro v w1 K hb hF hK; (try simp at hF); simp at hK; (try simp only [hF] at hK); have hz := hb.size; (try simp at hz))
                  go_simp
                  (try simp only [])
                  exact hK _ _ rfl (Below.refl _ _)
              case hfo => exact trivial
              (intro v w1 hb hF; simp [List.range, List.range.loop] at hF; have hz := hb.size; (try simp at hz); (try (have hk := bcl hb (wo.heap.size) (by first | omega | (simp; done) | (simp; omega)); have hc := hk.1; have hf := hk.2.1; have hk := hk.2.2)); (try (have hk := bcl hb (w.heap.size) (by first | omega | (simp; done) | (simp; omega)); have hc := hk.1; have hf := hk.2.1; have hk := hk.2.2)))
              obtain ⟨e0, e1, e2, e3, e4, e5, e6, e7, e8, e9, e10, e11, e12, e13, e14, e15, e16, e17, e18, e19, e20, e21, e22, e23, e24, e25, e26, e27, e28⟩ := hF
              simp only [List.length_cons, List.length_nil, List.drop_succ_cons, List.drop_zero, e0, e1, e2, e3, e4, e5, e6, e7, e8, e9, e10, e11, e12, e13, e14, e15, e16, e17, e18, e19, e20, e21, e22, e23, e24, e25, e26, e27, e28]
              clear e0 e1 e2 e3 e4 e5 e6 e7 e8 e9 e10 e11 e12 e13 e14 e15 e16 e17 e18 e19 e20 e21 e22 e23 e24 e25 e26 e27 e28 v
              go_wp2
              go_ret
              exact ⟨rfl, by (repeat' (first | (with_reducible exact Below.refl _ _) | (with_reducible assumption) | (with_reducible refine Below.alloc ?_ ?_ _) | (with_reducible refine below_drewN ?_ _) | (with_reducible refine Below.drew ?_) | (with_reducible refine Below.setCell ?_ ?_ _) | (with_reducible refine below_call (by assumption) ?_ ?_) | (with_reducible refine below_grown (by assumption) ?_ ?_ ?_) | omega | (simp; done) | (simp; omega)))⟩
    · obtain rfl : k = n := by omega
      have eb : decide ((k : Int) < k) = false := by simp
      obtain ⟨pz, hpz⟩ : ∃ z, pointsV L k = z := ⟨_, rfl⟩
      have hv1 : v = (decide ((k : Int) ≤ 30) && decide ((pz : Int) ≤ 40)) := by
        rw [← HV.out, pathB, HL.out, HVO.out, Bool.true_and, hpz, ← Bool.decide_and]
        exact decide_eq_decide.2 (by omega)
      have hpm : pz ≤ 1048576 := by rw [← hpz]; have := HL.out; rw [this] at hS; omega
      rw [hpz]
      by_cases h8 : (k : Int) ≤ 30
      · have e8 : decide ((k : Int) ≤ 30) = true := decide_eq_true h8
        have hv2 : Hid (v = decide ((pz : Int) ≤ 40)) := Lib.hid (by rw [hv1, e8, Bool.true_and])
        clear hv1
        go_wp2
        go_ret
        exact ⟨by rw [hv2.out]; rfl, by (repeat' (first | (with_reducible exact Below.refl _ _) | (with_reducible assumption) | (with_reducible refine Below.alloc ?_ ?_ _) | (with_reducible refine below_drewN ?_ _) | (with_reducible refine Below.drew ?_) | (with_reducible refine Below.setCell ?_ ?_ _) | (with_reducible refine below_call (by assumption) ?_ ?_) | (with_reducible refine below_grown (by assumption) ?_ ?_ ?_) | omega | (simp; done) | (simp; omega)))⟩
      · have e8 : decide ((k : Int) ≤ 30) = false := decide_eq_false h8
        have hv2 : Hid (v = false) := Lib.hid (by rw [hv1, e8, Bool.false_and])
        clear hv1
        go_wp2
        go_ret
        exact ⟨by rw [hv2.out]; rfl, by (repeat' (first | (with_reducible exact Below.refl _ _) | (with_reducible assumption) | (with_reducible refine Below.alloc ?_ ?_ _) | (with_reducible refine below_drewN ?_ _) | (with_reducible refine Below.drew ?_) | (with_reducible refine Below.setCell ?_ ?_ _) | (with_reducible refine below_call (by assumption) ?_ ?_) | (with_reducible refine below_grown (by assumption) ?_ ?_ ?_) | omega | (simp; done) | (simp; omega)))⟩

end Go.Proofs.Ytiocgklfkckomaa
