/-
  The generator of pictures: someFrame.
-/
import Derived.Test.YtiocgklfkckomaaDrawFr2
namespace Go.Proofs.Ytiocgklfkckomaa
open Go.RowKit Pl

set_option linter.unusedSimpArgs false
set_option linter.unusedVariables false

theorem blk_own {a w : World} {b : Nat} {o : Obj} {row : Option Nat} (h : a.heap[b]? = some o) (hg : a.grownBy w row) (hrow : ∀ r, row = some r → b < r) : w.heap[b]? = some o :=
  (hg.block b (blk_lt h) (fun e => by have := hrow b e.symm; omega)).trans h

set_option maxHeartbeats 4000000 in
theorem someFrame_any {g : Nat} {A : Option Addr} {n c : Nat} {z : Nat → Int} {w : World} {k p : Nat} {x y : Int} (h : Rd g A n c z w k) (hk : k ≤ 900000) (hp1 : 1 ≤ p) (hp2 : p ≤ 20) (hxy : x * y = (p : Int)) (hx0 : 1 ≤ x) (hx1 : x ≤ 10) (hy0 : 1 ≤ y) (hy1 : y ≤ 10) :
    Calls Try.prog 28 #[.pointer (some ⟨g, 0, none⟩), .int .i64 x, .int .i64 y] w fun e w' => ∃ x' y' gp c', e = .returned (.agg #[.int .i64 x', .int .i64 y', .slice (some ⟨gp, 0, none⟩) p c']) ∧ w.heap.size ≤ gp ∧ Nums w' gp (p * 4) ∧ p ≤ c' ∧ c' ≤ maxLen ∧ Rd g A n c z w' (k + 300) ∧ w.grownBy w' (some g) := by
  have hgl := h.lt
  have R0 := Lib.hid h
  have hpi : (p : Int) ≤ 20 := by omega
  clear h
  go_enter Try.func28, Try.ntmps28
  go_wp2
  go_loopw [8, 7] (fun i v wr => ∃ j : Nat, i = .int .i64 j ∧ j ≤ p ∧ OwnN (w.heap.size + 1) wr v j ∧ wr.heap[w.heap.size]? = some (.cells #[.int .i64 0, .int .i64 0, .slice none 0 0] 29 (0, 0)) ∧ Rd g A n c z wr (k + 6 * j) ∧ w.grownBy wr (some g)) (fun i _ _ => p - (intOf i).toNat)
  case atStart => exact ⟨0, rfl, by omega, OwnN.empty rfl (by simp) (blk_new1 w _ _), blk_alloc (blk_new w _) _, (R0.out.alloc _).alloc _, by (repeat' (first | (with_reducible exact World.grownBy.refl _ _) | (with_reducible assumption) | (with_reducible refine only_alloc ?_ _) | (with_reducible refine only_drewN ?_ _) | (with_reducible refine only_setCell ?_ (by first | exact .inl rfl | exact .inr (Nat.le_refl _) | (right; simp; done) | (right; simp; omega)) _) | (with_reducible refine grown_call (by assumption) ?_) | (with_reducible refine grown_below (by assumption) ?_ (by first | omega | (simp; done) | (simp; omega)))))⟩
  case round =>
    obtain ⟨j, rfl, hj, hown, hf, hr, hg⟩ := hrel
    obtain ⟨wo, rfl⟩ : ∃ wo : World, wo = wr := ⟨_, rfl⟩
    have hso := hg.size
    have hwl := blk_lt hf
    have HO := Lib.hid hown
    have HF := Lib.hid hf
    have R1 := Lib.hid hr
    have G1 := Lib.hid hg
    clear hown hf hr hg
    by_cases hlt : j < p
    · have eb : decide ((j : Int) < p) = true := decide_eq_true (by omega)
      have hji : (j : Int) < p := by omega
      by_cases hj0 : j = 0
      · subst hj0
        go_wp2_with fail
        refine (randomColor_any (R1.out) (by omega)).mono ?_
        rintro e w4 ⟨cr, cg, cb, ca, rfl, _, hr4, hg4⟩
        have hz4 := hg4.size
        have R4 := Lib.hid hr4
        have G4 := Lib.hid hg4
        have GX : Hid (w.grownBy w4 (some g)) := Lib.hid (grown_call hg4 (G1.out))
        have OX : Hid (OwnN (w.heap.size + 1) w4 _ _) := Lib.hid (OwnN.grown (HO.out) hg4 (by omega))
        have FX : Hid (w4.heap[w.heap.size]? = some (.cells #[.int .i64 0, .int .i64 0, .slice none 0 0] 29 (0, 0))) := Lib.hid (blk_grown (HF.out) hg4 (by omega))
        clear hr4 hg4
        go_wp2_with (at_builtin; refine append_c rfl (.tmp 33) (.tmp 36) rfl (w.heap.size + 1) _ _ rfl ((OX.out.alloc _)) w4.heap.size 1 _ _ _ _ _ rfl (blk_new w4 _) (by omega) (by simp; omega) ?_; intro v3 w5 hown3 hg3)
        go_roundw
        case rel => exact ⟨0 + 1, by go_num, by omega, hown3, blk_own (blk_alloc (FX.out) _) hg3 (fun r hr => by have := OX.out.row r hr; omega), Rd.more ((Rd.alloc (R4.out) _).own hg3 (fun r hr => by have := OX.out.row r hr; omega)) (by omega), only_own hg3 (only_alloc (GX.out) _) (fun r hr => by have := OX.out.row r hr; omega)⟩
        case measure => simp [intOf]; omega
      · have e0 : decide ((0 : Int) < j) = true := decide_eq_true (by omega)
        have e0i : (0 : Int) < j := by omega
        have e0n : 0 < j := by omega
        have e0d : decide (0 < j) = true := decide_eq_true e0n
        go_wp2_with fail
        refine (pick_any R1.out (by omega) _).mono ?_
        rintro e w2 ⟨x2, rfl, hx20, hx21, hr2, hg2⟩
        have hz2 := hg2.size
        have R2 := Lib.hid hr2
        have G2 : Hid (w.grownBy w2 (some g)) := Lib.hid (grown_call hg2 G1.out)
        have O2 : Hid (OwnN (w.heap.size + 1) w2 u7 j) := Lib.hid (HO.out.grown hg2 (by omega))
        have F2 : Hid (w2.heap[w.heap.size]? = some (.cells #[.int .i64 0, .int .i64 0, .slice none 0 0] 29 (0, 0))) := Lib.hid (blk_grown HF.out hg2 (by omega))
        have hwl2 := blk_lt F2.out
        clear hr2 hg2
        by_cases hx : x2 = 0
        · subst hx
          obtain ⟨j1, hj1⟩ : ∃ q, j = q + 1 := ⟨j - 1, by omega⟩
          obtain ⟨gp, cc, rfl, hc1, hc2, hgp, hN⟩ := O2.out.form (by omega)
          have hnl := hN.lt
          obtain ⟨cr, c0⟩ := hN.at_ (j := j1 * 4) (by omega)
          obtain ⟨cg, c1⟩ := hN.at_ (j := j1 * 4 + 1) (by omega)
          obtain ⟨cb, c2⟩ := hN.at_ (j := j1 * 4 + 2) (by omega)
          obtain ⟨ca, c3⟩ := hN.at_ (j := j1 * 4 + 3) (by omega)
          have ej : (j : Int) - 1 = (j1 : Int) := by omega
          have ej2 : (j1 : Int) < j := by omega
          have ej3 : j1 < j := by omega
          have HJ1 := Lib.hid hj1
          have HN := Lib.hid hN
          unfold maxLen at hc2
          clear hj1 hN
          go_wp2_with (at_builtin; refine append_c rfl (.tmp 25) (.tmp 31) rfl (w.heap.size + 1) _ _ rfl ((O2.out.alloc _)) w2.heap.size 1 _ _ _ _ _ rfl (blk_new w2 _) (by omega) (by simp; omega) ?_; intro v3 w5 hown3 hg3)
          go_roundw
          case rel => exact ⟨j + 1, by go_num, by omega, hown3, blk_own (blk_alloc (F2.out) _) hg3 (fun r hr => by have := O2.out.row r hr; omega), Rd.more ((Rd.alloc (R2.out) _).own hg3 (fun r hr => by have := O2.out.row r hr; omega)) (by omega), only_own hg3 (only_alloc (G2.out) _) (fun r hr => by have := O2.out.row r hr; omega)⟩
          case measure => simp [intOf]; omega
        · have f0 : decide (x2 = 0) = false := decide_eq_false hx
          have f0' : (x2 == 0) = false := by simp [hx]
          go_wp2_with fail
          refine (randomColor_any (R2.out) (by omega)).mono ?_
          rintro e w4 ⟨cr, cg, cb, ca, rfl, _, hr4, hg4⟩
          have hz4 := hg4.size
          have R4 := Lib.hid hr4
          have G4 := Lib.hid hg4
          have GX : Hid (w.grownBy w4 (some g)) := Lib.hid (grown_call hg4 (G2.out))
          have OX : Hid (OwnN (w.heap.size + 1) w4 _ _) := Lib.hid (OwnN.grown (O2.out) hg4 (by omega))
          have FX : Hid (w4.heap[w.heap.size]? = some (.cells #[.int .i64 0, .int .i64 0, .slice none 0 0] 29 (0, 0))) := Lib.hid (blk_grown (F2.out) hg4 (by omega))
          clear hr4 hg4
          go_wp2_with (at_builtin; refine append_c rfl (.tmp 33) (.tmp 36) rfl (w.heap.size + 1) _ _ rfl ((OX.out.alloc _)) w4.heap.size 1 _ _ _ _ _ rfl (blk_new w4 _) (by omega) (by simp; omega) ?_; intro v3 w5 hown3 hg3)
          go_roundw
          case rel => exact ⟨j + 1, by go_num, by omega, hown3, blk_own (blk_alloc (FX.out) _) hg3 (fun r hr => by have := OX.out.row r hr; omega), Rd.more ((Rd.alloc (R4.out) _).own hg3 (fun r hr => by have := OX.out.row r hr; omega)) (by omega), only_own hg3 (only_alloc (GX.out) _) (fun r hr => by have := OX.out.row r hr; omega)⟩
          case measure => simp [intOf]; omega
    · obtain rfl : j = p := by omega
      have eb : decide ((j : Int) < j) = false := by simp
      obtain ⟨gp, cc, rfl, hc1, hc2, hgp, hN⟩ := HO.out.form (by omega)
      have hnl := hN.lt
      have HN := Lib.hid hN
      have hcm := hc2
      unfold maxLen at hc2
      clear hN
      go_wp2_with fail
      refine (pick_any (R1.out.alloc _) (by omega) _).mono ?_
      rintro e w2 ⟨q, rfl, hq0, hq1, hr2, hg2⟩
      have hz2 := hg2.size
      simp at hz2
      have hkF := blk_grown (blk_new wo (.cells #[.int .i64 x, .int .i64 y, .slice (some ⟨gp, 0, none⟩) j cc] 29)) hg2 (by omega)
      have hk0 := blk_grown (blk_alloc HF.out (.cells #[.int .i64 x, .int .i64 y, .slice (some ⟨gp, 0, none⟩) j cc] 29)) hg2 (by omega)
      have hcF := blk_cell hkF
      have hfF := blk_free hkF
      have hlF := blk_lt hkF
      have hc0 := blk_cell hk0
      have hf0 := blk_free hk0
      have hl0 := blk_lt hk0
      have HKF := Lib.hid hkF
      have HK0 := Lib.hid hk0
      have R2 := Lib.hid hr2
      have G2 : Hid (w.grownBy w2 (some g)) := Lib.hid (grown_call hg2 (only_alloc G1.out _))
      have N2 : Hid (Nums w2 gp (j * 4)) := Lib.hid ((HN.out.alloc _).grown hg2 (by omega))
      clear hr2 hg2 hkF hk0
      by_cases e0 : q = 0
      · subst e0
        have q1 := blk_cell (blk_set HKF.out 0 (.int .i64 (x + 1)))
        go_wp2
        have hr := R2.out
        have hg := G2.out
        ((try simp only [Exit.inBlock, Exit.then]); refine bodyPost_ret (by simp [results, Try.results28, go_sem, *]; try rfl) rfl ?_)
        exact ⟨_, _, gp, cc, rfl, by omega, ((((N2.out.far _ (by simp; omega)).far _ (by simp; omega)).far _ (by simp; omega)).far _ (by simp; omega)), hc1, hcm, Rd.more (by repeat' (first | (with_reducible assumption) | (with_reducible apply Rd.alloc) | (with_reducible apply Rd.drewN) | (with_reducible apply rd_below (by assumption)) | (with_reducible apply Rd.setFar) | omega | (simp; omega))) (by omega), by (repeat' (first | (with_reducible exact World.grownBy.refl _ _) | (with_reducible assumption) | (with_reducible refine only_alloc ?_ _) | (with_reducible refine only_drewN ?_ _) | (with_reducible refine only_setCell ?_ (by first | exact .inl rfl | exact .inr (Nat.le_refl _) | (right; simp; done) | (right; simp; omega)) _) | (with_reducible refine grown_call (by assumption) ?_) | (with_reducible refine grown_below (by assumption) ?_ (by first | omega | (simp; done) | (simp; omega)))))⟩
      · have f0 : decide (q = 0) = false := decide_eq_false e0
        have f0' : (q == 0) = false := by simp [e0]
        by_cases e1 : q = 1
        · subst e1
          have g0 : decide ((0 : Int) < j) = true := decide_eq_true (by omega)
          have g0i : (0 : Int) < j := by omega
          have g0n : 0 < j := by omega
          have g0d : decide (0 < j) = true := decide_eq_true g0n
          have hr2 := R2.out
          have hgne1 : ¬ gp = wo.heap.size := by omega
          have hgne2 : ¬ wo.heap.size = gp := by omega
          have hnl2 := N2.out.lt
          have hjl : (0 : Nat) < j := by omega
          go_wp2_with fail
          apply wp_region_rdr (by kernel_rfl) ([] :: [0] :: [] :: [2] :: [1] :: []) (RS.det [] _ :: RS.det [0] _ :: RS.det [] _ :: RS.p [2] (fun v => ∃ r g b a, v = .agg #[.int .i64 r, .int .i64 g, .int .i64 b, .int .i64 a]) :: RS.det [1] _ :: []) [] rfl (by kernel_rfl) (fun h => absurd rfl h) (by kernel_rfl) (by kernel_rfl) (st_det (st_det (st_det (st_p (st_det st_nil))))) _ (fun v => by simp; rfl)
          case hr => exact (by repeat' (first | (with_reducible assumption) | (with_reducible apply Rd.alloc) | (with_reducible apply Rd.drewN) | (with_reducible apply rd_below (by assumption)) | (with_reducible apply Rd.setFar) | omega | (simp; omega)))
          case hop =>
            simp only [OblsR]
            refine ⟨?_, ?_, ?_, ?_, ?_, trivial⟩
            · (intro v j w1 Kc hj hr hg hF hK; (try simp at hj); (try simp at hF); simp at hK; (try simp only [hF] at hK); have hz := hg.size; (try simp at hz); have hgl := Rd.lt hr)
              go_simp
              (try simp only [])
              exact hK _ _ rfl (by (repeat' (first | (with_reducible exact World.grownBy.refl _ _) | (with_reducible assumption) | (with_reducible refine only_alloc ?_ _) | (with_reducible refine only_drewN ?_ _) | (with_reducible refine only_setCell ?_ (by first | exact .inl rfl | exact .inr (Nat.le_refl _) | (right; simp; done) | (right; simp; omega)) _) | (with_reducible refine grown_call (by assumption) ?_) | (with_reducible refine grown_below (by assumption) ?_ (by first | omega | (simp; done) | (simp; omega)))))) (Rd.more (by repeat' (first | (with_reducible assumption) | (with_reducible apply Rd.alloc) | (with_reducible apply Rd.drewN) | (with_reducible apply rd_below (by assumption)) | (with_reducible apply Rd.setFar) | omega | (simp; omega))) (by omega))
            · (intro v j w1 Kc hj hr hg hF hK; (try simp at hj); (try simp at hF); simp at hK; (try simp only [hF] at hK); have hz := hg.size; (try simp at hz); have hgl := Rd.lt hr; (try (have hk := gcl hg (wo.heap.size) (by first | omega | (simp; done) | (simp; omega)) (by omega); have hc := hk.1; have hf := hk.2.1; have hk := hk.2.2)))
              go_simp
              (try simp only [])
              exact hK _ _ rfl (by (repeat' (first | (with_reducible exact World.grownBy.refl _ _) | (with_reducible assumption) | (with_reducible refine only_alloc ?_ _) | (with_reducible refine only_drewN ?_ _) | (with_reducible refine only_setCell ?_ (by first | exact .inl rfl | exact .inr (Nat.le_refl _) | (right; simp; done) | (right; simp; omega)) _) | (with_reducible refine grown_call (by assumption) ?_) | (with_reducible refine grown_below (by assumption) ?_ (by first | omega | (simp; done) | (simp; omega)))))) (Rd.more (by repeat' (first | (with_reducible assumption) | (with_reducible apply Rd.alloc) | (with_reducible apply Rd.drewN) | (with_reducible apply rd_below (by assumption)) | (with_reducible apply Rd.setFar) | omega | (simp; omega))) (by omega))
            · (intro v j w1 Kc hj hr hg hF hK; (try simp at hj); (try simp at hF); simp at hK; (try simp only [hF] at hK); have hz := hg.size; (try simp at hz); have hgl := Rd.lt hr)
              go_simp
              (try simp only [])
              exact hK _ _ rfl (by (repeat' (first | (with_reducible exact World.grownBy.refl _ _) | (with_reducible assumption) | (with_reducible refine only_alloc ?_ _) | (with_reducible refine only_drewN ?_ _) | (with_reducible refine only_setCell ?_ (by first | exact .inl rfl | exact .inr (Nat.le_refl _) | (right; simp; done) | (right; simp; omega)) _) | (with_reducible refine grown_call (by assumption) ?_) | (with_reducible refine grown_below (by assumption) ?_ (by first | omega | (simp; done) | (simp; omega)))))) (Rd.more (by repeat' (first | (with_reducible assumption) | (with_reducible apply Rd.alloc) | (with_reducible apply Rd.drewN) | (with_reducible apply rd_below (by assumption)) | (with_reducible apply Rd.setFar) | omega | (simp; omega))) (by omega))
            · (intro v j w1 Kc hj hr hg hF hK; (try simp at hj); (try simp at hF); simp at hK; (try simp only [hF] at hK); have hz := hg.size; (try simp at hz); have hgl := Rd.lt hr; (try (have hk := gcl hg (wo.heap.size) (by first | omega | (simp; done) | (simp; omega)) (by omega); have hc := hk.1; have hf := hk.2.1; have hk := hk.2.2)))
              go_simp
              (first | (go_at_call 29; refine (anyColor_any hr (by omega)).mono ?_; rintro e w6 ⟨cr, cg, cb, ca, rfl, hr, hg⟩))
              (try simp only [])
              exact hK _ _ (⟨_, _, _, _, rfl⟩) (by (repeat' (first | (with_reducible exact World.grownBy.refl _ _) | (with_reducible assumption) | (with_reducible refine only_alloc ?_ _) | (with_reducible refine only_drewN ?_ _) | (with_reducible refine only_setCell ?_ (by first | exact .inl rfl | exact .inr (Nat.le_refl _) | (right; simp; done) | (right; simp; omega)) _) | (with_reducible refine grown_call (by assumption) ?_) | (with_reducible refine grown_below (by assumption) ?_ (by first | omega | (simp; done) | (simp; omega)))))) (Rd.more (by repeat' (first | (with_reducible assumption) | (with_reducible apply Rd.alloc) | (with_reducible apply Rd.drewN) | (with_reducible apply rd_below (by assumption)) | (with_reducible apply Rd.setFar) | omega | (simp; omega))) (by omega))
            · (intro v j w1 Kc hj hr hg hF hK; (try simp at hj); (try simp at hF); simp at hK; (try simp only [hF] at hK); have hz := hg.size; (try simp at hz); have hgl := Rd.lt hr)
              go_simp
              (try simp only [])
              exact hK _ _ rfl (by (repeat' (first | (with_reducible exact World.grownBy.refl _ _) | (with_reducible assumption) | (with_reducible refine only_alloc ?_ _) | (with_reducible refine only_drewN ?_ _) | (with_reducible refine only_setCell ?_ (by first | exact .inl rfl | exact .inr (Nat.le_refl _) | (right; simp; done) | (right; simp; omega)) _) | (with_reducible refine grown_call (by assumption) ?_) | (with_reducible refine grown_below (by assumption) ?_ (by first | omega | (simp; done) | (simp; omega)))))) (Rd.more (by repeat' (first | (with_reducible assumption) | (with_reducible apply Rd.alloc) | (with_reducible apply Rd.drewN) | (with_reducible apply rd_below (by assumption)) | (with_reducible apply Rd.setFar) | omega | (simp; omega))) (by omega))
          case hfo => exact trivial
          (intro v w1 hr hg hF; simp [List.range, List.range.loop] at hF; have hz := hg.size; (try simp at hz); have hgl := Rd.lt hr; (try (have hk := gcl hg (wo.heap.size) (by first | omega | (simp; done) | (simp; omega)) (by omega); have hc := hk.1; have hf := hk.2.1; have hk := hk.2.2)))
          obtain ⟨e0, e1, e2, ⟨cr, cg, cb, ca, e3⟩, e4⟩ := hF
          simp only [List.length_cons, List.length_nil, List.drop_succ_cons, List.drop_zero, e0, e1, e2, e3, e4]
          clear e0 e1 e2 e3 e4 v
          simp only [List.length_cons, List.length_nil] at hr
          have N3 : Hid (Nums w1 gp (j * 4)) := Lib.hid (N2.out.grown hg (by omega))
          have hnl3 := N3.out.lt
          obtain ⟨y0, c0⟩ := N3.out.at_ (j := 0) (by omega)
          obtain ⟨y1, c1⟩ := N3.out.at_ (j := 1) (by omega)
          obtain ⟨y2, c2⟩ := N3.out.at_ (j := 2) (by omega)
          obtain ⟨y3, c3⟩ := N3.out.at_ (j := 3) (by omega)
          have hfr0 := N3.out.free
          have G3 : Hid (w.grownBy w1 (some g)) := Lib.hid (grown_call hg G2.out)
          have HKF3 := Lib.hid (blk_grown HKF.out hg (by omega))
          have HK03 := Lib.hid (blk_grown HK0.out hg (by omega))
          have hcF3 := blk_cell HKF3.out
          have hfF3 := blk_free HKF3.out
          have hlF3 := blk_lt HKF3.out
          have hc03 := blk_cell HK03.out
          have hf03 := blk_free HK03.out
          have hl03 := blk_lt HK03.out
          have q9 := blk_cell (blk_far (p := ⟨gp, 3, none⟩) (blk_far (p := ⟨gp, 2, none⟩) (blk_far (p := ⟨gp, 1, none⟩) (blk_far (p := ⟨gp, 0, none⟩) HKF3.out (.int .i64 cr) (by simp; omega)) (.int .i64 cg) (by simp; omega)) (.int .i64 cb) (by simp; omega)) (.int .i64 ca) (by simp; omega))
          clear hcF hfF hlF hc0 hf0 hl0 hcF3
          clear hg
          go_wp2
          have hg := G3.out
          ((try simp only [Exit.inBlock, Exit.then]); refine bodyPost_ret (by simp [results, Try.results28, go_sem, *]; try rfl) rfl ?_)
          exact ⟨_, _, gp, cc, rfl, by omega, (((Nums.set4 N3.out 0 1 2 3 cr cg cb ca).far _ (by simp; omega)).far _ (by simp; omega)).far _ (by simp; omega), hc1, hcm, Rd.more (by repeat' (first | (with_reducible assumption) | (with_reducible apply Rd.alloc) | (with_reducible apply Rd.drewN) | (with_reducible apply rd_below (by assumption)) | (with_reducible apply Rd.setFar) | omega | (simp; omega))) (by omega), by (repeat' (first | (with_reducible exact World.grownBy.refl _ _) | (with_reducible assumption) | (with_reducible refine only_alloc ?_ _) | (with_reducible refine only_drewN ?_ _) | (with_reducible refine only_setCell ?_ (by first | exact .inl rfl | exact .inr (Nat.le_refl _) | (right; simp; done) | (right; simp; omega)) _) | (with_reducible refine grown_call (by assumption) ?_) | (with_reducible refine grown_below (by assumption) ?_ (by first | omega | (simp; done) | (simp; omega)))))⟩
        · have f1 : decide (q = 1) = false := decide_eq_false e1
          have f1' : (q == 1) = false := by simp [e1]
          go_wp2
          have hr := R2.out
          have hg := G2.out
          ((try simp only [Exit.inBlock, Exit.then]); refine bodyPost_ret (by simp [results, Try.results28, go_sem, *]; try rfl) rfl ?_)
          exact ⟨_, _, gp, cc, rfl, by omega, (((N2.out.far _ (by simp; omega)).far _ (by simp; omega)).far _ (by simp; omega)), hc1, hcm, Rd.more (by repeat' (first | (with_reducible assumption) | (with_reducible apply Rd.alloc) | (with_reducible apply Rd.drewN) | (with_reducible apply rd_below (by assumption)) | (with_reducible apply Rd.setFar) | omega | (simp; omega))) (by omega), by (repeat' (first | (with_reducible exact World.grownBy.refl _ _) | (with_reducible assumption) | (with_reducible refine only_alloc ?_ _) | (with_reducible refine only_drewN ?_ _) | (with_reducible refine only_setCell ?_ (by first | exact .inl rfl | exact .inr (Nat.le_refl _) | (right; simp; done) | (right; simp; omega)) _) | (with_reducible refine grown_call (by assumption) ?_) | (with_reducible refine grown_below (by assumption) ?_ (by first | omega | (simp; done) | (simp; omega)))))⟩

end Go.Proofs.Ytiocgklfkckomaa
