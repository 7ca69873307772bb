/-
  Flat curves.
-/
import Derived.Test.YtmojbcnldipdgaaSplitS
import Derived.Test.YtmojbcnldipdgaaRegQ
namespace Go.Proofs.Ytmojbcnldipdgaa
open Go.RowKit Pl

set_option linter.unusedSimpArgs false
set_option linter.unusedVariables false

theorem IsPts.drop1 {w : World} {b o n : Nat} {l : List Pt} (h : IsPts w (some ⟨b, o, none⟩) (n + 1) l) : IsPts w (some ⟨b, o + 2, none⟩) n (l.drop 1) := by
  refine ⟨by rw [List.length_drop, h.1]; omega, fun hn => ?_⟩
  obtain ⟨b', o', e, hb, hc⟩ := h.2 (by omega)
  cases e
  refine ⟨b, o + 2, rfl, hb, fun i hi => ?_⟩
  rw [List.length_drop] at hi
  have := hc (i + 1) (by omega)
  have e1 : px (l.drop 1) i = px l (i + 1) := by simp [px]
  have e2 : py (l.drop 1) i = py l (i + 1) := by simp [py]
  rw [e1, e2, show o + 2 + i * 2 = o + (i + 1) * 2 by omega]
  exact this

set_option maxHeartbeats 2000000 in
theorem ends_any (d : Nat) {A : Option Addr} {n : Nat} {l : List Pt} {w : World} {lim : Int} (c : Nat) (h : IsPts w A n l) (hc : curveB l = true) (hd : d = 0 ∨ (d ≤ 4 ∧ bendN l ≤ lim)) :
    Calls Try.prog 16 #[.slice A n c, .int .i64 lim, .int .i64 d] w (RetPts (flatC lim d l) w) := by
  obtain ⟨p1, p2, p3⟩ := curveB_parts hc
  have hl := h.1
  rw [hl] at p1 p2
  have HP := Lib.hid h
  have HL := Lib.hid hl
  have HC := Lib.hid hc
  clear h hc hl p3
  obtain ⟨q, hq⟩ : ∃ q, q + 1 = n := ⟨n - 1, by omega⟩
  have hki : (0 : Int) < n := by omega
  have hn0 : 0 < n := by omega
  have hqi : (q : Int) < n := by omega
  have t1 : IntKind.i64.wrap ((n : Int) - 1) = (q : Int) := (IntWalk.i64_in _ (by omega)).trans (by omega)
  rcases hd with rfl | ⟨hd, hb⟩
  · have HM : Hid (flatC lim 0 l = [(px l 0, py l 0), (px l q, py l q)]) := Lib.hid (by simp only [flatC, flat, pt]; rw [HL.out, show n - 1 = q by omega])
    obtain ⟨b, o, rfl, hbl, c0, c1⟩ := HP.out.at_ (k := 0) (by omega)
    obtain ⟨b', o', e, _, c2, c3⟩ := HP.out.at_ (k := q) (by omega)
    cases e
    simp only [Nat.zero_mul, Nat.add_zero] at c0 c1
    go_enter Try.func16, Try.ntmps16
    go_wp2_with fail
    apply wp_region_pure (by kernel_rfl) ([] :: [0] :: [1] :: [] :: [] :: [4] :: [5] :: [3, 6] :: [7] :: [2, 8] :: []) (RS.det [] _ :: RS.det [0] _ :: RS.det [1] _ :: RS.det [] _ :: RS.det [] _ :: RS.det [4] _ :: RS.det [5] _ :: RS.det [3, 6] _ :: RS.det [7] _ :: RS.sl [2, 8] _ _ _ _ :: []) [] rfl (by kernel_rfl) (fun h => absurd rfl h) (by kernel_rfl) (by kernel_rfl) (st_det (st_det (st_det (st_det (st_det (st_det (st_det (st_det (st_det (st_sl st_nil)))))))))) _ (fun v => by simp; rfl)
    case hop =>
      simp only [Obls]
      refine ⟨?_, ?_, ?_, ?_, ?_, ?_, ?_, ?_, ?_, ?_, trivial⟩
      · (intro v w1 K hb hF hK; (try simp at hF); simp at hK; (try simp only [hF] at hK); have hz := hb.size; (try simp at hz))
        go_simp
        (try simp only [])
        exact hK _ _ rfl (by (repeat' (first | (with_reducible exact Below.refl _ _) | (with_reducible assumption) | (with_reducible refine Below.alloc ?_ ?_ _) | (with_reducible refine below_drewN ?_ _) | (with_reducible refine Below.drew ?_) | (with_reducible refine Below.setCell ?_ ?_ _) | (with_reducible refine below_call (by assumption) ?_ ?_) | go_size)))
      · (intro v w1 K hb hF hK; (try simp at hF); simp at hK; (try simp only [hF] at hK); have hz := hb.size; (try simp at hz))
        go_simp
        (try simp only [])
        exact hK _ _ rfl (by (repeat' (first | (with_reducible exact Below.refl _ _) | (with_reducible assumption) | (with_reducible refine Below.alloc ?_ ?_ _) | (with_reducible refine below_drewN ?_ _) | (with_reducible refine Below.drew ?_) | (with_reducible refine Below.setCell ?_ ?_ _) | (with_reducible refine below_call (by assumption) ?_ ?_) | go_size)))
      · (intro v w1 K hb hF hK; (try simp at hF); simp at hK; (try simp only [hF] at hK); have hz := hb.size; (try simp at hz); (try (have hk := bcl hb (b) (by first | omega | (simp; done) | (simp; omega)); have hc := hk.1; have hf := hk.2.1; have hk := hk.2.2)))
        go_simp
        (try simp only [])
        exact hK _ _ rfl (by (repeat' (first | (with_reducible exact Below.refl _ _) | (with_reducible assumption) | (with_reducible refine Below.alloc ?_ ?_ _) | (with_reducible refine below_drewN ?_ _) | (with_reducible refine Below.drew ?_) | (with_reducible refine Below.setCell ?_ ?_ _) | (with_reducible refine below_call (by assumption) ?_ ?_) | go_size)))
      · (intro v w1 K hb hF hK; (try simp at hF); simp at hK; (try simp only [hF] at hK); have hz := hb.size; (try simp at hz))
        go_simp
        (try simp only [])
        exact hK _ _ rfl (by (repeat' (first | (with_reducible exact Below.refl _ _) | (with_reducible assumption) | (with_reducible refine Below.alloc ?_ ?_ _) | (with_reducible refine below_drewN ?_ _) | (with_reducible refine Below.drew ?_) | (with_reducible refine Below.setCell ?_ ?_ _) | (with_reducible refine below_call (by assumption) ?_ ?_) | go_size)))
      · (intro v w1 K hb hF hK; (try simp at hF); simp at hK; (try simp only [hF] at hK); have hz := hb.size; (try simp at hz))
        go_simp
        (try simp only [])
        exact hK _ _ rfl (by (repeat' (first | (with_reducible exact Below.refl _ _) | (with_reducible assumption) | (with_reducible refine Below.alloc ?_ ?_ _) | (with_reducible refine below_drewN ?_ _) | (with_reducible refine Below.drew ?_) | (with_reducible refine Below.setCell ?_ ?_ _) | (with_reducible refine below_call (by assumption) ?_ ?_) | go_size)))
      · (intro v w1 K hb hF hK; (try simp at hF); simp at hK; (try simp only [hF] at hK); have hz := hb.size; (try simp at hz))
        go_simp
        (try simp only [])
        exact hK _ _ rfl (by (repeat' (first | (with_reducible exact Below.refl _ _) | (with_reducible assumption) | (with_reducible refine Below.alloc ?_ ?_ _) | (with_reducible refine below_drewN ?_ _) | (with_reducible refine Below.drew ?_) | (with_reducible refine Below.setCell ?_ ?_ _) | (with_reducible refine below_call (by assumption) ?_ ?_) | go_size)))
      · (intro v w1 K hb hF hK; (try simp at hF); simp at hK; (try simp only [hF] at hK); have hz := hb.size; (try simp at hz))
        go_simp
        (try simp only [])
        exact hK _ _ rfl (by (repeat' (first | (with_reducible exact Below.refl _ _) | (with_reducible assumption) | (with_reducible refine Below.alloc ?_ ?_ _) | (with_reducible refine below_drewN ?_ _) | (with_reducible refine Below.drew ?_) | (with_reducible refine Below.setCell ?_ ?_ _) | (with_reducible refine below_call (by assumption) ?_ ?_) | go_size)))
      · (intro v w1 K hb hF hK; (try simp at hF); simp at hK; (try simp only [hF] at hK); have hz := hb.size; (try simp at hz))
        go_simp
        (try simp only [])
        exact hK _ _ rfl (by (repeat' (first | (with_reducible exact Below.refl _ _) | (with_reducible assumption) | (with_reducible refine Below.alloc ?_ ?_ _) | (with_reducible refine below_drewN ?_ _) | (with_reducible refine Below.drew ?_) | (with_reducible refine Below.setCell ?_ ?_ _) | (with_reducible refine below_call (by assumption) ?_ ?_) | go_size)))
      · (intro v w1 K hb hF hK; (try simp at hF); simp at hK; (try simp only [hF] at hK); have hz := hb.size; (try simp at hz); (try (have hk := bcl hb (b) (by first | omega | (simp; done) | (simp; omega)); have hc := hk.1; have hf := hk.2.1; have hk := hk.2.2)))
        go_simp
        (try simp only [])
        exact hK _ _ rfl (by (repeat' (first | (with_reducible exact Below.refl _ _) | (with_reducible assumption) | (with_reducible refine Below.alloc ?_ ?_ _) | (with_reducible refine below_drewN ?_ _) | (with_reducible refine Below.drew ?_) | (with_reducible refine Below.setCell ?_ ?_ _) | (with_reducible refine below_call (by assumption) ?_ ?_) | go_size)))
      · (intro v w1 K hb hF hK; (try simp at hF); simp at hK; (try simp only [hF] at hK); have hz := hb.size; (try simp at hz))
        go_simp
        (try simp only [])
        exact hK _ _ (isSl_new _ _ _ hb.size) (by (repeat' (first | (with_reducible exact Below.refl _ _) | (with_reducible assumption) | (with_reducible refine Below.alloc ?_ ?_ _) | (with_reducible refine below_drewN ?_ _) | (with_reducible refine Below.drew ?_) | (with_reducible refine Below.setCell ?_ ?_ _) | (with_reducible refine below_call (by assumption) ?_ ?_) | go_size)))
    case hfo => exact trivial
    (intro v w1 hb hF; simp [List.range, List.range.loop] at hF; have hz := hb.size; (try simp at hz); (try (have hk := bcl hb (b) (by first | omega | (simp; done) | (simp; omega)); have hc := hk.1; have hf := hk.2.1; have hk := hk.2.2)))
    obtain ⟨e0, e1, e2, e3, e4, e5, e6, e7, e8, g, e9, hg, hgs, hgb⟩ := hF
    simp only [List.length_cons, List.length_nil, List.drop_succ_cons, List.drop_zero, e0, e1, e2, e3, e4, e5, e6, e7, e8, e9]
    clear e0 e1 e2 e3 e4 e5 e6 e7 e8 e9 v
    have hcg := blk_cell hgb; have hfg := blk_free hgb; have Hg := Lib.hid hgb; clear hgb; (try simp at hg)
    go_wp2
    go_ret
    rw [HM.out]
    exact ⟨_, rfl, OwnPts.made (n := 2) rfl (by omega) Hg.out rfl (by omega) rfl, by (repeat' (first | (with_reducible exact Below.refl _ _) | (with_reducible assumption) | (with_reducible refine Below.alloc ?_ ?_ _) | (with_reducible refine below_drewN ?_ _) | (with_reducible refine Below.drew ?_) | (with_reducible refine Below.setCell ?_ ?_ _) | (with_reducible refine below_call (by assumption) ?_ ?_) | (with_reducible refine below_grown (by assumption) ?_ ?_ ?_) | omega | (simp; done) | (simp; omega)))⟩
  · have HM : Hid (flatC lim d l = [(px l 0, py l 0), (px l q, py l q)]) := Lib.hid (by simp only [flatC]; rw [flat_le hb]; simp only [pt]; rw [HL.out, show n - 1 = q by omega])
    obtain ⟨B, hB⟩ : ∃ B, bendN l = B := ⟨_, rfl⟩
    rw [hB] at hb
    have HB := Lib.hid hB
    clear hB
    rcases Nat.eq_zero_or_pos d with h0 | h0
    · subst h0
      obtain ⟨b, o, rfl, hbl, c0, c1⟩ := HP.out.at_ (k := 0) (by omega)
      obtain ⟨b', o', e, _, c2, c3⟩ := HP.out.at_ (k := q) (by omega)
      cases e
      simp only [Nat.zero_mul, Nat.add_zero] at c0 c1
      go_enter Try.func16, Try.ntmps16
      go_wp2_with fail
      apply wp_region_pure (by kernel_rfl) ([] :: [0] :: [1] :: [] :: [] :: [4] :: [5] :: [3, 6] :: [7] :: [2, 8] :: []) (RS.det [] _ :: RS.det [0] _ :: RS.det [1] _ :: RS.det [] _ :: RS.det [] _ :: RS.det [4] _ :: RS.det [5] _ :: RS.det [3, 6] _ :: RS.det [7] _ :: RS.sl [2, 8] _ _ _ _ :: []) [] rfl (by kernel_rfl) (fun h => absurd rfl h) (by kernel_rfl) (by kernel_rfl) (st_det (st_det (st_det (st_det (st_det (st_det (st_det (st_det (st_det (st_sl st_nil)))))))))) _ (fun v => by simp; rfl)
      case hop =>
        simp only [Obls]
        refine ⟨?_, ?_, ?_, ?_, ?_, ?_, ?_, ?_, ?_, ?_, trivial⟩
        · (intro v w1 K hb hF hK; (try simp at hF); simp at hK; (try simp only [hF] at hK); have hz := hb.size; (try simp at hz))
          go_simp
          (try simp only [])
          exact hK _ _ rfl (by (repeat' (first | (with_reducible exact Below.refl _ _) | (with_reducible assumption) | (with_reducible refine Below.alloc ?_ ?_ _) | (with_reducible refine below_drewN ?_ _) | (with_reducible refine Below.drew ?_) | (with_reducible refine Below.setCell ?_ ?_ _) | (with_reducible refine below_call (by assumption) ?_ ?_) | go_size)))
        · (intro v w1 K hb hF hK; (try simp at hF); simp at hK; (try simp only [hF] at hK); have hz := hb.size; (try simp at hz))
          go_simp
          (try simp only [])
          exact hK _ _ rfl (by (repeat' (first | (with_reducible exact Below.refl _ _) | (with_reducible assumption) | (with_reducible refine Below.alloc ?_ ?_ _) | (with_reducible refine below_drewN ?_ _) | (with_reducible refine Below.drew ?_) | (with_reducible refine Below.setCell ?_ ?_ _) | (with_reducible refine below_call (by assumption) ?_ ?_) | go_size)))
        · (intro v w1 K hb hF hK; (try simp at hF); simp at hK; (try simp only [hF] at hK); have hz := hb.size; (try simp at hz); (try (have hk := bcl hb (b) (by first | omega | (simp; done) | (simp; omega)); have hc := hk.1; have hf := hk.2.1; have hk := hk.2.2)))
          go_simp
          (try simp only [])
          exact hK _ _ rfl (by (repeat' (first | (with_reducible exact Below.refl _ _) | (with_reducible assumption) | (with_reducible refine Below.alloc ?_ ?_ _) | (with_reducible refine below_drewN ?_ _) | (with_reducible refine Below.drew ?_) | (with_reducible refine Below.setCell ?_ ?_ _) | (with_reducible refine below_call (by assumption) ?_ ?_) | go_size)))
        · (intro v w1 K hb hF hK; (try simp at hF); simp at hK; (try simp only [hF] at hK); have hz := hb.size; (try simp at hz))
          go_simp
          (try simp only [])
          exact hK _ _ rfl (by (repeat' (first | (with_reducible exact Below.refl _ _) | (with_reducible assumption) | (with_reducible refine Below.alloc ?_ ?_ _) | (with_reducible refine below_drewN ?_ _) | (with_reducible refine Below.drew ?_) | (with_reducible refine Below.setCell ?_ ?_ _) | (with_reducible refine below_call (by assumption) ?_ ?_) | go_size)))
        · (intro v w1 K hb hF hK; (try simp at hF); simp at hK; (try simp only [hF] at hK); have hz := hb.size; (try simp at hz))
          go_simp
          (try simp only [])
          exact hK _ _ rfl (by (repeat' (first | (with_reducible exact Below.refl _ _) | (with_reducible assumption) | (with_reducible refine Below.alloc ?_ ?_ _) | (with_reducible refine below_drewN ?_ _) | (with_reducible refine Below.drew ?_) | (with_reducible refine Below.setCell ?_ ?_ _) | (with_reducible refine below_call (by assumption) ?_ ?_) | go_size)))
        · (intro v w1 K hb hF hK; (try simp at hF); simp at hK; (try simp only [hF] at hK); have hz := hb.size; (try simp at hz))
          go_simp
          (try simp only [])
          exact hK _ _ rfl (by (repeat' (first | (with_reducible exact Below.refl _ _) | (with_reducible assumption) | (with_reducible refine Below.alloc ?_ ?_ _) | (with_reducible refine below_drewN ?_ _) | (with_reducible refine Below.drew ?_) | (with_reducible refine Below.setCell ?_ ?_ _) | (with_reducible refine below_call (by assumption) ?_ ?_) | go_size)))
        · (intro v w1 K hb hF hK; (try simp at hF); simp at hK; (try simp only [hF] at hK); have hz := hb.size; (try simp at hz))
          go_simp
          (try simp only [])
          exact hK _ _ rfl (by (repeat' (first | (with_reducible exact Below.refl _ _) | (with_reducible assumption) | (with_reducible refine Below.alloc ?_ ?_ _) | (with_reducible refine below_drewN ?_ _) | (with_reducible refine Below.drew ?_) | (with_reducible refine Below.setCell ?_ ?_ _) | (with_reducible refine below_call (by assumption) ?_ ?_) | go_size)))
        · (intro v w1 K hb hF hK; (try simp at hF); simp at hK; (try simp only [hF] at hK); have hz := hb.size; (try simp at hz))
          go_simp
          (try simp only [])
          exact hK _ _ rfl (by (repeat' (first | (with_reducible exact Below.refl _ _) | (with_reducible assumption) | (with_reducible refine Below.alloc ?_ ?_ _) | (with_reducible refine below_drewN ?_ _) | (with_reducible refine Below.drew ?_) | (with_reducible refine Below.setCell ?_ ?_ _) | (with_reducible refine below_call (by assumption) ?_ ?_) | go_size)))
        · (intro v w1 K hb hF hK; (try simp at hF); simp at hK; (try simp only [hF] at hK); have hz := hb.size; (try simp at hz); (try (have hk := bcl hb (b) (by first | omega | (simp; done) | (simp; omega)); have hc := hk.1; have hf := hk.2.1; have hk := hk.2.2)))
          go_simp
          (try simp only [])
          exact hK _ _ rfl (by (repeat' (first | (with_reducible exact Below.refl _ _) | (with_reducible assumption) | (with_reducible refine Below.alloc ?_ ?_ _) | (with_reducible refine below_drewN ?_ _) | (with_reducible refine Below.drew ?_) | (with_reducible refine Below.setCell ?_ ?_ _) | (with_reducible refine below_call (by assumption) ?_ ?_) | go_size)))
        · (intro v w1 K hb hF hK; (try simp at hF); simp at hK; (try simp only [hF] at hK); have hz := hb.size; (try simp at hz))
          go_simp
          (try simp only [])
          exact hK _ _ (isSl_new _ _ _ hb.size) (by (repeat' (first | (with_reducible exact Below.refl _ _) | (with_reducible assumption) | (with_reducible refine Below.alloc ?_ ?_ _) | (with_reducible refine below_drewN ?_ _) | (with_reducible refine Below.drew ?_) | (with_reducible refine Below.setCell ?_ ?_ _) | (with_reducible refine below_call (by assumption) ?_ ?_) | go_size)))
      case hfo => exact trivial
      (intro v w1 hb hF; simp [List.range, List.range.loop] at hF; have hz := hb.size; (try simp at hz); (try (have hk := bcl hb (b) (by first | omega | (simp; done) | (simp; omega)); have hc := hk.1; have hf := hk.2.1; have hk := hk.2.2)))
      obtain ⟨e0, e1, e2, e3, e4, e5, e6, e7, e8, g, e9, hg, hgs, hgb⟩ := hF
      simp only [List.length_cons, List.length_nil, List.drop_succ_cons, List.drop_zero, e0, e1, e2, e3, e4, e5, e6, e7, e8, e9]
      clear e0 e1 e2 e3 e4 e5 e6 e7 e8 e9 v
      have hcg := blk_cell hgb; have hfg := blk_free hgb; have Hg := Lib.hid hgb; clear hgb; (try simp at hg)
      go_wp2
      go_ret
      rw [HM.out]
      exact ⟨_, rfl, OwnPts.made (n := 2) rfl (by omega) Hg.out rfl (by omega) rfl, by (repeat' (first | (with_reducible exact Below.refl _ _) | (with_reducible assumption) | (with_reducible refine Below.alloc ?_ ?_ _) | (with_reducible refine below_drewN ?_ _) | (with_reducible refine Below.drew ?_) | (with_reducible refine Below.setCell ?_ ?_ _) | (with_reducible refine below_call (by assumption) ?_ ?_) | (with_reducible refine below_grown (by assumption) ?_ ?_ ?_) | omega | (simp; done) | (simp; omega)))⟩
    · have eb : decide ((d : Int) = 0) = false := by simp; omega
      have eb2 : ((d : Int) == 0) = false := by simp; omega
      have eb3 : decide (B ≤ lim) = true := by simpa using hb
      go_enter Try.func16, Try.ntmps16
      go_wp2_with fail
      refine (bend_eq c (HP.out.below (by (repeat' (first | (with_reducible exact Below.refl _ _) | (with_reducible assumption) | (with_reducible refine Below.alloc ?_ ?_ _) | (with_reducible refine below_drewN ?_ _) | (with_reducible refine Below.drew ?_) | (with_reducible refine Below.setCell ?_ ?_ _) | (with_reducible refine below_call (by assumption) ?_ ?_) | (with_reducible refine below_grown (by assumption) ?_ ?_ ?_) | omega | (simp; done) | (simp; omega))))) HC.out (Hid.out (by with_reducible assumption))).mono ?_
      rintro e wb ⟨rfl, hbb⟩
      have hzb := hbb.size
      have HPb := Lib.hid (HP.out.below hbb)
      obtain ⟨b, o, rfl, hbl, c0, c1⟩ := HPb.out.at_ (k := 0) (by omega)
      obtain ⟨b', o', e, _, c2, c3⟩ := HPb.out.at_ (k := q) (by omega)
      cases e
      simp only [Nat.zero_mul, Nat.add_zero] at c0 c1
      go_wp2_with fail
      apply wp_region_pure (by kernel_rfl) ([] :: [0] :: [1] :: [] :: [] :: [4] :: [5] :: [3, 6] :: [7] :: [2, 8] :: []) (RS.det [] _ :: RS.det [0] _ :: RS.det [1] _ :: RS.det [] _ :: RS.det [] _ :: RS.det [4] _ :: RS.det [5] _ :: RS.det [3, 6] _ :: RS.det [7] _ :: RS.sl [2, 8] _ _ _ _ :: []) [] rfl (by kernel_rfl) (fun h => absurd rfl h) (by kernel_rfl) (by kernel_rfl) (st_det (st_det (st_det (st_det (st_det (st_det (st_det (st_det (st_det (st_sl st_nil)))))))))) _ (fun v => by simp; rfl)
      case hop =>
        simp only [Obls]
        refine ⟨?_, ?_, ?_, ?_, ?_, ?_, ?_, ?_, ?_, ?_, trivial⟩
        · (intro v w1 K hb hF hK; (try simp at hF); simp at hK; (try simp only [hF] at hK); have hz := hb.size; (try simp at hz))
          go_simp
          (try simp only [])
          exact hK _ _ rfl (by (repeat' (first | (with_reducible exact Below.refl _ _) | (with_reducible assumption) | (with_reducible refine Below.alloc ?_ ?_ _) | (with_reducible refine below_drewN ?_ _) | (with_reducible refine Below.drew ?_) | (with_reducible refine Below.setCell ?_ ?_ _) | (with_reducible refine below_call (by assumption) ?_ ?_) | go_size)))
        · (intro v w1 K hb hF hK; (try simp at hF); simp at hK; (try simp only [hF] at hK); have hz := hb.size; (try simp at hz))
          go_simp
          (try simp only [])
          exact hK _ _ rfl (by (repeat' (first | (with_reducible exact Below.refl _ _) | (with_reducible assumption) | (with_reducible refine Below.alloc ?_ ?_ _) | (with_reducible refine below_drewN ?_ _) | (with_reducible refine Below.drew ?_) | (with_reducible refine Below.setCell ?_ ?_ _) | (with_reducible refine below_call (by assumption) ?_ ?_) | go_size)))
        · (intro v w1 K hb hF hK; (try simp at hF); simp at hK; (try simp only [hF] at hK); have hz := hb.size; (try simp at hz); (try (have hk := bcl hb (b) (by first | omega | (simp; done) | (simp; omega)); have hc := hk.1; have hf := hk.2.1; have hk := hk.2.2)))
          go_simp
          (try simp only [])
          exact hK _ _ rfl (by (repeat' (first | (with_reducible exact Below.refl _ _) | (with_reducible assumption) | (with_reducible refine Below.alloc ?_ ?_ _) | (with_reducible refine below_drewN ?_ _) | (with_reducible refine Below.drew ?_) | (with_reducible refine Below.setCell ?_ ?_ _) | (with_reducible refine below_call (by assumption) ?_ ?_) | go_size)))
        · (intro v w1 K hb hF hK; (try simp at hF); simp at hK; (try simp only [hF] at hK); have hz := hb.size; (try simp at hz))
          go_simp
          (try simp only [])
          exact hK _ _ rfl (by (repeat' (first | (with_reducible exact Below.refl _ _) | (with_reducible assumption) | (with_reducible refine Below.alloc ?_ ?_ _) | (with_reducible refine below_drewN ?_ _) | (with_reducible refine Below.drew ?_) | (with_reducible refine Below.setCell ?_ ?_ _) | (with_reducible refine below_call (by assumption) ?_ ?_) | go_size)))
        · (intro v w1 K hb hF hK; (try simp at hF); simp at hK; (try simp only [hF] at hK); have hz := hb.size; (try simp at hz))
          go_simp
          (try simp only [])
          exact hK _ _ rfl (by (repeat' (first | (with_reducible exact Below.refl _ _) | (with_reducible assumption) | (with_reducible refine Below.alloc ?_ ?_ _) | (with_reducible refine below_drewN ?_ _) | (with_reducible refine Below.drew ?_) | (with_reducible refine Below.setCell ?_ ?_ _) | (with_reducible refine below_call (by assumption) ?_ ?_) | go_size)))
        · (intro v w1 K hb hF hK; (try simp at hF); simp at hK; (try simp only [hF] at hK); have hz := hb.size; (try simp at hz))
          go_simp
          (try simp only [])
          exact hK _ _ rfl (by (repeat' (first | (with_reducible exact Below.refl _ _) | (with_reducible assumption) | (with_reducible refine Below.alloc ?_ ?_ _) | (with_reducible refine below_drewN ?_ _) | (with_reducible refine Below.drew ?_) | (with_reducible refine Below.setCell ?_ ?_ _) | (with_reducible refine below_call (by assumption) ?_ ?_) | go_size)))
        · (intro v w1 K hb hF hK; (try simp at hF); simp at hK; (try simp only [hF] at hK); have hz := hb.size; (try simp at hz))
          go_simp
          (try simp only [])
          exact hK _ _ rfl (by (repeat' (first | (with_reducible exact Below.refl _ _) | (with_reducible assumption) | (with_reducible refine Below.alloc ?_ ?_ _) | (with_reducible refine below_drewN ?_ _) | (with_reducible refine Below.drew ?_) | (with_reducible refine Below.setCell ?_ ?_ _) | (with_reducible refine below_call (by assumption) ?_ ?_) | go_size)))
        · (intro v w1 K hb hF hK; (try simp at hF); simp at hK; (try simp only [hF] at hK); have hz := hb.size; (try simp at hz))
          go_simp
          (try simp only [])
          exact hK _ _ rfl (by (repeat' (first | (with_reducible exact Below.refl _ _) | (with_reducible assumption) | (with_reducible refine Below.alloc ?_ ?_ _) | (with_reducible refine below_drewN ?_ _) | (with_reducible refine Below.drew ?_) | (with_reducible refine Below.setCell ?_ ?_ _) | (with_reducible refine below_call (by assumption) ?_ ?_) | go_size)))
        · (intro v w1 K hb hF hK; (try simp at hF); simp at hK; (try simp only [hF] at hK); have hz := hb.size; (try simp at hz); (try (have hk := bcl hb (b) (by first | omega | (simp; done) | (simp; omega)); have hc := hk.1; have hf := hk.2.1; have hk := hk.2.2)))
          go_simp
          (try simp only [])
          exact hK _ _ rfl (by (repeat' (first | (with_reducible exact Below.refl _ _) | (with_reducible assumption) | (with_reducible refine Below.alloc ?_ ?_ _) | (with_reducible refine below_drewN ?_ _) | (with_reducible refine Below.drew ?_) | (with_reducible refine Below.setCell ?_ ?_ _) | (with_reducible refine below_call (by assumption) ?_ ?_) | go_size)))
        · (intro v w1 K hb hF hK; (try simp at hF); simp at hK; (try simp only [hF] at hK); have hz := hb.size; (try simp at hz))
          go_simp
          (try simp only [])
          exact hK _ _ (isSl_new _ _ _ hb.size) (by (repeat' (first | (with_reducible exact Below.refl _ _) | (with_reducible assumption) | (with_reducible refine Below.alloc ?_ ?_ _) | (with_reducible refine below_drewN ?_ _) | (with_reducible refine Below.drew ?_) | (with_reducible refine Below.setCell ?_ ?_ _) | (with_reducible refine below_call (by assumption) ?_ ?_) | go_size)))
      case hfo => exact trivial
      (intro v w1 hb hF; simp [List.range, List.range.loop] at hF; have hz := hb.size; (try simp at hz); (try (have hk := bcl hb (b) (by first | omega | (simp; done) | (simp; omega)); have hc := hk.1; have hf := hk.2.1; have hk := hk.2.2)))
      obtain ⟨e0, e1, e2, e3, e4, e5, e6, e7, e8, g, e9, hg, hgs, hgb⟩ := hF
      simp only [List.length_cons, List.length_nil, List.drop_succ_cons, List.drop_zero, e0, e1, e2, e3, e4, e5, e6, e7, e8, e9]
      clear e0 e1 e2 e3 e4 e5 e6 e7 e8 e9 v
      have hcg := blk_cell hgb; have hfg := blk_free hgb; have Hg := Lib.hid hgb; clear hgb; (try simp at hg)
      go_wp2
      go_ret
      rw [HM.out]
      exact ⟨_, rfl, OwnPts.made (n := 2) rfl (by omega) Hg.out rfl (by omega) rfl, by (repeat' (first | (with_reducible exact Below.refl _ _) | (with_reducible assumption) | (with_reducible refine Below.alloc ?_ ?_ _) | (with_reducible refine below_drewN ?_ _) | (with_reducible refine Below.drew ?_) | (with_reducible refine Below.setCell ?_ ?_ _) | (with_reducible refine below_call (by assumption) ?_ ?_) | (with_reducible refine below_grown (by assumption) ?_ ?_ ?_) | omega | (simp; done) | (simp; omega)))⟩

set_option maxHeartbeats 2000000 in
theorem flatten_any : ∀ (d : Nat), d ≤ 4 → ∀ {A : Option Addr} {n : Nat} {l : List Pt} {w : World} {lim : Int} (c : Nat), IsPts w A n l → curveB l = true →
    Calls Try.prog 16 #[.slice A n c, .int .i64 lim, .int .i64 d] w (RetPts (flatC lim d l) w) := by
  intro d
  induction d with
  | zero => intro _ A n l w lim c h hc; exact ends_any 0 c h hc (.inl rfl)
  | succ d ih =>
    intro hd4 A n l w lim c h hc
    by_cases hb : bendN l ≤ lim
    · exact ends_any (d + 1) c h hc (.inr ⟨hd4, hb⟩)
    · obtain ⟨p1, p2, p3⟩ := curveB_parts hc
      have hl := h.1
      rw [hl] at p1 p2
      have IH := Lib.hid ih
      have HP := Lib.hid h
      have HL := Lib.hid hl
      have HC := Lib.hid hc
      have HM := Lib.hid (flatC_succ (d := d) hb (by omega))
      have HCL := Lib.hid (curve_left hc)
      have HCR := Lib.hid (curve_right hc)
      obtain ⟨B, hB⟩ : ∃ B, bendN l = B := ⟨_, rfl⟩
      rw [hB] at hb
      have HB := Lib.hid hB
      have f1 := flatC_len lim d (leftL l)
      have f2 := flatC_len lim d (rightL l)
      have hp : 2 ^ d ≤ 2 ^ 4 := Nat.pow_le_pow_right (by omega) (by omega)
      obtain ⟨n1, hn1⟩ : ∃ m, (flatC lim d (leftL l)).length = m := ⟨_, rfl⟩
      obtain ⟨n2, hn2⟩ : ∃ m, (flatC lim d (rightL l)).length = m + 1 := ⟨(flatC lim d (rightL l)).length - 1, by omega⟩
      rw [hn1] at f1
      rw [hn2] at f2
      obtain ⟨f10, f11⟩ : 2 ≤ n1 ∧ n1 ≤ 17 := ⟨f1.1, by omega⟩
      obtain ⟨f20, f21⟩ : 1 ≤ n2 ∧ n2 ≤ 17 := ⟨by omega, by omega⟩
      have N1 := Lib.hid hn1
      have N2 := Lib.hid hn2
      clear ih h hc hl p3 hB f1 f2 hp hn1 hn2
      have eb : decide (((d + 1 : Nat) : Int) = 0) = false := by simp; omega
      have eb1 : ¬ ((d : Int) + 1 = 0) := by omega
      have eb3 : decide (B ≤ lim) = false := by simpa using hb
      have t1 : IntKind.i64.wrap (((d + 1 : Nat) : Int) - 1) = (d : Int) := (IntWalk.i64_in _ (by omega)).trans (by omega)
      go_enter Try.func16, Try.ntmps16
      go_wp2_with fail
      refine (bend_eq c (HP.out.below (by (repeat' (first | (with_reducible exact Below.refl _ _) | (with_reducible assumption) | (with_reducible refine Below.alloc ?_ ?_ _) | (with_reducible refine below_drewN ?_ _) | (with_reducible refine Below.drew ?_) | (with_reducible refine Below.setCell ?_ ?_ _) | (with_reducible refine below_call (by assumption) ?_ ?_) | (with_reducible refine below_grown (by assumption) ?_ ?_ ?_) | omega | (simp; done) | (simp; omega))))) HC.out (Hid.out (by with_reducible assumption))).mono ?_
      rintro e wb ⟨rfl, hbb⟩
      have hzb := hbb.size
      go_wp2_with fail
      refine (split_any c (HP.out.below hbb) HC.out).mono ?_
      rintro e ws ⟨v, u, s, rfl, h1, h2, h3, h4, hbs⟩
      have hzs := hbs.size
      obtain ⟨A1, c1, rfl, _, _, hP1, _⟩ := h1.form
      obtain ⟨A2, c2, rfl, _, _, hP2, _⟩ := h4.form
      rw [show (leftL l).length = n by rw [leftL_len, HL.out]] at hP1 ⊢
      rw [show (rightL l).length = n by rw [rightL_len, HL.out]] at hP2 ⊢
      have HP1 := Lib.hid hP1
      have HP2 := Lib.hid hP2
      clear h1 h2 h4 hP1 hP2
      go_wp2_with fail
      refine (IH.out (by omega) c1 HP1.out HCL.out).mono ?_
      rintro e wf ⟨v1, rfl, ho1, hbf⟩
      have hzf := hbf.size
      have O1 := Lib.hid ho1
      clear ho1
      go_wp2_with fail
      refine (IH.out (by omega) c2 (HP2.out.below hbf) HCR.out).mono ?_
      rintro e wg ⟨v2, rfl, ho2, hbg⟩
      have hzg := hbg.size
      obtain ⟨A3, c3, rfl, hP3, hc3, hm3, _⟩ := ho2.form
      rw [N2.out] at hP3 hc3 ⊢
      obtain ⟨b3, o3, rfl, hbl3, _, _⟩ := hP3.at_ (k := 0) (by omega)
      have HP3 := Lib.hid hP3.drop1
      unfold maxLen at hm3
      have ND : Hid (((flatC lim d (rightL l)).drop 1).length = n2) := Lib.hid (by rw [List.length_drop, N2.out]; omega)
      clear ho2 hP3
      have hc3i : ((n2 + 1 : Nat) : Int) ≤ c3 := by omega
      go_wp2_with (at_builtin
                   refine append_ptsL rfl (.tmp 36) (.tmp 42) rfl w.heap.size v1 (flatC lim d (leftL l)) rfl ((O1.out.below hbg).lower (by omega)) _ _ _ ((flatC lim d (rightL l)).drop 1) rfl HP3.out (by rw [N1.out, ND.out]; omega) (by omega) ?_
                   intro v4 w4 hv4 hg4 ha4
                   refine Kept.out ?_)
      rw [← HM.out] at hv4
      have hz4 := hg4.size
      have B4 : Hid (Below w.heap.size w w4) := Lib.hid (below_ownP hg4 (by (repeat' (first | (with_reducible exact Below.refl _ _) | (with_reducible assumption) | (with_reducible refine Below.alloc ?_ ?_ _) | (with_reducible refine below_drewN ?_ _) | (with_reducible refine Below.drew ?_) | (with_reducible refine Below.setCell ?_ ?_ _) | (with_reducible refine below_call (by assumption) ?_ ?_) | (with_reducible refine below_grown (by assumption) ?_ ?_ ?_) | omega | (simp; done) | (simp; omega)))) (by omega) (fun g hg => by have := O1.out.row g hg; omega))
      have V4 := Lib.hid hv4
      clear hv4 hg4 ha4
      refine Kept.mk ?_
      go_wp2
      go_ret
      exact ⟨_, rfl, V4.out, B4.out⟩

set_option maxHeartbeats 2000000 in
theorem sends_any (d : Nat) {A : Option Addr} {n : Nat} {l : List Pt} {w : World} {lim : Int} (c : Nat) (h : IsPts w A n l) (hc : curveB l = true) (hd : d = 0 ∨ (d ≤ 4 ∧ bendN l ≤ lim)) :
    Calls Try.prog 19 #[.slice A n c, .int .i64 lim, .int .i64 d] w (RetPts (flat lim d l) w) := by
  obtain ⟨p1, p2, p3⟩ := curveB_parts hc
  have hl := h.1
  rw [hl] at p1 p2
  have HP := Lib.hid h
  have HL := Lib.hid hl
  have HC := Lib.hid hc
  clear h hc hl p3
  obtain ⟨q, hq⟩ : ∃ q, q + 1 = n := ⟨n - 1, by omega⟩
  have hki : (0 : Int) < n := by omega
  have hn0 : 0 < n := by omega
  have hqi : (q : Int) < n := by omega
  have t1 : IntKind.i64.wrap ((n : Int) - 1) = (q : Int) := (IntWalk.i64_in _ (by omega)).trans (by omega)
  have HM : Hid (flat lim d l = [(px l q, py l q)]) := by
    rcases hd with rfl | ⟨hd, hb⟩
    · exact Lib.hid (by simp only [flat, pt]; rw [HL.out, show n - 1 = q by omega])
    · exact Lib.hid (by rw [flat_le hb]; simp only [pt]; rw [HL.out, show n - 1 = q by omega])
  rcases Nat.eq_zero_or_pos d with h0 | h0
  · subst h0
    obtain ⟨b, o, rfl, hbl, c2, c3⟩ := HP.out.at_ (k := q) (by omega)
    go_enter Try.func19, Try.ntmps19
    go_wp2
    go_ret
    rw [HM.out]
    exact ⟨_, rfl, OwnPts.made (n := 1) rfl (by omega) (blk_new w _) rfl (by omega) rfl, by (repeat' (first | (with_reducible exact Below.refl _ _) | (with_reducible assumption) | (with_reducible refine Below.alloc ?_ ?_ _) | (with_reducible refine below_drewN ?_ _) | (with_reducible refine Below.drew ?_) | (with_reducible refine Below.setCell ?_ ?_ _) | (with_reducible refine below_call (by assumption) ?_ ?_) | (with_reducible refine below_grown (by assumption) ?_ ?_ ?_) | omega | (simp; done) | (simp; omega)))⟩
  · rcases hd with rfl | ⟨hd, hb⟩
    · omega
    obtain ⟨B, hB⟩ : ∃ B, bendN l = B := ⟨_, rfl⟩
    rw [hB] at hb
    have HB := Lib.hid hB
    clear hB
    have eb : decide ((d : Int) = 0) = false := by simp; omega
    have eb2 : ((d : Int) == 0) = false := by simp; omega
    have eb3 : decide (B ≤ lim) = true := by simpa using hb
    go_enter Try.func19, Try.ntmps19
    go_wp2_with fail
    refine (sbend_eq c (HP.out.below (by (repeat' (first | (with_reducible exact Below.refl _ _) | (with_reducible assumption) | (with_reducible refine Below.alloc ?_ ?_ _) | (with_reducible refine below_drewN ?_ _) | (with_reducible refine Below.drew ?_) | (with_reducible refine Below.setCell ?_ ?_ _) | (with_reducible refine below_call (by assumption) ?_ ?_) | (with_reducible refine below_grown (by assumption) ?_ ?_ ?_) | omega | (simp; done) | (simp; omega))))) HC.out (Hid.out (by with_reducible assumption))).mono ?_
    rintro e wb ⟨rfl, hbb⟩
    have hzb := hbb.size
    have HPb := Lib.hid (HP.out.below hbb)
    obtain ⟨b, o, rfl, hbl, c2, c3⟩ := HPb.out.at_ (k := q) (by omega)
    go_wp2
    go_ret
    rw [HM.out]
    exact ⟨_, rfl, OwnPts.made (n := 1) rfl (by omega) (blk_new wb _) rfl (by omega) rfl, by (repeat' (first | (with_reducible exact Below.refl _ _) | (with_reducible assumption) | (with_reducible refine Below.alloc ?_ ?_ _) | (with_reducible refine below_drewN ?_ _) | (with_reducible refine Below.drew ?_) | (with_reducible refine Below.setCell ?_ ?_ _) | (with_reducible refine below_call (by assumption) ?_ ?_) | (with_reducible refine below_grown (by assumption) ?_ ?_ ?_) | omega | (simp; done) | (simp; omega)))⟩

set_option maxHeartbeats 2000000 in
theorem sflatten_any : ∀ (d : Nat), d ≤ 4 → ∀ {A : Option Addr} {n : Nat} {l : List Pt} {w : World} {lim : Int} (c : Nat), IsPts w A n l → curveB l = true →
    Calls Try.prog 19 #[.slice A n c, .int .i64 lim, .int .i64 d] w (RetPts (flat lim d l) w) := by
  intro d
  induction d with
  | zero => intro _ A n l w lim c h hc; exact sends_any 0 c h hc (.inl rfl)
  | succ d ih =>
    intro hd4 A n l w lim c h hc
    by_cases hb : bendN l ≤ lim
    · exact sends_any (d + 1) c h hc (.inr ⟨hd4, hb⟩)
    · obtain ⟨p1, p2, p3⟩ := curveB_parts hc
      have hl := h.1
      rw [hl] at p1 p2
      have IH := Lib.hid ih
      have HP := Lib.hid h
      have HL := Lib.hid hl
      have HC := Lib.hid hc
      have HM : Hid (flat lim (d + 1) l = flat lim d (leftL l) ++ flat lim d (rightL l)) := Lib.hid (by rw [flat, if_neg hb])
      have HCL := Lib.hid (curve_left hc)
      have HCR := Lib.hid (curve_right hc)
      obtain ⟨B, hB⟩ : ∃ B, bendN l = B := ⟨_, rfl⟩
      rw [hB] at hb
      have HB := Lib.hid hB
      have f1 := flat_len lim d (leftL l)
      have f2 := flat_len lim d (rightL l)
      have hp : 2 ^ d ≤ 2 ^ 4 := Nat.pow_le_pow_right (by omega) (by omega)
      obtain ⟨n1, hn1⟩ : ∃ m, (flat lim d (leftL l)).length = m := ⟨_, rfl⟩
      obtain ⟨n2, hn2⟩ : ∃ m, (flat lim d (rightL l)).length = m := ⟨_, rfl⟩
      rw [hn1] at f1
      rw [hn2] at f2
      obtain ⟨f10, f11⟩ : 1 ≤ n1 ∧ n1 ≤ 16 := ⟨f1.1, by omega⟩
      obtain ⟨f20, f21⟩ : 1 ≤ n2 ∧ n2 ≤ 16 := ⟨by omega, by omega⟩
      have N1 := Lib.hid hn1
      have N2 := Lib.hid hn2
      clear ih h hc hl p3 hB f1 f2 hp hn1 hn2
      have eb : decide (((d + 1 : Nat) : Int) = 0) = false := by simp; omega
      have eb1 : ¬ ((d : Int) + 1 = 0) := by omega
      have eb3 : decide (B ≤ lim) = false := by simpa using hb
      have t1 : IntKind.i64.wrap (((d + 1 : Nat) : Int) - 1) = (d : Int) := (IntWalk.i64_in _ (by omega)).trans (by omega)
      go_enter Try.func19, Try.ntmps19
      go_wp2_with fail
      refine (sbend_eq c (HP.out.below (by (repeat' (first | (with_reducible exact Below.refl _ _) | (with_reducible assumption) | (with_reducible refine Below.alloc ?_ ?_ _) | (with_reducible refine below_drewN ?_ _) | (with_reducible refine Below.drew ?_) | (with_reducible refine Below.setCell ?_ ?_ _) | (with_reducible refine below_call (by assumption) ?_ ?_) | (with_reducible refine below_grown (by assumption) ?_ ?_ ?_) | omega | (simp; done) | (simp; omega))))) HC.out (Hid.out (by with_reducible assumption))).mono ?_
      rintro e wb ⟨rfl, hbb⟩
      have hzb := hbb.size
      go_wp2_with fail
      refine (ssplit_any c (HP.out.below hbb) HC.out).mono ?_
      rintro e ws ⟨v, u, rfl, h1, h4, hbs⟩
      have hzs := hbs.size
      obtain ⟨A1, c1, rfl, hP1, _⟩ := h1.form
      obtain ⟨A2, c2, rfl, hP2, _⟩ := h4.form
      rw [show (leftL l).length = n by rw [leftL_len, HL.out]] at hP1 ⊢
      rw [show (rightL l).length = n by rw [rightL_len, HL.out]] at hP2 ⊢
      have HP1 := Lib.hid hP1
      have HP2 := Lib.hid hP2
      clear h1 h4 hP1 hP2
      go_wp2_with fail
      refine (IH.out (by omega) c1 HP1.out HCL.out).mono ?_
      rintro e wf ⟨v1, rfl, ho1, hbf⟩
      have hzf := hbf.size
      have O1 := Lib.hid ho1
      clear ho1
      go_wp2_with fail
      refine (IH.out (by omega) c2 (HP2.out.below hbf) HCR.out).mono ?_
      rintro e wg ⟨v2, rfl, ho2, hbg⟩
      have hzg := hbg.size
      obtain ⟨A3, c3, rfl, hP3, hc3, hm3, _⟩ := ho2.form
      rw [N2.out] at hP3 hc3 ⊢
      obtain ⟨b3, o3, rfl, hbl3, _, _⟩ := hP3.at_ (k := 0) (by omega)
      have HP3 := Lib.hid hP3
      clear ho2 hP3
      go_wp2_with (at_builtin
                   refine append_ptsL rfl (.tmp 33) (.tmp 38) rfl w.heap.size v1 (flat lim d (leftL l)) rfl ((O1.out.below hbg).lower (by omega)) _ _ _ (flat lim d (rightL l)) rfl HP3.out (by rw [N1.out, N2.out]; omega) (by omega) ?_
                   intro v4 w4 hv4 hg4 ha4
                   refine Kept.out ?_)
      rw [← HM.out] at hv4
      have hz4 := hg4.size
      have B4 : Hid (Below w.heap.size w w4) := Lib.hid (below_ownP hg4 (by (repeat' (first | (with_reducible exact Below.refl _ _) | (with_reducible assumption) | (with_reducible refine Below.alloc ?_ ?_ _) | (with_reducible refine below_drewN ?_ _) | (with_reducible refine Below.drew ?_) | (with_reducible refine Below.setCell ?_ ?_ _) | (with_reducible refine below_call (by assumption) ?_ ?_) | (with_reducible refine below_grown (by assumption) ?_ ?_ ?_) | omega | (simp; done) | (simp; omega)))) (by omega) (fun g hg => by have := O1.out.row g hg; omega))
      have V4 := Lib.hid hv4
      clear hv4 hg4 ha4
      refine Kept.mk ?_
      go_wp2
      go_ret
      exact ⟨_, rfl, V4.out, B4.out⟩

/-- A slice of points that is not nil. -/
def SlP (n : Nat) (l : List Pt) (v : Value) (w : World) : Prop := ∃ a c, v = .slice (some a) n c ∧ IsPts w (some a) n l
theorem SlP.below {n : Nat} {l : List Pt} {v : Value} {w w' : World} (h : SlP n l v w) (hb : Below w.heap.size w w') : SlP n l v w' := by
  obtain ⟨a, c, e, h⟩ := h; exact ⟨a, c, e, h.below hb⟩
theorem flatR_len (l : List Pt) (lim d : Int) : (flatR l lim d).length ≤ 17 := by
  unfold flatR
  split
  · rename_i h
    simp only [flatOk, Bool.and_eq_true, inB_true] at h
    have := flatC_len lim d.toNat l
    have hp : 2 ^ d.toNat ≤ 2 ^ 4 := Nat.pow_le_pow_right (by omega) (by omega)
    omega
  · simp

set_option maxHeartbeats 2000000 in
theorem FlattenCurve_eq {A : Option Addr} {n : Nat} {l m : List Pt} {w : World} {lim d : Int} (c : Nat) (h : IsPts w A n l) (hn : n ≤ 1000000000000) (hm : flatR l lim d = m) :
    Calls Try.prog 5 #[.slice A n c, .int .i64 lim, .int .i64 d] w (RetP m w) := by
  subst hm
  have HP := Lib.hid h
  clear h
  unfold flatR
  rcases Bool.eq_false_or_eq_true (curveB l) with h1 | h1
  · rcases Bool.eq_false_or_eq_true (inB lim 0 1000) with h2 | h2
    · rcases Bool.eq_false_or_eq_true (inB d 0 4) with h3 | h3
      · have e : flatOk l lim d = true := by simp [flatOk, h1, h2, h3]
        rw [if_pos e]
        obtain ⟨d0, d4⟩ := inB_true.1 h3
        obtain ⟨D, rfl⟩ := Int.eq_ofNat_of_zero_le d0
        have H1 := Lib.hid h1
        have H2 := Lib.hid h2
        have H3 := Lib.hid h3
        have FL := flatR_len l lim D
        rw [flatR, if_pos e] at FL
        rw [Int.toNat_natCast] at FL ⊢
        obtain ⟨nf, hnf⟩ : ∃ m, (flatC lim D l).length = m := ⟨_, rfl⟩
        rw [hnf] at FL
        have NF := Lib.hid hnf
        clear h1 h2 h3 e d0 hnf
        go_enter Try.func5, Try.ntmps5
        go_wp2_with (first | (go_at_call 13; (with_reducible refine (curveValid_eq c HP.out hn (Hid.out (by with_reducible assumption))).mono ?_); rintro e w1 ⟨rfl, hb⟩; have hz := hb.size; (try simp at hz); (try (have hk := bcl hb (w) (by first | omega | (simp; done) | (simp; omega)); have hc := hk.1; have hf := hk.2.1; have hk := hk.2.2))) | (go_at_call 14; (with_reducible refine (in_eq (Hid.out (by with_reducible assumption)) _).mono ?_); rintro e w1 ⟨rfl, rfl⟩))
        refine (flatten_any D (by omega) c (HP.out.below (by (repeat' (first | (with_reducible exact Below.refl _ _) | (with_reducible assumption) | (with_reducible refine Below.alloc ?_ ?_ _) | (with_reducible refine below_drewN ?_ _) | (with_reducible refine Below.drew ?_) | (with_reducible refine Below.setCell ?_ ?_ _) | (with_reducible refine below_call (by assumption) ?_ ?_) | (with_reducible refine below_grown (by assumption) ?_ ?_ ?_) | omega | (simp; done) | (simp; omega))))) H1.out).mono ?_
        rintro e wf ⟨v1, rfl, ho1, hbf⟩
        have hzf := hbf.size
        obtain ⟨A3, c3, rfl, hP3, _⟩ := ho1.form
        rw [NF.out] at hP3 ⊢
        have HP3 := Lib.hid hP3
        clear ho1 hP3
        go_wp2_with fail
        refine (clone_any c3 HP3.out (by omega)).mono ?_
        rintro e wg ⟨v2, rfl, ho2, hbg⟩
        have hzg := hbg.size
        go_wp2
        go_ret
        exact ⟨_, rfl, ho2.lower (by omega), by (repeat' (first | (with_reducible exact Below.refl _ _) | (with_reducible assumption) | (with_reducible refine Below.alloc ?_ ?_ _) | (with_reducible refine below_drewN ?_ _) | (with_reducible refine Below.drew ?_) | (with_reducible refine Below.setCell ?_ ?_ _) | (with_reducible refine below_call (by assumption) ?_ ?_) | (with_reducible refine below_grown (by assumption) ?_ ?_ ?_) | omega | (simp; done) | (simp; omega)))⟩
      · have e : flatOk l lim d = false := by simp [flatOk, h3]
        rw [e]
        simp only [Bool.false_eq_true, if_false]
        have H1 := Lib.hid h1
        have H2 := Lib.hid h2
        have H3 := Lib.hid h3
        clear h1 h2 h3 e
        go_enter Try.func5, Try.ntmps5
        go_wp2_with (first | (go_at_call 13; (with_reducible refine (curveValid_eq c HP.out hn (Hid.out (by with_reducible assumption))).mono ?_); rintro e w1 ⟨rfl, hb⟩; have hz := hb.size; (try simp at hz); (try (have hk := bcl hb (w) (by first | omega | (simp; done) | (simp; omega)); have hc := hk.1; have hf := hk.2.1; have hk := hk.2.2))) | (go_at_call 14; (with_reducible refine (in_eq (Hid.out (by with_reducible assumption)) _).mono ?_); rintro e w1 ⟨rfl, rfl⟩))
        go_ret
        exact ⟨_, rfl, OwnP.nil _ _, by (repeat' (first | (with_reducible exact Below.refl _ _) | (with_reducible assumption) | (with_reducible refine Below.alloc ?_ ?_ _) | (with_reducible refine below_drewN ?_ _) | (with_reducible refine Below.drew ?_) | (with_reducible refine Below.setCell ?_ ?_ _) | (with_reducible refine below_call (by assumption) ?_ ?_) | (with_reducible refine below_grown (by assumption) ?_ ?_ ?_) | omega | (simp; done) | (simp; omega)))⟩
    · have e : flatOk l lim d = false := by simp [flatOk, h2]
      rw [e]
      simp only [Bool.false_eq_true, if_false]
      have H1 := Lib.hid h1
      have H2 := Lib.hid h2
      clear h1 h2 e
      go_enter Try.func5, Try.ntmps5
      go_wp2_with (first | (go_at_call 13; (with_reducible refine (curveValid_eq c HP.out hn (Hid.out (by with_reducible assumption))).mono ?_); rintro e w1 ⟨rfl, hb⟩; have hz := hb.size; (try simp at hz); (try (have hk := bcl hb (w) (by first | omega | (simp; done) | (simp; omega)); have hc := hk.1; have hf := hk.2.1; have hk := hk.2.2))) | (go_at_call 14; (with_reducible refine (in_eq (Hid.out (by with_reducible assumption)) _).mono ?_); rintro e w1 ⟨rfl, rfl⟩))
      go_ret
      exact ⟨_, rfl, OwnP.nil _ _, by (repeat' (first | (with_reducible exact Below.refl _ _) | (with_reducible assumption) | (with_reducible refine Below.alloc ?_ ?_ _) | (with_reducible refine below_drewN ?_ _) | (with_reducible refine Below.drew ?_) | (with_reducible refine Below.setCell ?_ ?_ _) | (with_reducible refine below_call (by assumption) ?_ ?_) | (with_reducible refine below_grown (by assumption) ?_ ?_ ?_) | omega | (simp; done) | (simp; omega)))⟩
  · have e : flatOk l lim d = false := by simp [flatOk, h1]
    rw [e]
    simp only [Bool.false_eq_true, if_false]
    have H1 := Lib.hid h1
    clear h1 e
    go_enter Try.func5, Try.ntmps5
    go_wp2_with (first | (go_at_call 13; (with_reducible refine (curveValid_eq c HP.out hn (Hid.out (by with_reducible assumption))).mono ?_); rintro e w1 ⟨rfl, hb⟩; have hz := hb.size; (try simp at hz); (try (have hk := bcl hb (w) (by first | omega | (simp; done) | (simp; omega)); have hc := hk.1; have hf := hk.2.1; have hk := hk.2.2))) | (go_at_call 14; (with_reducible refine (in_eq (Hid.out (by with_reducible assumption)) _).mono ?_); rintro e w1 ⟨rfl, rfl⟩))
    go_ret
    exact ⟨_, rfl, OwnP.nil _ _, by (repeat' (first | (with_reducible exact Below.refl _ _) | (with_reducible assumption) | (with_reducible refine Below.alloc ?_ ?_ _) | (with_reducible refine below_drewN ?_ _) | (with_reducible refine Below.drew ?_) | (with_reducible refine Below.setCell ?_ ?_ _) | (with_reducible refine below_call (by assumption) ?_ ?_) | (with_reducible refine below_grown (by assumption) ?_ ?_ ?_) | omega | (simp; done) | (simp; omega)))⟩

set_option maxHeartbeats 2000000 in
theorem sFlattenCurve_eq {A : Option Addr} {n : Nat} {l m : List Pt} {w : World} {lim d : Int} (c : Nat) (h : IsPts w A n l) (hn : n ≤ 1000000000000) (hm : flatR l lim d = m) :
    Calls Try.prog 7 #[.slice A n c, .int .i64 lim, .int .i64 d] w (RetP m w) := by
  subst hm
  have HP := Lib.hid h
  clear h
  unfold flatR
  rcases Bool.eq_false_or_eq_true (curveB l) with h1 | h1
  · rcases Bool.eq_false_or_eq_true (inB lim 0 1000) with h2 | h2
    · rcases Bool.eq_false_or_eq_true (inB d 0 4) with h3 | h3
      · have e : flatOk l lim d = true := by simp [flatOk, h1, h2, h3]
        rw [if_pos e]
        obtain ⟨d0, d4⟩ := inB_true.1 h3
        obtain ⟨D, rfl⟩ := Int.eq_ofNat_of_zero_le d0
        obtain ⟨p1, p2, _⟩ := curveB_parts h1
        have hl := HP.out.1
        rw [hl] at p1 p2
        have H1 := Lib.hid h1
        have H2 := Lib.hid h2
        have H3 := Lib.hid h3
        have FL := flat_len lim D l
        have hp : 2 ^ D ≤ 2 ^ 4 := Nat.pow_le_pow_right (by omega) (by omega)
        rw [Int.toNat_natCast]
        obtain ⟨nf, hnf⟩ : ∃ m, (flat lim D l).length = m := ⟨_, rfl⟩
        rw [hnf] at FL
        obtain ⟨f1, f2⟩ : 1 ≤ nf ∧ nf ≤ 16 := ⟨FL.1, by omega⟩
        have NF := Lib.hid hnf
        have HC : Hid ([(px l 0, py l 0)] ++ flat lim D l = flatC lim D l) := Lib.hid rfl
        clear h1 h2 h3 e d0 hnf FL hp hl
        go_enter Try.func7, Try.ntmps7
        go_wp2_with (first | (go_at_call 17; (with_reducible refine (validCurve_eq c HP.out hn (Hid.out (by with_reducible assumption))).mono ?_); rintro e wv ⟨rfl, hb⟩; have hz := hb.size; (try simp at hz); (try (have hk := bcl hb (w) (by first | omega | (simp; done) | (simp; omega)); have hc := hk.1; have hf := hk.2.1; have hk := hk.2.2))) | (go_at_call 18; (with_reducible refine (inRange_eq (Hid.out (by with_reducible assumption)) _).mono ?_); rintro e w1 ⟨rfl, rfl⟩))
        have HPv := Lib.hid (HP.out.below (show Below w.heap.size w wv by (repeat' (first | (with_reducible exact Below.refl _ _) | (with_reducible assumption) | (with_reducible refine Below.alloc ?_ ?_ _) | (with_reducible refine below_drewN ?_ _) | (with_reducible refine Below.drew ?_) | (with_reducible refine Below.setCell ?_ ?_ _) | (with_reducible refine below_call (by assumption) ?_ ?_) | (with_reducible refine below_grown (by assumption) ?_ ?_ ?_) | omega | (simp; done) | (simp; omega)))))
        obtain ⟨b, o, rfl, hbl, c0, c1⟩ := HPv.out.at_ (k := 0) (by omega)
        simp only [Nat.zero_mul, Nat.add_zero] at c0 c1
        have hn0 : 0 < n := by omega
        apply wp_region_pure (by kernel_rfl) ([] :: [0] :: [1] :: [2] :: [] :: [] :: [] :: [4, 5, 6] :: []) (RS.det [] _ :: RS.det [0] _ :: RS.det [1] _ :: RS.sl [2] _ _ _ _ :: RS.det [] _ :: RS.det [] _ :: RS.det [] _ :: RS.q [4, 5, 6] (SlP nf (flat lim D l)) :: []) [] rfl (by kernel_rfl) (fun h => absurd rfl h) (by kernel_rfl) (by kernel_rfl) (st_det (st_det (st_det (st_sl (st_det (st_det (st_det (st_q (fun _ _ _ hR h => SlP.below h hR) st_nil)))))))) _ (fun v => by simp; rfl)
        case hop =>
          simp only [Obls]
          refine ⟨?_, ?_, ?_, ?_, ?_, ?_, ?_, ?_, trivial⟩
          · (intro v w1 K hb hF hK; (try simp at hF); simp at hK; (try simp only [hF] at hK); have hz := hb.size; (try simp at hz))
            go_simp
            (try simp only [])
            exact hK _ _ rfl (by (repeat' (first | (with_reducible exact Below.refl _ _) | (with_reducible assumption) | (with_reducible refine Below.alloc ?_ ?_ _) | (with_reducible refine below_drewN ?_ _) | (with_reducible refine Below.drew ?_) | (with_reducible refine Below.setCell ?_ ?_ _) | (with_reducible refine below_call (by assumption) ?_ ?_) | go_size)))
          · (intro v w1 K hb hF hK; (try simp at hF); simp at hK; (try simp only [hF] at hK); have hz := hb.size; (try simp at hz))
            go_simp
            (try simp only [])
            exact hK _ _ rfl (by (repeat' (first | (with_reducible exact Below.refl _ _) | (with_reducible assumption) | (with_reducible refine Below.alloc ?_ ?_ _) | (with_reducible refine below_drewN ?_ _) | (with_reducible refine Below.drew ?_) | (with_reducible refine Below.setCell ?_ ?_ _) | (with_reducible refine below_call (by assumption) ?_ ?_) | go_size)))
          · (intro v w1 K hb hF hK; (try simp at hF); simp at hK; (try simp only [hF] at hK); have hz := hb.size; (try simp at hz); (try (have hk := bcl hb (b) (by first | omega | (simp; done) | (simp; omega)); have hc := hk.1; have hf := hk.2.1; have hk := hk.2.2)))
            go_simp
            (try simp only [])
            exact hK _ _ rfl (by (repeat' (first | (with_reducible exact Below.refl _ _) | (with_reducible assumption) | (with_reducible refine Below.alloc ?_ ?_ _) | (with_reducible refine below_drewN ?_ _) | (with_reducible refine Below.drew ?_) | (with_reducible refine Below.setCell ?_ ?_ _) | (with_reducible refine below_call (by assumption) ?_ ?_) | go_size)))
          · (intro v w1 K hb hF hK; (try simp at hF); simp at hK; (try simp only [hF] at hK); have hz := hb.size; (try simp at hz))
            go_simp
            (try simp only [])
            exact hK _ _ (isSl_new _ _ _ hb.size) (by (repeat' (first | (with_reducible exact Below.refl _ _) | (with_reducible assumption) | (with_reducible refine Below.alloc ?_ ?_ _) | (with_reducible refine below_drewN ?_ _) | (with_reducible refine Below.drew ?_) | (with_reducible refine Below.setCell ?_ ?_ _) | (with_reducible refine below_call (by assumption) ?_ ?_) | go_size)))
          · (intro v w1 K hb hF hK; (try simp at hF); simp at hK; (try simp only [hF] at hK); have hz := hb.size; (try simp at hz))
            go_simp
            (try simp only [])
            exact hK _ _ rfl (by (repeat' (first | (with_reducible exact Below.refl _ _) | (with_reducible assumption) | (with_reducible refine Below.alloc ?_ ?_ _) | (with_reducible refine below_drewN ?_ _) | (with_reducible refine Below.drew ?_) | (with_reducible refine Below.setCell ?_ ?_ _) | (with_reducible refine below_call (by assumption) ?_ ?_) | go_size)))
          · (intro v w1 K hb hF hK; (try simp at hF); simp at hK; (try simp only [hF] at hK); have hz := hb.size; (try simp at hz))
            go_simp
            (try simp only [])
            exact hK _ _ rfl (by (repeat' (first | (with_reducible exact Below.refl _ _) | (with_reducible assumption) | (with_reducible refine Below.alloc ?_ ?_ _) | (with_reducible refine below_drewN ?_ _) | (with_reducible refine Below.drew ?_) | (with_reducible refine Below.setCell ?_ ?_ _) | (with_reducible refine below_call (by assumption) ?_ ?_) | go_size)))
          · (intro v w1 K hb hF hK; (try simp at hF); simp at hK; (try simp only [hF] at hK); have hz := hb.size; (try simp at hz))
            go_simp
            (try simp only [])
            exact hK _ _ rfl (by (repeat' (first | (with_reducible exact Below.refl _ _) | (with_reducible assumption) | (with_reducible refine Below.alloc ?_ ?_ _) | (with_reducible refine below_drewN ?_ _) | (with_reducible refine Below.drew ?_) | (with_reducible refine Below.setCell ?_ ?_ _) | (with_reducible refine below_call (by assumption) ?_ ?_) | go_size)))
          · (intro v w1 K hb hF hK; (try simp at hF); simp at hK; (try simp only [hF] at hK); have hz := hb.size; (try simp at hz); (try (have hk := bcl hb (b) (by first | omega | (simp; done) | (simp; omega)); have hc := hk.1; have hf := hk.2.1; have hk := hk.2.2)))
            go_simp
            (first | (go_at_call 19; refine (sflatten_any D (by omega) c (HPv.out.below hb) H1.out).mono ?_; rintro e w2 ⟨v2, rfl, ho2, hb⟩; obtain ⟨A3, c3, rfl, hP3, _⟩ := ho2.form; rw [NF.out] at hP3 ⊢; obtain ⟨b3, o3, rfl, _⟩ := hP3.at_ (k := 0) (by omega)))
            (try simp only [])
            exact hK _ _ (⟨_, _, rfl, hP3⟩) (by (repeat' (first | (with_reducible exact Below.refl _ _) | (with_reducible assumption) | (with_reducible refine Below.alloc ?_ ?_ _) | (with_reducible refine below_drewN ?_ _) | (with_reducible refine Below.drew ?_) | (with_reducible refine Below.setCell ?_ ?_ _) | (with_reducible refine below_call (by assumption) ?_ ?_) | go_size)))
        case hfo => exact trivial
        (intro v w1 hb hF; simp [List.range, List.range.loop] at hF; have hz := hb.size; (try simp at hz); (try (have hk := bcl hb (b) (by first | omega | (simp; done) | (simp; omega)); have hc := hk.1; have hf := hk.2.1; have hk := hk.2.2)))
        obtain ⟨e0, e1, e2, ⟨g, e3, hg, hgs, hgb⟩, e4, e5, e6, a3, c3, e7, ho⟩ := hF
        simp only [List.length_cons, List.length_nil, List.drop_succ_cons, List.drop_zero, e0, e1, e2, e3, e4, e5, e6, e7]
        clear e0 e1 e2 e3 e4 e5 e6 e7 v
        have hcg := blk_cell hgb; have hfg := blk_free hgb; have Hg := Lib.hid hgb; clear hgb; (try simp at hg)
        have HO := Lib.hid ho
        clear ho
        go_wp2_with (at_builtin
                     refine append_ptsL rfl (.tmp 23) (.tmp 27) rfl w.heap.size (.slice (some ⟨g, 0, none⟩) 1 1) [(px l 0, py l 0)] rfl (OwnPts.made (n := 1) rfl (by omega) Hg.out rfl (by omega) rfl) _ _ _ (flat lim D l) rfl HO.out (by rw [NF.out]; simp; omega) (by omega) ?_
                     intro v4 w4 hv4 hg4 ha4
                     refine Kept.out ?_)
        rw [HC.out] at hv4
        have hz4 := hg4.size
        have B4 : Hid (Below w.heap.size w w4) := Lib.hid (below_ownP hg4 (by (repeat' (first | (with_reducible exact Below.refl _ _) | (with_reducible assumption) | (with_reducible refine Below.alloc ?_ ?_ _) | (with_reducible refine below_drewN ?_ _) | (with_reducible refine Below.drew ?_) | (with_reducible refine Below.setCell ?_ ?_ _) | (with_reducible refine below_call (by assumption) ?_ ?_) | (with_reducible refine below_grown (by assumption) ?_ ?_ ?_) | omega | (simp; done) | (simp; omega)))) (by omega) (fun g hg => by simp only [Value.ownBlock, Option.some.injEq] at hg; omega))
        have V4 := Lib.hid hv4
        clear hv4 hg4 ha4
        refine Kept.mk ?_
        go_wp2
        go_ret
        exact ⟨_, rfl, V4.out.weak, B4.out⟩
      · have e : flatOk l lim d = false := by simp [flatOk, h3]
        rw [e]
        simp only [Bool.false_eq_true, if_false]
        have H1 := Lib.hid h1
        have H2 := Lib.hid h2
        have H3 := Lib.hid h3
        clear h1 h2 h3 e
        go_enter Try.func7, Try.ntmps7
        go_wp2_with (first | (go_at_call 17; (with_reducible refine (validCurve_eq c HP.out hn (Hid.out (by with_reducible assumption))).mono ?_); rintro e w1 ⟨rfl, hb⟩; have hz := hb.size; (try simp at hz); (try (have hk := bcl hb (w) (by first | omega | (simp; done) | (simp; omega)); have hc := hk.1; have hf := hk.2.1; have hk := hk.2.2))) | (go_at_call 18; (with_reducible refine (inRange_eq (Hid.out (by with_reducible assumption)) _).mono ?_); rintro e w1 ⟨rfl, rfl⟩))
        go_ret
        exact ⟨_, rfl, OwnP.nil _ _, by (repeat' (first | (with_reducible exact Below.refl _ _) | (with_reducible assumption) | (with_reducible refine Below.alloc ?_ ?_ _) | (with_reducible refine below_drewN ?_ _) | (with_reducible refine Below.drew ?_) | (with_reducible refine Below.setCell ?_ ?_ _) | (with_reducible refine below_call (by assumption) ?_ ?_) | (with_reducible refine below_grown (by assumption) ?_ ?_ ?_) | omega | (simp; done) | (simp; omega)))⟩
    · have e : flatOk l lim d = false := by simp [flatOk, h2]
      rw [e]
      simp only [Bool.false_eq_true, if_false]
      have H1 := Lib.hid h1
      have H2 := Lib.hid h2
      clear h1 h2 e
      go_enter Try.func7, Try.ntmps7
      go_wp2_with (first | (go_at_call 17; (with_reducible refine (validCurve_eq c HP.out hn (Hid.out (by with_reducible assumption))).mono ?_); rintro e w1 ⟨rfl, hb⟩; have hz := hb.size; (try simp at hz); (try (have hk := bcl hb (w) (by first | omega | (simp; done) | (simp; omega)); have hc := hk.1; have hf := hk.2.1; have hk := hk.2.2))) | (go_at_call 18; (with_reducible refine (inRange_eq (Hid.out (by with_reducible assumption)) _).mono ?_); rintro e w1 ⟨rfl, rfl⟩))
      go_ret
      exact ⟨_, rfl, OwnP.nil _ _, by (repeat' (first | (with_reducible exact Below.refl _ _) | (with_reducible assumption) | (with_reducible refine Below.alloc ?_ ?_ _) | (with_reducible refine below_drewN ?_ _) | (with_reducible refine Below.drew ?_) | (with_reducible refine Below.setCell ?_ ?_ _) | (with_reducible refine below_call (by assumption) ?_ ?_) | (with_reducible refine below_grown (by assumption) ?_ ?_ ?_) | omega | (simp; done) | (simp; omega)))⟩
  · have e : flatOk l lim d = false := by simp [flatOk, h1]
    rw [e]
    simp only [Bool.false_eq_true, if_false]
    have H1 := Lib.hid h1
    clear h1 e
    go_enter Try.func7, Try.ntmps7
    go_wp2_with (first | (go_at_call 17; (with_reducible refine (validCurve_eq c HP.out hn (Hid.out (by with_reducible assumption))).mono ?_); rintro e w1 ⟨rfl, hb⟩; have hz := hb.size; (try simp at hz); (try (have hk := bcl hb (w) (by first | omega | (simp; done) | (simp; omega)); have hc := hk.1; have hf := hk.2.1; have hk := hk.2.2))) | (go_at_call 18; (with_reducible refine (inRange_eq (Hid.out (by with_reducible assumption)) _).mono ?_); rintro e w1 ⟨rfl, rfl⟩))
    go_ret
    exact ⟨_, rfl, OwnP.nil _ _, by (repeat' (first | (with_reducible exact Below.refl _ _) | (with_reducible assumption) | (with_reducible refine Below.alloc ?_ ?_ _) | (with_reducible refine below_drewN ?_ _) | (with_reducible refine Below.drew ?_) | (with_reducible refine Below.setCell ?_ ?_ _) | (with_reducible refine below_call (by assumption) ?_ ?_) | (with_reducible refine below_grown (by assumption) ?_ ?_ ?_) | omega | (simp; done) | (simp; omega)))⟩

end Go.Proofs.Ytmojbcnldipdgaa
