/-
  FnFrameGapThree holds. Whatever the generator gives. No condition.
-/
import Derived.Test.YtiocgklfkckomaaDrawFr4
import Derived.Test.YtiocgklfkckomaaFrEq
import Derived.ProofKit
import Derived.OpenShut
import Derived.ShutString
import Derived.ChangeOld
import Derived.Lib.SmallJoins
namespace Go.Proofs.Ytiocgklfkckomaa
open Go.RowKit Pl Go.ChangeShapes Go.WideShapes Go.ChangeAt
open Go.ChangeMaps (open_string shut_string)

set_option linter.unusedSimpArgs false
set_option linter.unusedVariables false

theorem pos_of {x y v : Int} {l l' : List Cl} {p : Nat} (hl : l.length = p) (h : frameB x y l = true) : sizedB x y = true ∧ x * y = (p : Int) := by
  simp only [frameB, Bool.and_eq_true, decide_eq_true_eq] at h
  exact ⟨h.1, by rw [← h.2.1, hl]⟩
theorem gapR_nn {x y v : Int} {l l' : List Cl} (h : gapR x y l x y l' = v) (hv : ¬ v < 0) : frameB x y l = true ∧ frameB x y l' = true ∧ gapU l l' l.length = v := by
  unfold gapR at h
  split at h
  · rename_i hc
    simp only [Bool.and_eq_true] at hc
    exact ⟨hc.1, hc.2.1, h⟩
  · omega
theorem gapR_ok {x y : Int} {l l' : List Cl} (h : frameB x y l = true) (h' : frameB x y l' = true) : gapR x y l x y l' = gapU l l' l.length := by
  unfold gapR
  rw [if_pos (by simp [h, h'])]

set_option maxRecDepth 100000 in
set_option maxHeartbeats 2000000 in
theorem FnFrameGapThree_walk (w : World) (A : Option Addr) (n c : Nat) (h : Code w A n c) :
    Calls Try.prog 5 #[.slice A n c] w fun e w' => e = .returned (.bool true) ∧ Below w.heap.size w w' := by
  by_cases hn : 1048576 < n
  · go_enter Try.func5, Try.ntmps5
    go_wp2
    go_ret
    exact ⟨rfl, by (repeat' (first | (with_reducible exact Below.refl _ _) | (with_reducible assumption) | (with_reducible refine Below.alloc ?_ ?_ _) | (with_reducible refine below_drewN ?_ _) | (with_reducible refine Below.drew ?_) | (with_reducible refine Below.setCell ?_ ?_ _) | (with_reducible refine below_call (by assumption) ?_ ?_) | go_size))⟩
  · go_enter Try.func5, Try.ntmps5
    go_wp2_with fail
    refine (DrawFrameGap_any (h.below (by (repeat' (first | (with_reducible exact Below.refl _ _) | (with_reducible assumption) | (with_reducible refine Below.alloc ?_ ?_ _) | (with_reducible refine below_drewN ?_ _) | (with_reducible refine Below.drew ?_) | (with_reducible refine Below.setCell ?_ ?_ _) | (with_reducible refine below_call (by assumption) ?_ ?_) | go_size))))).mono ?_
    rintro e wd ⟨x, y, p, gp, cp, gq, cq, rfl, hp1, hp2, hNa, hNb, hb⟩
    have hz0 := hb.size
    obtain ⟨la, hla⟩ := hNa.cs
    obtain ⟨lb, hlb⟩ := hNb.cs
    have LA := Lib.hid hla.1
    have LB := Lib.hid hlb.1
    have HA := Lib.hid hla
    have HB := Lib.hid hlb
    obtain ⟨v, hv⟩ : ∃ v, gapR x y la x y lb = v := ⟨_, rfl⟩
    have HV := Lib.hid hv
    clear hla hlb hNa hNb hv
    go_wp2_with fail
    refine (FrameGap_eq cp cq (HA.out.below (by (repeat' (first | (with_reducible exact Below.refl _ _) | (with_reducible assumption) | (with_reducible refine Below.alloc ?_ ?_ _) | (with_reducible refine below_drewN ?_ _) | (with_reducible refine Below.drew ?_) | (with_reducible refine Below.setCell ?_ ?_ _) | (with_reducible refine below_call (by assumption) ?_ ?_) | (with_reducible refine below_grown (by assumption) ?_ ?_ ?_) | omega | (simp; done) | (simp; omega))))) (HB.out.below (by (repeat' (first | (with_reducible exact Below.refl _ _) | (with_reducible assumption) | (with_reducible refine Below.alloc ?_ ?_ _) | (with_reducible refine below_drewN ?_ _) | (with_reducible refine Below.drew ?_) | (with_reducible refine Below.setCell ?_ ?_ _) | (with_reducible refine below_call (by assumption) ?_ ?_) | (with_reducible refine below_grown (by assumption) ?_ ?_ ?_) | omega | (simp; done) | (simp; omega))))) (by omega) (by omega) HV.out).mono ?_
    rintro e wa ⟨rfl, hba⟩
    have hza := hba.size
    simp at hza
    have hka := blk_below (blk_alloc (blk_new wd (.cells #[.int .i64 x, .int .i64 y, .slice (some ⟨gp, 0, none⟩) p cp] 29)) (.cells #[.int .i64 x, .int .i64 y, .slice (some ⟨gq, 0, none⟩) p cq] 29)) hba
    have hkb := blk_below (blk_new1 wd (.cells #[.int .i64 x, .int .i64 y, .slice (some ⟨gp, 0, none⟩) p cp] 29) (.cells #[.int .i64 x, .int .i64 y, .slice (some ⟨gq, 0, none⟩) p cq] 29)) hba
    have hca := blk_cell hka
    have hca1 := blk_lt hka
    have hcb := blk_cell hkb
    have hcb1 := blk_lt hkb
    have HA1 : Hid (IsCs wa _ p la) := Lib.hid (HA.out.below (by (repeat' (first | (with_reducible exact Below.refl _ _) | (with_reducible assumption) | (with_reducible refine Below.alloc ?_ ?_ _) | (with_reducible refine below_drewN ?_ _) | (with_reducible refine Below.drew ?_) | (with_reducible refine Below.setCell ?_ ?_ _) | (with_reducible refine below_call (by assumption) ?_ ?_) | (with_reducible refine below_grown (by assumption) ?_ ?_ ?_) | omega | (simp; done) | (simp; omega)))))
    have HB1 : Hid (IsCs wa _ p lb) := Lib.hid (HB.out.below (by (repeat' (first | (with_reducible exact Below.refl _ _) | (with_reducible assumption) | (with_reducible refine Below.alloc ?_ ?_ _) | (with_reducible refine below_drewN ?_ _) | (with_reducible refine Below.drew ?_) | (with_reducible refine Below.setCell ?_ ?_ _) | (with_reducible refine below_call (by assumption) ?_ ?_) | (with_reducible refine below_grown (by assumption) ?_ ?_ ?_) | omega | (simp; done) | (simp; omega)))))
    have Ba : Hid (Below w.heap.size w wa) := Lib.hid (by (repeat' (first | (with_reducible exact Below.refl _ _) | (with_reducible assumption) | (with_reducible refine Below.alloc ?_ ?_ _) | (with_reducible refine below_drewN ?_ _) | (with_reducible refine Below.drew ?_) | (with_reducible refine Below.setCell ?_ ?_ _) | (with_reducible refine below_call (by assumption) ?_ ?_) | (with_reducible refine below_grown (by assumption) ?_ ?_ ?_) | omega | (simp; done) | (simp; omega))))
    go_wp2_with fail
    refine (sFrameGap_eq cp cq HA1.out HB1.out (by omega) (by omega) HV.out).mono ?_
    rintro e wb ⟨rfl, hbb⟩
    have hzb := hbb.size
    have hka := blk_below hka hbb
    have hkb := blk_below hkb hbb
    have HA2 : Hid (IsCs wb _ p la) := Lib.hid (HA1.out.below (by (repeat' (first | (with_reducible exact Below.refl _ _) | (with_reducible assumption) | (with_reducible refine Below.alloc ?_ ?_ _) | (with_reducible refine below_drewN ?_ _) | (with_reducible refine Below.drew ?_) | (with_reducible refine Below.setCell ?_ ?_ _) | (with_reducible refine below_call (by assumption) ?_ ?_) | (with_reducible refine below_grown (by assumption) ?_ ?_ ?_) | omega | (simp; done) | (simp; omega)))))
    have HB2 : Hid (IsCs wb _ p lb) := Lib.hid (HB1.out.below (by (repeat' (first | (with_reducible exact Below.refl _ _) | (with_reducible assumption) | (with_reducible refine Below.alloc ?_ ?_ _) | (with_reducible refine below_drewN ?_ _) | (with_reducible refine Below.drew ?_) | (with_reducible refine Below.setCell ?_ ?_ _) | (with_reducible refine below_call (by assumption) ?_ ?_) | (with_reducible refine below_grown (by assumption) ?_ ?_ ?_) | omega | (simp; done) | (simp; omega)))))
    have Bb : Hid (Below w.heap.size w wb) := Lib.hid (Ba.out.trans (hbb.mono (by omega)))
    have KA := Lib.hid hka
    have KB := Lib.hid hkb
    clear hca hcb hca1 hcb1 hb hba hbb
    have hca := blk_cell hka
    have hca1 := blk_lt hka
    have hcb := blk_cell hkb
    have hcb1 := blk_lt hkb
    clear hka hkb
    by_cases hneg : v < 0
    · have en : decide (v < 0) = true := decide_eq_true hneg
      go_wp2_with fail
      refine (sFrameGap_eq cp cq HA2.out HB2.out (by omega) (by omega) HV.out).mono ?_
      rintro e wc ⟨rfl, hbc⟩
      have hzc := hbc.size
      have hb := Bb.out
      go_wp2
      go_ret
      exact ⟨by simp, by (repeat' (first | (with_reducible exact Below.refl _ _) | (with_reducible assumption) | (with_reducible refine Below.alloc ?_ ?_ _) | (with_reducible refine below_drewN ?_ _) | (with_reducible refine Below.drew ?_) | (with_reducible refine Below.setCell ?_ ?_ _) | (with_reducible refine below_call (by assumption) ?_ ?_) | (with_reducible refine below_grown (by assumption) ?_ ?_ ?_) | omega | (simp; done) | (simp; omega)))⟩
    · have en : decide (v < 0) = false := decide_eq_false hneg
      obtain ⟨fa, fb, hg⟩ := gapR_nn HV.out hneg
      rw [LA.out] at hg
      obtain ⟨hs, hxy⟩ := pos_of (v := 0) (l' := []) LA.out fa
      have hbl := blank_frame hs hxy
      obtain ⟨s, hs1⟩ : ∃ s, gapU la (blankL p) p = s := ⟨_, rfl⟩
      obtain ⟨t, ht1⟩ : ∃ t, gapU lb (blankL p) p = t := ⟨_, rfl⟩
      have hsR : gapR x y la x y (blankL p) = s := by rw [gapR_ok fa hbl, LA.out, hs1]
      have htR : gapR x y lb x y (blankL p) = t := by rw [gapR_ok fb hbl, LB.out, ht1]
      have htri : s ≤ v + t := by rw [← hs1, ← hg, ← ht1]; exact gapU_tri _ _ _ _
      have ht0 := gapU_in lb (blankL p) p
      rw [ht1] at ht0
      have hv0 := gapU_in la lb p
      rw [hg] at hv0
      have HS := Lib.hid hsR
      have HT := Lib.hid htR
      have H1 := Lib.hid hs
      have H2 := Lib.hid hxy
      have ew : IntKind.i64.wrap (v + t) = v + t := IntWalk.i64_in (v + t) (by omega)
      clear hsR htR hs hxy hbl fa fb hg hs1 ht1
      go_wp2_with fail
      refine (BlankFrame_any H1.out H2.out _).mono ?_
      rintro e wc ⟨AC, cc, rfl, hC, hbc⟩
      have hzc := hbc.size
      have hka := blk_alloc (blk_below KA.out hbc) (.cells #[.int .i64 x, .int .i64 y, .slice AC p cc] 29)
      have hkb := blk_alloc (blk_below KB.out hbc) (.cells #[.int .i64 x, .int .i64 y, .slice AC p cc] 29)
      have hkc := blk_new wc (.cells #[.int .i64 x, .int .i64 y, .slice AC p cc] 29)
      have HA3 := Lib.hid (HA2.out.below hbc)
      have HB3 := Lib.hid (HB2.out.below hbc)
      have HC3 := Lib.hid hC
      have Bc : Hid (Below w.heap.size w wc) := Lib.hid (Bb.out.trans (hbc.mono (by omega)))
      clear hca hcb hca1 hcb1 hbc hC
      have hca := blk_cell hka
      have hca1 := blk_lt hka
      have hcb := blk_cell hkb
      have hcb1 := blk_lt hkb
      have hcc := blk_cell hkc
      have hcc1 := blk_lt hkc
      have hb := Bc.out
      have htri2 : decide (s ≤ v + t) = true := decide_eq_true htri
      clear hka hkb hkc
      have hwc := Below.alloc (Below.refl wc.heap.size wc) (Nat.le_refl _) (.cells #[.int .i64 x, .int .i64 y, .slice AC p cc] 29)
      have HA4 := Lib.hid (HA3.out.below hwc)
      have HB4 := Lib.hid (HB3.out.below hwc)
      have HC4 := Lib.hid (HC3.out.below hwc)
      have B4 : Hid (Below w.heap.size w (wc.alloc (.cells #[.int .i64 x, .int .i64 y, .slice AC p cc] 29))) := Lib.hid (by (repeat' (first | (with_reducible exact Below.refl _ _) | (with_reducible assumption) | (with_reducible refine Below.alloc ?_ ?_ _) | (with_reducible refine below_drewN ?_ _) | (with_reducible refine Below.drew ?_) | (with_reducible refine Below.setCell ?_ ?_ _) | (with_reducible refine below_call (by assumption) ?_ ?_) | (with_reducible refine below_grown (by assumption) ?_ ?_ ?_) | omega | (simp; done) | (simp; omega))))
      clear hwc hb
      go_wp2_with fail
      apply wp_region_pure (by kernel_rfl) ([] :: [] :: [0, 1] :: [] :: [] :: [] :: [4, 5] :: [3, 6] :: [2, 7] :: []) (RS.det [] _ :: RS.det [] _ :: RS.det [0, 1] _ :: RS.det [] _ :: RS.det [] _ :: RS.det [] _ :: RS.det [4, 5] _ :: RS.det [3, 6] _ :: RS.det [2, 7] _ :: []) [] rfl (by kernel_rfl) (fun h => absurd rfl h) (by kernel_rfl) (by kernel_rfl) (st_det (st_det (st_det (st_det (st_det (st_det (st_det (st_det (st_det st_nil))))))))) _ (fun v => by simp; rfl)
      case hop =>
        simp only [Obls]
        refine ⟨?_, ?_, ?_, ?_, ?_, ?_, ?_, ?_, ?_, trivial⟩
        · (intro v w1 K hb hF hK; (try simp at hF); simp at hK; (try simp only [hF] at hK); have hz := hb.size; (try simp at hz); (try (have hk := bcl hb (wd.heap.size) (by first | omega | (simp; done) | (simp; omega)); have hc := hk.1; have hf := hk.2.1; have hk := hk.2.2)); (try (have hk := bcl hb (wd.heap.size + 1) (by first | omega | (simp; done) | (simp; omega)); have hc := hk.1; have hf := hk.2.1; have hk := hk.2.2)); (try (have hk := bcl hb (wc.heap.size) (by first | omega | (simp; done) | (simp; omega)); have hc := hk.1; have hf := hk.2.1; have hk := hk.2.2)))
          go_simp
          (try simp only [])
          exact hK _ _ rfl (by (repeat' (first | (with_reducible exact Below.refl _ _) | (with_reducible assumption) | (with_reducible refine Below.alloc ?_ ?_ _) | (with_reducible refine below_drewN ?_ _) | (with_reducible refine Below.drew ?_) | (with_reducible refine Below.setCell ?_ ?_ _) | (with_reducible refine below_call (by assumption) ?_ ?_) | go_size)))
        · (intro v w1 K hb hF hK; (try simp at hF); simp at hK; (try simp only [hF] at hK); have hz := hb.size; (try simp at hz); (try (have hk := bcl hb (wd.heap.size) (by first | omega | (simp; done) | (simp; omega)); have hc := hk.1; have hf := hk.2.1; have hk := hk.2.2)); (try (have hk := bcl hb (wd.heap.size + 1) (by first | omega | (simp; done) | (simp; omega)); have hc := hk.1; have hf := hk.2.1; have hk := hk.2.2)); (try (have hk := bcl hb (wc.heap.size) (by first | omega | (simp; done) | (simp; omega)); have hc := hk.1; have hf := hk.2.1; have hk := hk.2.2)))
          go_simp
          (try simp only [])
          exact hK _ _ rfl (by (repeat' (first | (with_reducible exact Below.refl _ _) | (with_reducible assumption) | (with_reducible refine Below.alloc ?_ ?_ _) | (with_reducible refine below_drewN ?_ _) | (with_reducible refine Below.drew ?_) | (with_reducible refine Below.setCell ?_ ?_ _) | (with_reducible refine below_call (by assumption) ?_ ?_) | go_size)))
        · (intro v w1 K hb hF hK; (try simp at hF); simp at hK; (try simp only [hF] at hK); have hz := hb.size; (try simp at hz); (try (have hk := bcl hb (wd.heap.size) (by first | omega | (simp; done) | (simp; omega)); have hc := hk.1; have hf := hk.2.1; have hk := hk.2.2)); (try (have hk := bcl hb (wd.heap.size + 1) (by first | omega | (simp; done) | (simp; omega)); have hc := hk.1; have hf := hk.2.1; have hk := hk.2.2)); (try (have hk := bcl hb (wc.heap.size) (by first | omega | (simp; done) | (simp; omega)); have hc := hk.1; have hf := hk.2.1; have hk := hk.2.2)))
          go_simp
          (first | (go_at_call 10; first | ((with_reducible refine (FrameGap_eq cp cc (HA4.out.below hb) (HC4.out.below hb) (by omega) (by omega) HS.out).mono ?_); rintro e w7 ⟨rfl, hb7⟩) | ((with_reducible refine (FrameGap_eq cq cc (HB4.out.below hb) (HC4.out.below hb) (by omega) (by omega) HT.out).mono ?_); rintro e w7 ⟨rfl, hb7⟩)))
          (try simp only [])
          exact hK _ _ rfl (by (repeat' (first | (with_reducible exact Below.refl _ _) | (with_reducible assumption) | (with_reducible refine Below.alloc ?_ ?_ _) | (with_reducible refine below_drewN ?_ _) | (with_reducible refine Below.drew ?_) | (with_reducible refine Below.setCell ?_ ?_ _) | (with_reducible refine below_call (by assumption) ?_ ?_) | go_size)))
        · (intro v w1 K hb hF hK; (try simp at hF); simp at hK; (try simp only [hF] at hK); have hz := hb.size; (try simp at hz))
          go_simp
          (try simp only [])
          exact hK _ _ rfl (by (repeat' (first | (with_reducible exact Below.refl _ _) | (with_reducible assumption) | (with_reducible refine Below.alloc ?_ ?_ _) | (with_reducible refine below_drewN ?_ _) | (with_reducible refine Below.drew ?_) | (with_reducible refine Below.setCell ?_ ?_ _) | (with_reducible refine below_call (by assumption) ?_ ?_) | go_size)))
        · (intro v w1 K hb hF hK; (try simp at hF); simp at hK; (try simp only [hF] at hK); have hz := hb.size; (try simp at hz); (try (have hk := bcl hb (wd.heap.size) (by first | omega | (simp; done) | (simp; omega)); have hc := hk.1; have hf := hk.2.1; have hk := hk.2.2)); (try (have hk := bcl hb (wd.heap.size + 1) (by first | omega | (simp; done) | (simp; omega)); have hc := hk.1; have hf := hk.2.1; have hk := hk.2.2)); (try (have hk := bcl hb (wc.heap.size) (by first | omega | (simp; done) | (simp; omega)); have hc := hk.1; have hf := hk.2.1; have hk := hk.2.2)))
          go_simp
          (try simp only [])
          exact hK _ _ rfl (by (repeat' (first | (with_reducible exact Below.refl _ _) | (with_reducible assumption) | (with_reducible refine Below.alloc ?_ ?_ _) | (with_reducible refine below_drewN ?_ _) | (with_reducible refine Below.drew ?_) | (with_reducible refine Below.setCell ?_ ?_ _) | (with_reducible refine below_call (by assumption) ?_ ?_) | go_size)))
        · (intro v w1 K hb hF hK; (try simp at hF); simp at hK; (try simp only [hF] at hK); have hz := hb.size; (try simp at hz); (try (have hk := bcl hb (wd.heap.size) (by first | omega | (simp; done) | (simp; omega)); have hc := hk.1; have hf := hk.2.1; have hk := hk.2.2)); (try (have hk := bcl hb (wd.heap.size + 1) (by first | omega | (simp; done) | (simp; omega)); have hc := hk.1; have hf := hk.2.1; have hk := hk.2.2)); (try (have hk := bcl hb (wc.heap.size) (by first | omega | (simp; done) | (simp; omega)); have hc := hk.1; have hf := hk.2.1; have hk := hk.2.2)))
          go_simp
          (try simp only [])
          exact hK _ _ rfl (by (repeat' (first | (with_reducible exact Below.refl _ _) | (with_reducible assumption) | (with_reducible refine Below.alloc ?_ ?_ _) | (with_reducible refine below_drewN ?_ _) | (with_reducible refine Below.drew ?_) | (with_reducible refine Below.setCell ?_ ?_ _) | (with_reducible refine below_call (by assumption) ?_ ?_) | go_size)))
        · (intro v w1 K hb hF hK; (try simp at hF); simp at hK; (try simp only [hF] at hK); have hz := hb.size; (try simp at hz); (try (have hk := bcl hb (wd.heap.size) (by first | omega | (simp; done) | (simp; omega)); have hc := hk.1; have hf := hk.2.1; have hk := hk.2.2)); (try (have hk := bcl hb (wd.heap.size + 1) (by first | omega | (simp; done) | (simp; omega)); have hc := hk.1; have hf := hk.2.1; have hk := hk.2.2)); (try (have hk := bcl hb (wc.heap.size) (by first | omega | (simp; done) | (simp; omega)); have hc := hk.1; have hf := hk.2.1; have hk := hk.2.2)))
          go_simp
          (first | (go_at_call 10; first | ((with_reducible refine (FrameGap_eq cp cc (HA4.out.below hb) (HC4.out.below hb) (by omega) (by omega) HS.out).mono ?_); rintro e w7 ⟨rfl, hb7⟩) | ((with_reducible refine (FrameGap_eq cq cc (HB4.out.below hb) (HC4.out.below hb) (by omega) (by omega) HT.out).mono ?_); rintro e w7 ⟨rfl, hb7⟩)))
          (try simp only [])
          exact hK _ _ rfl (by (repeat' (first | (with_reducible exact Below.refl _ _) | (with_reducible assumption) | (with_reducible refine Below.alloc ?_ ?_ _) | (with_reducible refine below_drewN ?_ _) | (with_reducible refine Below.drew ?_) | (with_reducible refine Below.setCell ?_ ?_ _) | (with_reducible refine below_call (by assumption) ?_ ?_) | go_size)))
        · (intro v w1 K hb hF hK; (try simp at hF); simp at hK; (try simp only [hF] at hK); have hz := hb.size; (try simp at hz))
          go_simp
          (try simp only [])
          exact hK _ _ rfl (by (repeat' (first | (with_reducible exact Below.refl _ _) | (with_reducible assumption) | (with_reducible refine Below.alloc ?_ ?_ _) | (with_reducible refine below_drewN ?_ _) | (with_reducible refine Below.drew ?_) | (with_reducible refine Below.setCell ?_ ?_ _) | (with_reducible refine below_call (by assumption) ?_ ?_) | go_size)))
        · (intro v w1 K hb hF hK; (try simp at hF); simp at hK; (try simp only [hF] at hK); have hz := hb.size; (try simp at hz))
          go_simp
          (try simp only [])
          exact hK _ _ rfl (by (repeat' (first | (with_reducible exact Below.refl _ _) | (with_reducible assumption) | (with_reducible refine Below.alloc ?_ ?_ _) | (with_reducible refine below_drewN ?_ _) | (with_reducible refine Below.drew ?_) | (with_reducible refine Below.setCell ?_ ?_ _) | (with_reducible refine below_call (by assumption) ?_ ?_) | go_size)))
      case hfo => exact trivial
      (intro v w1 hb hF; simp [List.range, List.range.loop] at hF; have hz := hb.size; (try simp at hz); (try (have hk := bcl hb (wd.heap.size) (by first | omega | (simp; done) | (simp; omega)); have hc := hk.1; have hf := hk.2.1; have hk := hk.2.2)); (try (have hk := bcl hb (wd.heap.size + 1) (by first | omega | (simp; done) | (simp; omega)); have hc := hk.1; have hf := hk.2.1; have hk := hk.2.2)); (try (have hk := bcl hb (wc.heap.size) (by first | omega | (simp; done) | (simp; omega)); have hc := hk.1; have hf := hk.2.1; have hk := hk.2.2)))
      obtain ⟨e0, e1, e2, e3, e4, e5, e6, e7, e8⟩ := hF
      simp only [List.length_cons, List.length_nil, List.drop_succ_cons, List.drop_zero, e0, e1, e2, e3, e4, e5, e6, e7, e8]
      clear e0 e1 e2 e3 e4 e5 e6 e7 e8 v
      have B5 : Hid (Below w.heap.size w w1) := Lib.hid (B4.out.trans (hb.mono (by simp; omega)))
      go_wp2
      go_ret
      exact ⟨by simp [htri], B5.out⟩

theorem FnFrameGapThree_own : ownKnob Try.prog.godebug = none := by kernel_rfl
theorem FnFrameGapThree_laid : laidOutB Try.prog = true := by kernel_rfl

set_option maxRecDepth 100000 in
theorem FnFrameGapThree_lifted (os : Os) (started : os.Started) (H : Type) (enc : TypeId × Value → H) :
    ReturnsInHanded {} Try.checked os 5 .any (Rows.fnFrameGapThreeSpec.pre6 enc Try.prog Try.f5 Rows.fnFrameGapThreeRow.domain false) (Rows.fnFrameGapThreeSpec.post enc Try.prog Try.f5 false true false false) := by
  refine returnsInHanded_of_change (C := Try.checked) FnFrameGapThree_own started (by kernel_rfl) Try.func5
    (ChangeSpec.witness6 (enc := enc) (C := Try.checked) false ⟨#[], #[.slice none 0 0], []⟩ 8 (by kernel_rfl) (by kernel_rfl) (by kernel_rfl) (by kernel_rfl)) ?_
  intro W base args ds gs before hval0 hW hcnd _
  have hval : ∀ (j : Nat) t v, Try.f5.params[j]? = some t → args[j]? = some v → Value.okWide Try.prog W .any base t v := hval0
  have hW' := hW
  obtain ⟨p, q, hA0, hV, rfl, hfz, hnd⟩ := hW
  have hA : DataW.TrodAll enc Try.prog W 0 (fun _ => true) true Try.f5.params.toList args.toList ds p := hA0
  rw [Try.params5] at hA hval
  obtain ⟨v0, vs0, d0, ds0, p0, q0, hargs, rfl, rfl, h0, r0⟩ := trodAll_cons hA
  obtain ⟨rfl, rfl, rfl⟩ := trodAll_nil r0
  obtain rfl : args = #[v0] := by cases args; simp_all
  obtain ⟨rfl, rfl⟩ := trodVars_none hV
  have k0 := h0
  have lt0 : ∀ x ∈ p0, x.block < W.heap.size := by obtain ⟨m, hm⟩ := k0; exact DataW.trod_lt m _ _ _ hm
  obtain ⟨a0, len0, cap0, rfl⟩ := okWide_slice Try.underlying33 (hval 0 33 v0 rfl rfl)
  have w0 := code_of Try.underlying33 Try.underlying5 (by kernel_rfl) h0
  clear hA0 hval0
  refine (FnFrameGapThree_walk W _ _ _ w0).mono fun e W' ⟨he, bel⟩ => ?_
  subst he
  exact ⟨_, rfl, _, _, _, [], _, [], hW', trodAll_mk1 (shut_bool Try.underlying4 _), (trodAll_cons_mk (Below.trod FnFrameGapThree_laid (by kernel_rfl) (of_decide_eq_true (by kernel_rfl)) k0 bel lt0) trodAll_mk0), rfl, bel.frame _, fun h => by cases h⟩

theorem FnFrameGapThree_over : Rows.fnFrameGapThreeRow.holds Try.pinned (OpenSpec.ofChange Rows.fnFrameGapThreeSpec) :=
  OpenClaim.holds_of_wide 5 Try.f5 rfl rfl rfl rfl rfl rfl rfl ⟨rfl, rfl, rfl, rfl, rfl⟩ rfl rfl rfl rfl rfl (by kernel_rfl) Try.func5 (by kernel_rfl)
    (of_decide_eq_true (by kernel_rfl)) (by unfold Func.isWrapper; first | (rw [if_pos (by decide +kernel)]; kernel_rfl) | (rw [if_neg (by decide +kernel)]; exact ⟨rfl, rfl⟩))
    (fun os started H enc _ => FnFrameGapThree_lifted os started H enc)

/-- The statement. -/
theorem FnFrameGapThree_holds : Rows.FnFrameGapThreeSaid := FnFrameGapThree_over
#print axioms FnFrameGapThree_holds

end Go.Proofs.Ytiocgklfkckomaa
