/-
  FnFlattenCurveHalves holds. Whatever curve, limit and depth the generator gives. No condition.
-/
import Derived.Test.YtmojbcnldipdgaaDrawS
import Derived.Test.YtmojbcnldipdgaaFlat
import Derived.Test.YtmojbcnldipdgaaLPts
import Derived.Test.YtmojbcnldipdgaaCode
import Derived.Test.YtmojbcnldipdgaaBlk
import Derived.Test.YtmojbcnldipdgaaPtQ
import Derived.ProofKit
import Derived.OpenShut
import Derived.ShutString
import Derived.ChangeOld
import Derived.Lib.SmallJoins
namespace Go.Proofs.Ytmojbcnldipdgaa
open Go.RowKit Pl Go.ChangeShapes Go.WideShapes Go.ChangeAt
open Go.ChangeMaps (open_string shut_string)

set_option linter.unusedSimpArgs false
set_option linter.unusedVariables false

set_option maxRecDepth 100000 in
set_option maxHeartbeats 4000000 in
theorem FnFlattenCurveHalves_walk (w : World) (A : Option Addr) (n c : Nat) (h : Code w A n c) :
    Calls Try.prog 3 #[.slice A n c] w fun e w' => e = .returned (.bool true) ∧ Below w.heap.size w w' := by
  by_cases hn : 1048576 < n
  · go_enter Try.func3, Try.ntmps3
    go_wp2
    go_ret
    exact ⟨rfl, by (repeat' (first | (with_reducible exact Below.refl _ _) | (with_reducible assumption) | (with_reducible refine Below.alloc ?_ ?_ _) | (with_reducible refine below_drewN ?_ _) | (with_reducible refine Below.drew ?_) | (with_reducible refine Below.setCell ?_ ?_ _) | (with_reducible refine below_call (by assumption) ?_ ?_) | go_size))⟩
  · go_enter Try.func3, Try.ntmps3
    go_wp2_with fail
    refine (DrawFlattenCurve_any (h.below (by (repeat' (first | (with_reducible exact Below.refl _ _) | (with_reducible assumption) | (with_reducible refine Below.alloc ?_ ?_ _) | (with_reducible refine below_drewN ?_ _) | (with_reducible refine Below.drew ?_) | (with_reducible refine Below.setCell ?_ ?_ _) | (with_reducible refine below_call (by assumption) ?_ ?_) | go_size))))).mono ?_
    rintro e wd ⟨v0, l, lim, dep, rfl, hl5, hlim, hdep, hv, hb⟩
    have hz0 := hb.size
    obtain ⟨A0, c0, rfl, hlc, hcm, hP, _⟩ := hv.form
    have HP := Lib.hid hP
    obtain ⟨n0, hn0⟩ : ∃ n0, l.length = n0 := ⟨_, rfl⟩
    have HL := Lib.hid hn0
    clear hv hP
    rw [hn0] at HP hl5 hlc ⊢
    clear hn0
    obtain ⟨m, hm⟩ : ∃ m, flatR l lim dep = m := ⟨_, rfl⟩
    have hm17 : m.length ≤ 17 := by rw [← hm]; exact flatR_len l lim dep
    have H1 := Lib.hid hm
    clear hm
    go_wp2_with fail
    refine (FlattenCurve_eq c0 HP.out (by omega) (Hid.out (by with_reducible assumption))).mono ?_
    rintro e wa ⟨v1, rfl, ho1, hba⟩
    have hza := hba.size
    obtain ⟨A1, c1, rfl, hc1, hm1, hP1, _⟩ := ho1.form
    have HP1 := Lib.hid hP1
    clear ho1 hP1
    go_wp2_with fail
    refine (sFlattenCurve_eq c0 (HP.out.below hba) (by omega) (Hid.out (by with_reducible assumption))).mono ?_
    rintro e wb ⟨v2, rfl, ho2, hbb⟩
    have hzb := hbb.size
    obtain ⟨A2, c2, rfl, _, _, hP2, _⟩ := ho2.form
    have HP2 := Lib.hid hP2
    clear ho2 hP2
    obtain ⟨nm, hnm⟩ : ∃ n0, m.length = n0 := ⟨_, rfl⟩
    have HM := Lib.hid hnm
    rw [hnm] at HP1 HP2 hm17 hc1 ⊢
    clear hnm
    go_wp2_with fail
    refine (equalPoints_same c1 c2 (HP1.out.below hbb) HP2.out (by omega)).mono ?_
    rintro e wc ⟨rfl, hbc⟩
    have hzc := hbc.size
    have HPc : Hid (IsPts wc A0 n0 l) := Lib.hid (((HP.out.below hba).below hbb).below hbc)
    have HMc : Hid (IsPts wc A1 nm m) := Lib.hid ((HP1.out.below hbb).below hbc)
    rcases Nat.eq_zero_or_pos nm with hz | hz
    · subst hz
      go_wp2_with fail
      refine (sFlattenCurve_eq c0 HPc.out (by omega) (Hid.out (by with_reducible assumption))).mono ?_
      rintro e wd2 ⟨v3, rfl, ho3, hbd⟩
      have hzd := hbd.size
      obtain ⟨A3, c3, rfl, _, _, hP3, _⟩ := ho3.form
      rw [HM.out] at hP3 ⊢
      have HP3 := Lib.hid hP3
      clear ho3 hP3
      go_wp2_with fail
      refine (equalPoints_same c1 c3 (HMc.out.below hbd) HP3.out (by omega)).mono ?_
      rintro e we ⟨rfl, hbe⟩
      have hze := hbe.size
      go_wp2
      go_ret
      exact ⟨rfl, by (repeat' (first | (with_reducible exact Below.refl _ _) | (with_reducible assumption) | (with_reducible refine Below.alloc ?_ ?_ _) | (with_reducible refine below_drewN ?_ _) | (with_reducible refine Below.drew ?_) | (with_reducible refine Below.setCell ?_ ?_ _) | (with_reducible refine below_call (by assumption) ?_ ?_) | (with_reducible refine below_grown (by assumption) ?_ ?_ ?_) | omega | (simp; done) | (simp; omega)))⟩
    · have hok : flatOk l lim dep = true := by
        rcases Bool.eq_false_or_eq_true (flatOk l lim dep) with h' | h'
        · exact h'
        · have e : m = [] := by rw [← H1.out, flatR, h']; rfl
          have := HM.out; rw [e] at this; simp at this; omega
      have hok' := hok
      simp only [flatOk, Bool.and_eq_true, inB_true] at hok'
      obtain ⟨hcv, ⟨l0, l1⟩, d0, d4⟩ := hok'
      obtain ⟨p1, p2, p3⟩ := curveB_parts hcv
      rw [HL.out] at p1 p2
      obtain ⟨D, rfl⟩ := Int.eq_ofNat_of_zero_le d0
      have hme : m = flatC lim D l := by rw [← H1.out, flatR, if_pos hok]; rfl
      have HME := Lib.hid hme
      have HCV := Lib.hid hcv
      have HOK := Lib.hid hok
      have eb0 : decide ((nm : Int) = 0) = false := by simp; omega
      have eb1 : ((nm : Int) == 0) = false := by simp; omega
      have hnm0 : ¬ (nm : Int) = 0 := by omega
      clear hme hcv hok p3 d0 hdep hlim hl5
      obtain ⟨B, hB⟩ : ∃ B, bendN l = B := ⟨_, rfl⟩
      have HBN : Hid (bendR l = B) := Lib.hid (by rw [bendR, if_pos HCV.out]; exact hB)
      rcases Nat.eq_zero_or_pos D with hD | hD
      · subst hD
        go_wp2_with fail
        refine (sFlattenCurve_eq c0 (HPc.out.below (by (repeat' (first | (with_reducible exact Below.refl _ _) | (with_reducible assumption) | (with_reducible refine Below.alloc ?_ ?_ _) | (with_reducible refine below_drewN ?_ _) | (with_reducible refine Below.drew ?_) | (with_reducible refine Below.setCell ?_ ?_ _) | (with_reducible refine below_call (by assumption) ?_ ?_) | (with_reducible refine below_grown (by assumption) ?_ ?_ ?_) | omega | (simp; done) | (simp; omega))))) (by omega) (m := m) H1.out).mono ?_
        rintro e wd2 ⟨v3, rfl, ho3, hbd⟩
        have hzd := hbd.size
        obtain ⟨A3, c3, rfl, _, _, hP3, _⟩ := ho3.form
        rw [HM.out] at hP3 ⊢
        have HP3 := Lib.hid hP3
        clear ho3 hP3
        go_wp2_with fail
        refine (equalPoints_same c1 c3 (HMc.out.below (by (repeat' (first | (with_reducible exact Below.refl _ _) | (with_reducible assumption) | (with_reducible refine Below.alloc ?_ ?_ _) | (with_reducible refine below_drewN ?_ _) | (with_reducible refine Below.drew ?_) | (with_reducible refine Below.setCell ?_ ?_ _) | (with_reducible refine below_call (by assumption) ?_ ?_) | (with_reducible refine below_grown (by assumption) ?_ ?_ ?_) | omega | (simp; done) | (simp; omega))))) HP3.out (by omega)).mono ?_
        rintro e we ⟨rfl, hbe⟩
        have hze := hbe.size
        go_wp2
        go_ret
        exact ⟨rfl, by (repeat' (first | (with_reducible exact Below.refl _ _) | (with_reducible assumption) | (with_reducible refine Below.alloc ?_ ?_ _) | (with_reducible refine below_drewN ?_ _) | (with_reducible refine Below.drew ?_) | (with_reducible refine Below.setCell ?_ ?_ _) | (with_reducible refine below_call (by assumption) ?_ ?_) | (with_reducible refine below_grown (by assumption) ?_ ?_ ?_) | omega | (simp; done) | (simp; omega)))⟩
      · obtain ⟨E, rfl⟩ : ∃ E, D = E + 1 := ⟨D - 1, by omega⟩
        have ed : decide (((E + 1 : Nat) : Int) = 0) = false := by simp; omega
        have ed1 : ¬ ((E : Int) + 1 = 0) := by omega
        by_cases hbl : B ≤ lim
        · have ebl : decide (B ≤ lim) = true := by simpa using hbl
          go_wp2_with fail
          refine (BendOf_eq c0 HPc.out (by omega) (Hid.out (by with_reducible assumption))).mono ?_
          rintro e wx ⟨rfl, hbx⟩
          have hzx := hbx.size
          go_wp2_with fail
          refine (sFlattenCurve_eq c0 (HPc.out.below (by (repeat' (first | (with_reducible exact Below.refl _ _) | (with_reducible assumption) | (with_reducible refine Below.alloc ?_ ?_ _) | (with_reducible refine below_drewN ?_ _) | (with_reducible refine Below.drew ?_) | (with_reducible refine Below.setCell ?_ ?_ _) | (with_reducible refine below_call (by assumption) ?_ ?_) | (with_reducible refine below_grown (by assumption) ?_ ?_ ?_) | omega | (simp; done) | (simp; omega))))) (by omega) (m := m) H1.out).mono ?_
          rintro e wd2 ⟨v3, rfl, ho3, hbd⟩
          have hzd := hbd.size
          obtain ⟨A3, c3, rfl, _, _, hP3, _⟩ := ho3.form
          rw [HM.out] at hP3 ⊢
          have HP3 := Lib.hid hP3
          clear ho3 hP3
          go_wp2_with fail
          refine (equalPoints_same c1 c3 (HMc.out.below (by (repeat' (first | (with_reducible exact Below.refl _ _) | (with_reducible assumption) | (with_reducible refine Below.alloc ?_ ?_ _) | (with_reducible refine below_drewN ?_ _) | (with_reducible refine Below.drew ?_) | (with_reducible refine Below.setCell ?_ ?_ _) | (with_reducible refine below_call (by assumption) ?_ ?_) | (with_reducible refine below_grown (by assumption) ?_ ?_ ?_) | omega | (simp; done) | (simp; omega))))) HP3.out (by omega)).mono ?_
          rintro e we ⟨rfl, hbe⟩
          have hze := hbe.size
          go_wp2
          go_ret
          exact ⟨rfl, by (repeat' (first | (with_reducible exact Below.refl _ _) | (with_reducible assumption) | (with_reducible refine Below.alloc ?_ ?_ _) | (with_reducible refine below_drewN ?_ _) | (with_reducible refine Below.drew ?_) | (with_reducible refine Below.setCell ?_ ?_ _) | (with_reducible refine below_call (by assumption) ?_ ?_) | (with_reducible refine below_grown (by assumption) ?_ ?_ ?_) | omega | (simp; done) | (simp; omega)))⟩
        · have ebl : decide (B ≤ lim) = false := by simpa using hbl
          have HSA : Hid (splitA l = leftL l) := Lib.hid (by rw [splitA, if_pos HCV.out])
          have HSB : Hid (splitB l = rightL l) := Lib.hid (by rw [splitB, if_pos HCV.out])
          have hE4 : inB (E : Int) 0 4 = true := by rw [inB_true]; omega
          have hl4 : inB lim 0 1000 = true := by rw [inB_true]; omega
          have HFA : Hid (flatR (leftL l) lim (E : Int) = flatC lim E (leftL l)) := Lib.hid (by rw [flatR, if_pos (by simp only [flatOk, curve_left HCV.out, hE4, hl4, Bool.and_self])]; rfl)
          have HFB : Hid (flatR (rightL l) lim (E : Int) = flatC lim E (rightL l)) := Lib.hid (by rw [flatR, if_pos (by simp only [flatOk, curve_right HCV.out, hE4, hl4, Bool.and_self])]; rfl)
          have HMM : Hid (flatC lim E (leftL l) ++ (flatC lim E (rightL l)).drop 1 = m) := Lib.hid (by rw [HME.out, flatC_succ (by rw [hB]; exact hbl) (by rw [HL.out]; omega)])
          have f1 := flatC_len lim E (leftL l)
          have f2 := flatC_len lim E (rightL l)
          have hp : 2 ^ E ≤ 2 ^ 4 := Nat.pow_le_pow_right (by omega) (by omega)
          obtain ⟨n1, hn1⟩ : ∃ m, (flatC lim E (leftL l)).length = m := ⟨_, rfl⟩
          obtain ⟨n2, hn2⟩ : ∃ m, (flatC lim E (rightL l)).length = m + 1 := ⟨(flatC lim E (rightL l)).length - 1, by omega⟩
          rw [hn1] at f1
          rw [hn2] at f2
          obtain ⟨f10, f11⟩ : 2 ≤ n1 ∧ n1 ≤ 17 := ⟨f1.1, by omega⟩
          obtain ⟨f20, f21⟩ : 1 ≤ n2 ∧ n2 ≤ 17 := ⟨by omega, by omega⟩
          have N1 := Lib.hid hn1
          have N2 := Lib.hid hn2
          have HB := Lib.hid hB
          have t1 : IntKind.i64.wrap (((E + 1 : Nat) : Int) - 1) = (E : Int) := (IntWalk.i64_in _ (by omega)).trans (by omega)
          clear hB f1 f2 hp hn1 hn2 hE4 hl4
          go_wp2_with fail
          refine (BendOf_eq c0 HPc.out (by omega) (Hid.out (by with_reducible assumption))).mono ?_
          rintro e wx ⟨rfl, hbx⟩
          have hzx := hbx.size
          go_wp2_with fail
          refine (SplitCurve_eq c0 (HPc.out.below hbx) (by omega) HCV.out HSA.out HSB.out).mono ?_
          rintro e ws ⟨va, vb, s1, rfl, hoa, _, hs1, hob, hbs⟩
          have hzs := hbs.size
          obtain ⟨AA, ca, rfl, _, _, hPA, _⟩ := hoa.form
          obtain ⟨AB, cb, rfl, _, _, hPB, _⟩ := hob.form
          rw [show (leftL l).length = n0 by rw [leftL_len, HL.out]] at hPA ⊢
          rw [show (rightL l).length = n0 by rw [rightL_len, HL.out]] at hPB ⊢
          have HPA := Lib.hid hPA
          have HPB := Lib.hid hPB
          clear hoa hob hPA hPB
          go_wp2_with fail
          refine (FlattenCurve_eq ca HPA.out (by omega) HFA.out).mono ?_
          rintro e wf ⟨vf, rfl, hof, hbf⟩
          have hzf := hbf.size
          obtain ⟨AF, cf, rfl, hcf, hmf, hPF, _⟩ := hof.form
          rw [N1.out] at hPF hcf ⊢
          obtain ⟨bf, of, rfl, hblf, _, _⟩ := hPF.at_ (k := 0) (by omega)
          have HPF := Lib.hid hPF
          clear hof hPF
          go_wp2_with fail
          refine (FlattenCurve_eq cb (HPB.out.below hbf) (by omega) HFB.out).mono ?_
          rintro e wg ⟨vg, rfl, hog, hbg⟩
          have hzg := hbg.size
          obtain ⟨AG, cg, rfl, hcg, hmg, hPG, _⟩ := hog.form
          rw [N2.out] at hPG hcg ⊢
          obtain ⟨bg, og, rfl, hblg, _, _⟩ := hPG.at_ (k := 0) (by omega)
          have HPG := Lib.hid hPG.drop1
          unfold maxLen at hmg
          have ND : Hid (((flatC lim E (rightL l)).drop 1).length = n2) := Lib.hid (by rw [List.length_drop, N2.out]; omega)
          have hcgi : ((n2 + 1 : Nat) : Int) ≤ cg := by omega
          have hn2i : (0 : Int) < ((n2 + 1 : Nat) : Int) := by omega
          have g0 : decide ((0 : Int) < ((n2 + 1 : Nat) : Int)) = true := decide_eq_true (by omega)
          have HFw : Hid (IsPts wg (some ⟨bf, of, none⟩) n1 (flatC lim E (leftL l))) := Lib.hid (HPF.out.below hbg)
          have HMw : Hid (IsPts wg A1 nm m) := Lib.hid (HMc.out.below (by (repeat' (first | (with_reducible exact Below.refl _ _) | (with_reducible assumption) | (with_reducible refine Below.alloc ?_ ?_ _) | (with_reducible refine below_drewN ?_ _) | (with_reducible refine Below.drew ?_) | (with_reducible refine Below.setCell ?_ ?_ _) | (with_reducible refine below_call (by assumption) ?_ ?_) | (with_reducible refine below_grown (by assumption) ?_ ?_ ?_) | omega | (simp; done) | (simp; omega)))))
          clear hog hPG
          go_wp2_with fail
          have hcg1 : ¬ cg = 1 := by omega
          have h1n : (1 : Int) ≤ (n2 : Int) + 1 := by omega
          have HLm : Hid (m.length = n1 + n2) := Lib.hid (by rw [← HMM.out, List.length_append, N1.out, ND.out])
          have hnm : n1 + n2 = nm := by rw [← HLm.out, HM.out]
          have P1 : Hid (PreP (flatC lim E (leftL l)) m) := Lib.hid (by rw [← HMM.out]; exact PreP.fst _ _)
          have P2 : Hid (PreP m m) := Lib.hid (PreP.all _)
          apply wp_region_app (41) (0) (cellsP m) (by kernel_rfl) ([] :: [0] :: [1] :: [1, 2] :: [1, 3] :: [1, 4] :: [5] :: [6] :: [6] :: [6, 7, 8] :: [6] :: [6, 10] :: [6, 9, 11] :: [6] :: []) (RS.det [] _ :: RS.det [0] _ :: RS.det [1] _ :: RS.det [1, 2] _ :: RS.det [1, 3] _ :: RS.det [1, 4] _ :: RS.det [5] _ :: RS.sl [6] _ #[] _ _ :: RS.det [6] _ :: RS.q [6, 7, 8] (AP wg.heap.size n1 (flatC lim E (leftL l))) :: RS.det [6] _ :: RS.det [6, 10] _ :: RS.q [6, 9, 11] (JP wg.heap.size nm m) :: RS.det [6] _ :: []) [] rfl (by kernel_rfl) (fun h => absurd rfl h) (by kernel_rfl) (by kernel_rfl) (st_det (st_det (st_det (st_det (st_det (st_det (st_det (st_slF (.inr (by simp)) (st_det (st_q (fun _ _ _ hR h => h.rf P1.out hR) (st_det (st_det (st_q (fun _ _ _ hR h => h.rf HM.out P2.out hR) (st_det st_nil)))))))))))))) _ (fun v => by simp; rfl)
          case hop =>
            simp only [OblsF]
            refine ⟨?_, ?_, ?_, ?_, ?_, ?_, ?_, ?_, ?_, ?_, ?_, ?_, ?_, ?_, trivial⟩
            · (intro v w1 K hb hF hK; (try simp at hF); simp at hK; (try simp only [hF] at hK); have hz := hb.size; (try simp at hz))
              go_simp
              (try simp only [])
              exact hK _ _ rfl (RF.of (by (repeat' (first | (with_reducible exact Below.refl _ _) | (with_reducible assumption) | (with_reducible refine Below.alloc ?_ ?_ _) | (with_reducible refine below_drewN ?_ _) | (with_reducible refine Below.drew ?_) | (with_reducible refine Below.setCell ?_ ?_ _) | (with_reducible refine below_call (by assumption) ?_ ?_) | go_size))) hb.size)
            · (intro v w1 K hb hF hK; (try simp at hF); simp at hK; (try simp only [hF] at hK); have hz := hb.size; (try simp at hz))
              go_simp
              (try simp only [])
              exact hK _ _ rfl (RF.of (by (repeat' (first | (with_reducible exact Below.refl _ _) | (with_reducible assumption) | (with_reducible refine Below.alloc ?_ ?_ _) | (with_reducible refine below_drewN ?_ _) | (with_reducible refine Below.drew ?_) | (with_reducible refine Below.setCell ?_ ?_ _) | (with_reducible refine below_call (by assumption) ?_ ?_) | go_size))) hb.size)
            · (intro v w1 K hb hF hK; (try simp at hF); simp at hK; (try simp only [hF] at hK); have hz := hb.size; (try simp at hz))
              go_simp
              (try simp only [])
              exact hK _ _ rfl (RF.of (by (repeat' (first | (with_reducible exact Below.refl _ _) | (with_reducible assumption) | (with_reducible refine Below.alloc ?_ ?_ _) | (with_reducible refine below_drewN ?_ _) | (with_reducible refine Below.drew ?_) | (with_reducible refine Below.setCell ?_ ?_ _) | (with_reducible refine below_call (by assumption) ?_ ?_) | go_size))) hb.size)
            · (intro v w1 K hb hF hK; (try simp at hF); simp at hK; (try simp only [hF] at hK); have hz := hb.size; (try simp at hz))
              go_simp
              (try simp only [])
              exact hK _ _ rfl (RF.of (by (repeat' (first | (with_reducible exact Below.refl _ _) | (with_reducible assumption) | (with_reducible refine Below.alloc ?_ ?_ _) | (with_reducible refine below_drewN ?_ _) | (with_reducible refine Below.drew ?_) | (with_reducible refine Below.setCell ?_ ?_ _) | (with_reducible refine below_call (by assumption) ?_ ?_) | go_size))) hb.size)
            · (intro v w1 K hb hF hK; (try simp at hF); simp at hK; (try simp only [hF] at hK); have hz := hb.size; (try simp at hz))
              go_simp
              (try simp only [])
              exact hK _ _ rfl (RF.of (by (repeat' (first | (with_reducible exact Below.refl _ _) | (with_reducible assumption) | (with_reducible refine Below.alloc ?_ ?_ _) | (with_reducible refine below_drewN ?_ _) | (with_reducible refine Below.drew ?_) | (with_reducible refine Below.setCell ?_ ?_ _) | (with_reducible refine below_call (by assumption) ?_ ?_) | go_size))) hb.size)
            · (intro v w1 K hb hF hK; (try simp at hF); simp at hK; (try simp only [hF] at hK); have hz := hb.size; (try simp at hz))
              go_simp
              (try simp only [])
              exact hK _ _ rfl (RF.of (by (repeat' (first | (with_reducible exact Below.refl _ _) | (with_reducible assumption) | (with_reducible refine Below.alloc ?_ ?_ _) | (with_reducible refine below_drewN ?_ _) | (with_reducible refine Below.drew ?_) | (with_reducible refine Below.setCell ?_ ?_ _) | (with_reducible refine below_call (by assumption) ?_ ?_) | go_size))) hb.size)
            · (intro v w1 K hb hF hK; (try simp at hF); simp at hK; (try simp only [hF] at hK); have hz := hb.size; (try simp at hz))
              go_simp
              (try simp only [])
              exact hK _ _ rfl (RF.of (by (repeat' (first | (with_reducible exact Below.refl _ _) | (with_reducible assumption) | (with_reducible refine Below.alloc ?_ ?_ _) | (with_reducible refine below_drewN ?_ _) | (with_reducible refine Below.drew ?_) | (with_reducible refine Below.setCell ?_ ?_ _) | (with_reducible refine below_call (by assumption) ?_ ?_) | go_size))) hb.size)
            · (intro v w1 K hb hF hK; (try simp at hF); simp at hK; (try simp only [hF] at hK); have hz := hb.size; (try simp at hz))
              go_simp
              (try simp only [])
              exact hK _ _ (isSl_new _ _ _ hb.size) (RF.of (by (repeat' (first | (with_reducible exact Below.refl _ _) | (with_reducible assumption) | (with_reducible refine Below.alloc ?_ ?_ _) | (with_reducible refine below_drewN ?_ _) | (with_reducible refine Below.drew ?_) | (with_reducible refine Below.setCell ?_ ?_ _) | (with_reducible refine below_call (by assumption) ?_ ?_) | go_size))) hb.size)
            · (intro v w1 K hb hF hK; (try simp at hF); simp at hK; (try simp only [hF] at hK); have hz := hb.size; (try simp at hz))
              go_simp
              (try simp only [])
              exact hK _ _ rfl (RF.of (by (repeat' (first | (with_reducible exact Below.refl _ _) | (with_reducible assumption) | (with_reducible refine Below.alloc ?_ ?_ _) | (with_reducible refine below_drewN ?_ _) | (with_reducible refine Below.drew ?_) | (with_reducible refine Below.setCell ?_ ?_ _) | (with_reducible refine below_call (by assumption) ?_ ?_) | go_size))) hb.size)
            · (intro v w1 K hb hF hK; (try simp at hF); simp at hK; (try simp only [hF] at hK); have hz := hb.size; (try simp at hz))
              obtain ⟨f6, f7, f8⟩ := hF
              obtain ⟨_, eg, hgb, _, hgc⟩ := f7
              refine op_append_new ?hw (.tmp 76) (.tmp 77) 23 41 2 _ 16 Try.underlying23 pt_info rfl ?hsz ?hby ?ho wg.heap.size _ ?hs hgb hgc (some ⟨bf, of, none⟩) n1 cf (cellsP (flatC lim E (leftL l))) ?hx ?hl (IsPts.newsP (HFw.out.below hb)) cellsP_one ?hlen hb.size ?h
              case ho => rfl
              case hsz => decide
              case hby => decide
              case hw => simp [Region.wanted, yielded, *]
              case hs => first | (simp [Act.eval, eg]; done) | (simp [Act.eval, eg]; rfl)
              case hx => first | (simp [Act.eval, *]; done) | (simp [Act.eval, *]; rfl)
              case hl => rw [cellsP_len, N1.out]
              case hlen => omega
              case h =>
                intro u' w' k1 k2 k3
                simp
                simp only [f6, f8]
                exact hK u' w' ⟨_, rfl, k1, k2⟩ (RF.of k3 hb.size)
            · (intro v w1 K hb hF hK; (try simp at hF); simp at hK; (try simp only [hF] at hK); have hz := hb.size; (try simp at hz))
              go_simp
              (try simp only [])
              exact hK _ _ rfl (RF.of (by (repeat' (first | (with_reducible exact Below.refl _ _) | (with_reducible assumption) | (with_reducible refine Below.alloc ?_ ?_ _) | (with_reducible refine below_drewN ?_ _) | (with_reducible refine Below.drew ?_) | (with_reducible refine Below.setCell ?_ ?_ _) | (with_reducible refine below_call (by assumption) ?_ ?_) | go_size))) hb.size)
            · (intro v w1 K hb hF hK; (try simp at hF); simp at hK; (try simp only [hF] at hK); have hz := hb.size; (try simp at hz))
              go_simp
              (try simp only [])
              exact hK _ _ rfl (RF.of (by (repeat' (first | (with_reducible exact Below.refl _ _) | (with_reducible assumption) | (with_reducible refine Below.alloc ?_ ?_ _) | (with_reducible refine below_drewN ?_ _) | (with_reducible refine Below.drew ?_) | (with_reducible refine Below.setCell ?_ ?_ _) | (with_reducible refine below_call (by assumption) ?_ ?_) | go_size))) hb.size)
            · (intro v w1 K hb hF hK; (try simp at hF); simp at hK; (try simp only [hF] at hK); have hz := hb.size; (try simp at hz))
              obtain ⟨f6, ⟨u9, f9, ho9, hn9⟩, f11⟩ := hF
              (try simp only [f6, f9, f11] at hK)
              refine op_append_rf ?hw (.tmp 78) (.tmp 80) 23 41 2 _ 16 Try.underlying23 pt_info rfl ?hsz ?hby ?ho wg.heap.size 0 n1 _ (cellsP (flatC lim E (leftL l))) (cellsP m) ?hs ho9 (.inl (Nat.zero_le _)) (some ⟨bg, og + 2, none⟩) n2 (cg - 1) (cellsP ((flatC lim E (rightL l)).drop 1)) ?hx ?hl (IsPts.newsP (HPG.out.below hb)) cellsP_one ?hlen hb.size ?hp ?h
              case ho => rfl
              case hsz => decide
              case hby => decide
              case hw => simp [Region.wanted, yielded, *]
              case hs => first | (simp [Act.eval, *]; done) | (simp [Act.eval, *]; rfl)
              case hx => first | (simp [Act.eval, *]; done) | (simp [Act.eval, *]; rfl)
              case hl => rw [cellsP_len, ND.out]
              case hlen => omega
              case hp => rw [← cellsP_append, HMM.out]; exact fun _ _ h => h
              case h =>
                intro u' w' k1 k2
                rw [← cellsP_append, HMM.out, hnm] at k1
                simp
                simp only [f6, f9, f11]
                exact hK u' w' (own_form HM.out k1) k2
            · (intro v w1 K hb hF hK; (try simp at hF); simp at hK; (try simp only [hF] at hK); have hz := hb.size; (try simp at hz))
              go_simp
              (try simp only [])
              exact hK _ _ rfl (RF.of (by (repeat' (first | (with_reducible exact Below.refl _ _) | (with_reducible assumption) | (with_reducible refine Below.alloc ?_ ?_ _) | (with_reducible refine below_drewN ?_ _) | (with_reducible refine Below.drew ?_) | (with_reducible refine Below.setCell ?_ ?_ _) | (with_reducible refine below_call (by assumption) ?_ ?_) | go_size))) hb.size)
          case hfo => exact trivial
          (intro v w1 hb hF; simp [List.range, List.range.loop] at hF; have hz := hb.size; (try simp at hz))
          obtain ⟨e0, e1, e2, e3, e4, e5, e6, ⟨g0, e7, hg0, hg0s, hg0b⟩, e8, ⟨u9, e9, ho9, hn9⟩, e10, e11, ⟨A12, c12, e12, hp12, ho12⟩, e13⟩ := hF
          simp only [List.length_cons, List.length_nil, List.drop_succ_cons, List.drop_zero, e0, e1, e2, e3, e4, e5, e6, e7, e8, e9, e10, e11, e12, e13]
          clear e0 e1 e2 e3 e4 e5 e6 e7 e8 e9 e10 e11 e12 e13 v
          have HM12 := Lib.hid hp12
          clear hp12 ho9 ho12 hn9
          go_wp2_with fail
          refine (equalPoints_same c12 c1 (HM12.out.below (by (repeat' (first | (with_reducible exact Below.refl _ _) | (with_reducible assumption) | (with_reducible refine Below.alloc ?_ ?_ _) | (with_reducible refine below_drewN ?_ _) | (with_reducible refine Below.drew ?_) | (with_reducible refine Below.setCell ?_ ?_ _) | (with_reducible refine below_call (by assumption) ?_ ?_) | (with_reducible refine below_grown (by assumption) ?_ ?_ ?_) | omega | (simp; done) | (simp; omega))))) (HMw.out.below (by (repeat' (first | (with_reducible exact Below.refl _ _) | (with_reducible assumption) | (with_reducible refine Below.alloc ?_ ?_ _) | (with_reducible refine below_drewN ?_ _) | (with_reducible refine Below.drew ?_) | (with_reducible refine Below.setCell ?_ ?_ _) | (with_reducible refine below_call (by assumption) ?_ ?_) | (with_reducible refine below_grown (by assumption) ?_ ?_ ?_) | omega | (simp; done) | (simp; omega))))) (by omega)).mono ?_
          rintro e wh ⟨rfl, hbh⟩
          go_wp2
          go_ret
          exact ⟨rfl, by (repeat' (first | (with_reducible exact Below.refl _ _) | (with_reducible assumption) | (with_reducible refine Below.alloc ?_ ?_ _) | (with_reducible refine below_drewN ?_ _) | (with_reducible refine Below.drew ?_) | (with_reducible refine Below.setCell ?_ ?_ _) | (with_reducible refine below_call (by assumption) ?_ ?_) | (with_reducible refine below_grown (by assumption) ?_ ?_ ?_) | omega | (simp; done) | (simp; omega)))⟩

theorem FnFlattenCurveHalves_own : ownKnob Try.prog.godebug = none := by kernel_rfl
theorem FnFlattenCurveHalves_laid : laidOutB Try.prog = true := by kernel_rfl

set_option maxRecDepth 100000 in
theorem FnFlattenCurveHalves_lifted (os : Os) (started : os.Started) (H : Type) (enc : TypeId × Value → H) :
    ReturnsInHanded {} Try.checked os 3 .any (Rows.fnFlattenCurveHalvesSpec.pre6 enc Try.prog Try.f3 Rows.fnFlattenCurveHalvesRow.domain false) (Rows.fnFlattenCurveHalvesSpec.post enc Try.prog Try.f3 false true false false) := by
  refine returnsInHanded_of_change (C := Try.checked) FnFlattenCurveHalves_own started (by kernel_rfl) Try.func3
    (ChangeSpec.witness6 (enc := enc) (C := Try.checked) false ⟨#[], #[.slice none 0 0], []⟩ 8 (by kernel_rfl) (by kernel_rfl) (by kernel_rfl) (by kernel_rfl)) ?_
  intro W base args ds gs before hval0 hW hcnd _
  have hval : ∀ (j : Nat) t v, Try.f3.params[j]? = some t → args[j]? = some v → Value.okWide Try.prog W .any base t v := hval0
  have hW' := hW
  obtain ⟨p, q, hA0, hV, rfl, hfz, hnd⟩ := hW
  have hA : DataW.TrodAll enc Try.prog W 0 (fun _ => true) true Try.f3.params.toList args.toList ds p := hA0
  rw [Try.params3] at hA hval
  obtain ⟨v0, vs0, d0, ds0, p0, q0, hargs, rfl, rfl, h0, r0⟩ := trodAll_cons hA
  obtain ⟨rfl, rfl, rfl⟩ := trodAll_nil r0
  obtain rfl : args = #[v0] := by cases args; simp_all
  obtain ⟨rfl, rfl⟩ := trodVars_none hV
  have k0 := h0
  have lt0 : ∀ x ∈ p0, x.block < W.heap.size := by obtain ⟨m, hm⟩ := k0; exact DataW.trod_lt m _ _ _ hm
  obtain ⟨a0, len0, cap0, rfl⟩ := okWide_slice Try.underlying22 (hval 0 22 v0 rfl rfl)
  have w0 := code_of Try.underlying22 Try.underlying5 (by kernel_rfl) h0
  clear hA0 hval0
  refine (FnFlattenCurveHalves_walk W _ _ _ w0).mono fun e W' ⟨he, bel⟩ => ?_
  subst he
  exact ⟨_, rfl, _, _, _, [], _, [], hW', trodAll_mk1 (shut_bool Try.underlying4 _), (trodAll_cons_mk (Below.trod FnFlattenCurveHalves_laid (by kernel_rfl) (of_decide_eq_true (by kernel_rfl)) k0 bel lt0) trodAll_mk0), rfl, bel.frame _, fun h => by cases h⟩

theorem FnFlattenCurveHalves_over : Rows.fnFlattenCurveHalvesRow.holds Try.pinned (OpenSpec.ofChange Rows.fnFlattenCurveHalvesSpec) :=
  OpenClaim.holds_of_wide 3 Try.f3 rfl rfl rfl rfl rfl rfl rfl ⟨rfl, rfl, rfl, rfl, rfl⟩ rfl rfl rfl rfl rfl (by kernel_rfl) Try.func3 (by kernel_rfl)
    (of_decide_eq_true (by kernel_rfl)) (by unfold Func.isWrapper; first | (rw [if_pos (by decide +kernel)]; kernel_rfl) | (rw [if_neg (by decide +kernel)]; exact ⟨rfl, rfl⟩))
    (fun os started H enc _ => FnFlattenCurveHalves_lifted os started H enc)

/-- The statement. -/
theorem FnFlattenCurveHalves_holds : Rows.FnFlattenCurveHalvesSaid := FnFlattenCurveHalves_over
#print axioms FnFlattenCurveHalves_holds

end Go.Proofs.Ytmojbcnldipdgaa
