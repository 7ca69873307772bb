/-
  FnSplitCurveReverse holds. Whatever curve the generator gives. No condition.
-/
import Derived.Test.YtmddkhincpibhaaDrawS
import Derived.Test.YtmddkhincpibhaaSplitS
import Derived.Test.YtmddkhincpibhaaLPts
import Derived.Test.YtmddkhincpibhaaCode
import Derived.Test.YtmddkhincpibhaaRingL
import Derived.ProofKit
import Derived.OpenShut
import Derived.ShutString
import Derived.ChangeOld
import Derived.Lib.SmallJoins
namespace Go.Proofs.Ytmddkhincpibhaa
open Go.RowKit Pl Go.ChangeShapes Go.WideShapes Go.ChangeAt
open Go.ChangeMaps (open_string shut_string)

set_option linter.unusedSimpArgs false
set_option linter.unusedVariables false

set_option maxRecDepth 100000 in
set_option maxHeartbeats 4000000 in
theorem FnSplitCurveReverse_walk (w : World) (A : Option Addr) (n c : Nat) (h : Code w A n c) :
    Calls Try.prog 13 #[.slice A n c] w fun e w' => e = .returned (.bool true) ∧ Below w.heap.size w w' := by
  by_cases hn : 1048576 < n
  · go_enter Try.func13, Try.ntmps13
    go_wp2
    go_ret
    exact ⟨rfl, by (repeat' (first | (with_reducible exact Below.refl _ _) | (with_reducible assumption) | (with_reducible refine Below.alloc ?_ ?_ _) | (with_reducible refine below_drewN ?_ _) | (with_reducible refine Below.drew ?_) | (with_reducible refine Below.setCell ?_ ?_ _) | (with_reducible refine below_call (by assumption) ?_ ?_) | go_size))⟩
  · go_enter Try.func13, Try.ntmps13
    go_wp2_with fail
    refine (DrawSplitCurve_any (h.below (by (repeat' (first | (with_reducible exact Below.refl _ _) | (with_reducible assumption) | (with_reducible refine Below.alloc ?_ ?_ _) | (with_reducible refine below_drewN ?_ _) | (with_reducible refine Below.drew ?_) | (with_reducible refine Below.setCell ?_ ?_ _) | (with_reducible refine below_call (by assumption) ?_ ?_) | go_size))))).mono ?_
    rintro e wd ⟨v0, l, rfl, hl5, hv, hb⟩
    have hz0 := hb.size
    obtain ⟨A0, c0, rfl, hlc, hcm, hP, _⟩ := hv.form
    have HP := Lib.hid hP
    obtain ⟨n0, hn0⟩ : ∃ n0, l.length = n0 := ⟨_, rfl⟩
    have HL := Lib.hid hn0
    clear hv hP
    rw [hn0] at HP hl5 hlc ⊢
    clear hn0
    obtain ⟨ok, hok⟩ : ∃ v, curveB l = v := ⟨_, rfl⟩
    obtain ⟨a, ha⟩ : ∃ m, splitA l = m := ⟨_, rfl⟩
    obtain ⟨b, hb'⟩ : ∃ m, splitB l = m := ⟨_, rfl⟩
    have H1 := Lib.hid hok
    have H2 := Lib.hid ha
    have H3 := Lib.hid hb'
    have ha5 : a.length ≤ 5 := by rw [← ha, splitA]; split <;> simp [leftL_len, HL.out, hl5]
    have hb5 : b.length ≤ 5 := by rw [← hb', splitB]; split <;> simp [rightL_len, HL.out, hl5]
    clear hok ha hb'
    go_wp2_with fail
    refine (SplitCurve_eq c0 HP.out (by omega) (Hid.out (by with_reducible assumption)) (Hid.out (by with_reducible assumption)) (Hid.out (by with_reducible assumption))).mono ?_
    rintro e wa ⟨v1, u1, s1, rfl, ho1, _, hs1, hu1, hba⟩
    have hza := hba.size
    obtain ⟨A1, c1, rfl, kc1, km1, hP1, _⟩ := ho1.form
    obtain ⟨B1, d1, rfl, kd1, kn1, hQ1, _⟩ := hu1.form
    have HP1 := Lib.hid hP1
    have HQ1 := Lib.hid hQ1
    clear ho1 hu1 hP1 hQ1
    go_wp2_with fail
    refine (sSplitCurve_eq c0 (HP.out.below hba) (by omega) (Hid.out (by with_reducible assumption)) (Hid.out (by with_reducible assumption)) (Hid.out (by with_reducible assumption))).mono ?_
    rintro e wb ⟨v2, u2, rfl, ho2, hu2, hbb⟩
    have hzb := hbb.size
    obtain ⟨A2, c2, rfl, _, _, hP2, _⟩ := ho2.form
    obtain ⟨B2, d2, rfl, _, _, hQ2, _⟩ := hu2.form
    have HP2 := Lib.hid hP2
    have HQ2 := Lib.hid hQ2
    clear ho2 hu2 hP2 hQ2
    obtain ⟨na, hna⟩ : ∃ n0, a.length = n0 := ⟨_, rfl⟩
    obtain ⟨nb, hnb⟩ : ∃ n0, b.length = n0 := ⟨_, rfl⟩
    have HNA := Lib.hid hna
    have HNB := Lib.hid hnb
    rw [hna] at HP1 HP2 ha5 ⊢
    rw [hnb] at HQ1 HQ2 hb5 ⊢
    clear hna hnb
    go_wp2_with fail
    refine (equalPoints_same c1 c2 (HP1.out.below hbb) HP2.out (by omega)).mono ?_
    rintro e wc ⟨rfl, hbc⟩
    have hzc := hbc.size
    go_wp2_with fail
    refine (equalPoints_same d1 d2 ((HQ1.out.below hbb).below hbc) (HQ2.out.below hbc) (by omega)).mono ?_
    rintro e wc2 ⟨rfl, hbc2⟩
    have hzc2 := hbc2.size
    cases ok with
    | false =>
      go_wp2_with fail
      refine (equalPoints_same c1 c2 (((HP1.out.below hbb).below hbc).below hbc2) ((HP2.out.below hbc).below hbc2) (by omega)).mono ?_
      rintro e we ⟨rfl, hbe⟩
      have hze := hbe.size
      go_wp2_with fail
      refine (equalPoints_same d1 d2 ((((HQ1.out.below hbb).below hbc).below hbc2).below hbe) (((HQ2.out.below hbc).below hbc2).below hbe) (by omega)).mono ?_
      rintro e wf ⟨rfl, hbf⟩
      have hzf := hbf.size
      go_wp2
      go_ret
      exact ⟨rfl, by (repeat' (first | (with_reducible exact Below.refl _ _) | (with_reducible assumption) | (with_reducible refine Below.alloc ?_ ?_ _) | (with_reducible refine below_drewN ?_ _) | (with_reducible refine Below.drew ?_) | (with_reducible refine Below.setCell ?_ ?_ _) | (with_reducible refine below_call (by assumption) ?_ ?_) | (with_reducible refine below_grown (by assumption) ?_ ?_ ?_) | omega | (simp; done) | (simp; omega)))⟩
    | true =>
      have hcv := H1.out
      obtain ⟨p1, p2, p3⟩ := curveB_parts hcv
      rw [HL.out] at p1 p2
      have ea : a = leftL l := by rw [← H2.out, splitA, if_pos hcv]
      have eb' : b = rightL l := by rw [← H3.out, splitB, if_pos hcv]
      obtain rfl : na = n0 := by rw [← HNA.out, ea, leftL_len, HL.out]
      obtain rfl : nb = na := by rw [← HNB.out, eb', rightL_len, HL.out]
      subst ea eb'
      have HPc : Hid (IsPts wc2 A0 nb l) := Lib.hid (by have := HP.out; exact (((this.below hba).below hbb).below hbc).below hbc2)
      have HAc : Hid (IsPts wc2 A1 nb (leftL l)) := Lib.hid (((HP1.out.below hbb).below hbc).below hbc2)
      have HBc : Hid (IsPts wc2 B1 nb (rightL l)) := Lib.hid (((HQ1.out.below hbb).below hbc).below hbc2)
      have HCV := Lib.hid hcv
      clear hcv p3
      obtain ⟨q, hq⟩ : ∃ q, q + 1 = nb := ⟨nb - 1, by omega⟩
      have hra : splitA l.reverse = (rightL l).reverse := by rw [splitA, if_pos (curve_rev HCV.out), left_rev]
      have hrb : splitB l.reverse = (leftL l).reverse := by rw [splitB, if_pos (curve_rev HCV.out), right_rev]
      have K1 := Lib.hid (curve_rev HCV.out)
      have K2 := Lib.hid hra
      have K3 := Lib.hid hrb
      have LL : (leftL l).length = nb := by rw [leftL_len, HL.out]
      have LR : (rightL l).length = nb := by rw [rightL_len, HL.out]
      have hcc : nb ≤ c0 := hlc
      have HC1 : Hid (nb ≤ c1 ∧ c1 ≤ maxLen ∧ nb ≤ d1 ∧ d1 ≤ maxLen) := Lib.hid ⟨by rw [LL] at kc1; exact kc1, km1, by rw [LR] at kd1; exact kd1, kn1⟩
      clear kc1 km1 kd1 kn1
      clear hra hrb
      go_wp2_with fail
      refine (reversed_any (L := [l]) 1 ?_ (by omega) (fun r hr => by rw [List.mem_singleton.1 hr, HL.out]; omega)).mono ?_
      · refine ⟨[.slice A0 nb c0], ⟨rfl, fun _ => ⟨_, 0, rfl, blk_lt (blk_new wc2 _), fun i u hu => ?_⟩⟩, rfl, fun i r hr => ?_⟩
        · match i, hu with
          | 0, hu => rw [Nat.zero_add]; exact (blk_cell (blk_new wc2 _) 0).trans hu
        · match i, hr with
          | 0, hr => simp at hr; subst hr; exact ⟨_, rfl, A0, c0, by rw [HL.out], by rw [HL.out]; exact hcc, hcm, by rw [HL.out]; exact HPc.out.below (by (repeat' (first | (with_reducible exact Below.refl _ _) | (with_reducible assumption) | (with_reducible refine Below.alloc ?_ ?_ _) | (with_reducible refine below_drewN ?_ _) | (with_reducible refine Below.drew ?_) | (with_reducible refine Below.setCell ?_ ?_ _) | (with_reducible refine below_call (by assumption) ?_ ?_) | (with_reducible refine below_grown (by assumption) ?_ ?_ ?_) | omega | (simp; done) | (simp; omega))))⟩
      rintro e wr ⟨vr, rfl, hor, hbr⟩
      have hzr := hbr.size
      simp at hzr
      obtain ⟨AR, cr, rfl, _, _, hRR, _⟩ := hor.form
      simp only [List.map_cons, List.map_nil, List.length_cons, List.length_nil] at hRR ⊢
      obtain ⟨r0, b, o, B0, d0, er, rfl, hblr, cc0, _, _, hPr⟩ := hRR.at_ (k := 0) (by omega)
      obtain rfl : r0 = l.reverse := by simpa using er.symm
      rw [List.length_reverse, HL.out] at cc0 hPr
      simp only [Nat.add_zero] at cc0
      have HPr := Lib.hid hPr
      clear hRR hor er hPr
      have hn1 : (0 : Int) < ((0 + 1 : Nat) : Int) := by omega
      have hn2 : 0 < 0 + 1 := by omega
      go_wp2_with fail
      refine (SplitCurve_eq d0 HPr.out (by omega) K1.out K2.out K3.out).mono ?_
      rintro e wp ⟨vp, vq, sp, rfl, hop, _, hsp, hoq, hbp⟩
      have hzp := hbp.size
      obtain ⟨AP, cp, rfl, hcp, hmp, hPP, _⟩ := hop.form
      obtain ⟨AQ, cq, rfl, hcq, hmq, hPQ, _⟩ := hoq.form
      rw [List.length_reverse, LR] at hPP hcp ⊢
      rw [List.length_reverse, LL] at hPQ hcq ⊢
      have HPP := Lib.hid hPP
      have HPQ := Lib.hid hPQ
      clear hop hoq hPP hPQ
      have HAp : Hid (IsPts wp A1 nb (leftL l)) := Lib.hid (HAc.out.below (by (repeat' (first | (with_reducible exact Below.refl _ _) | (with_reducible assumption) | (with_reducible refine Below.alloc ?_ ?_ _) | (with_reducible refine below_drewN ?_ _) | (with_reducible refine Below.drew ?_) | (with_reducible refine Below.setCell ?_ ?_ _) | (with_reducible refine below_call (by assumption) ?_ ?_) | (with_reducible refine below_grown (by assumption) ?_ ?_ ?_) | omega | (simp; done) | (simp; omega)))))
      have HBp : Hid (IsPts wp B1 nb (rightL l)) := Lib.hid (HBc.out.below (by (repeat' (first | (with_reducible exact Below.refl _ _) | (with_reducible assumption) | (with_reducible refine Below.alloc ?_ ?_ _) | (with_reducible refine below_drewN ?_ _) | (with_reducible refine Below.drew ?_) | (with_reducible refine Below.setCell ?_ ?_ _) | (with_reducible refine below_call (by assumption) ?_ ?_) | (with_reducible refine below_grown (by assumption) ?_ ?_ ?_) | omega | (simp; done) | (simp; omega)))))
      go_wp2_with fail
      refine (reversed_any (L := [rightL l, leftL l]) 2 ?_ (by omega) (fun r hr => by
        simp only [List.mem_cons, List.not_mem_nil, or_false] at hr
        rcases hr with rfl | rfl
        · rw [LR]; omega
        · rw [LL]; omega)).mono ?_
      · refine ⟨[.slice B1 nb d1, .slice A1 nb c1], ⟨rfl, fun _ => ⟨wp.heap.size + 1, 0, rfl, blk_lt (blk_new1 wp _ _), fun i u hu => ?_⟩⟩, rfl, fun i r hr => ?_⟩
        · match i, hu with
          | 0, hu => rw [Nat.zero_add]; exact (blk_cell (blk_new1 wp _ _) 0).trans hu
          | 1, hu => rw [Nat.zero_add]; exact (blk_cell (blk_new1 wp _ _) 1).trans hu
        · match i, hr with
          | 0, hr => simp at hr; subst hr; exact ⟨_, rfl, B1, d1, by rw [LR], by rw [LR]; exact HC1.out.2.2.1, HC1.out.2.2.2, by rw [LR]; exact HBp.out.below (by (repeat' (first | (with_reducible exact Below.refl _ _) | (with_reducible assumption) | (with_reducible refine Below.alloc ?_ ?_ _) | (with_reducible refine below_drewN ?_ _) | (with_reducible refine Below.drew ?_) | (with_reducible refine Below.setCell ?_ ?_ _) | (with_reducible refine below_call (by assumption) ?_ ?_) | (with_reducible refine below_grown (by assumption) ?_ ?_ ?_) | omega | (simp; done) | (simp; omega))))⟩
          | 1, hr => simp at hr; subst hr; exact ⟨_, rfl, A1, c1, by rw [LL], by rw [LL]; exact HC1.out.1, HC1.out.2.1, by rw [LL]; exact HAp.out.below (by (repeat' (first | (with_reducible exact Below.refl _ _) | (with_reducible assumption) | (with_reducible refine Below.alloc ?_ ?_ _) | (with_reducible refine below_drewN ?_ _) | (with_reducible refine Below.drew ?_) | (with_reducible refine Below.setCell ?_ ?_ _) | (with_reducible refine below_call (by assumption) ?_ ?_) | (with_reducible refine below_grown (by assumption) ?_ ?_ ?_) | omega | (simp; done) | (simp; omega))))⟩
      rintro e ws ⟨vs, rfl, hos, hbs⟩
      have hzs := hbs.size
      simp at hzs
      obtain ⟨AS, cs, rfl, _, _, hRS, _⟩ := hos.form
      simp only [List.map_cons, List.map_nil, List.length_cons, List.length_nil] at hRS ⊢
      have HRS := Lib.hid hRS
      have HB2 := Lib.hid (blk_below (blk_alloc (blk_new wp (.cells #[.slice AP nb cp, .slice AQ nb cq] 23)) (.cells #[.slice B1 nb d1, .slice A1 nb c1] 23)) hbs)
      have HPPs : Hid (IsPts ws AP nb (rightL l).reverse) := Lib.hid (HPP.out.below (by (repeat' (first | (with_reducible exact Below.refl _ _) | (with_reducible assumption) | (with_reducible refine Below.alloc ?_ ?_ _) | (with_reducible refine below_drewN ?_ _) | (with_reducible refine Below.drew ?_) | (with_reducible refine Below.setCell ?_ ?_ _) | (with_reducible refine below_call (by assumption) ?_ ?_) | (with_reducible refine below_grown (by assumption) ?_ ?_ ?_) | omega | (simp; done) | (simp; omega)))))
      have HPQs : Hid (IsPts ws AQ nb (leftL l).reverse) := Lib.hid (HPQ.out.below (by (repeat' (first | (with_reducible exact Below.refl _ _) | (with_reducible assumption) | (with_reducible refine Below.alloc ?_ ?_ _) | (with_reducible refine below_drewN ?_ _) | (with_reducible refine Below.drew ?_) | (with_reducible refine Below.setCell ?_ ?_ _) | (with_reducible refine below_call (by assumption) ?_ ?_) | (with_reducible refine below_grown (by assumption) ?_ ?_ ?_) | omega | (simp; done) | (simp; omega)))))
      clear hRS hos
      go_wp2_with fail
      refine (equalRings_same (L := [(rightL l).reverse, (leftL l).reverse]) 2 cs ?_ HRS.out (by omega) (fun r hr => by
        simp only [List.mem_cons, List.not_mem_nil, or_false] at hr
        rcases hr with rfl | rfl
        · rw [List.length_reverse, LR]; omega
        · rw [List.length_reverse, LL]; omega)).mono ?_
      · refine ⟨[.slice AP nb cp, .slice AQ nb cq], ⟨rfl, fun _ => ⟨wp.heap.size, 0, rfl, blk_lt HB2.out, fun i u hu => ?_⟩⟩, rfl, fun i r hr => ?_⟩
        · match i, hu with
          | 0, hu => rw [Nat.zero_add]; exact (blk_cell HB2.out 0).trans hu
          | 1, hu => rw [Nat.zero_add]; exact (blk_cell HB2.out 1).trans hu
        · match i, hr with
          | 0, hr => simp at hr; subst hr; exact ⟨_, rfl, AP, cp, by rw [List.length_reverse, LR], by rw [List.length_reverse, LR]; exact hcp, hmp, by rw [List.length_reverse, LR]; exact HPPs.out⟩
          | 1, hr => simp at hr; subst hr; exact ⟨_, rfl, AQ, cq, by rw [List.length_reverse, LL], by rw [List.length_reverse, LL]; exact hcq, hmq, by rw [List.length_reverse, LL]; exact HPQs.out⟩
      rintro e we ⟨rfl, hbe⟩
      have hze := hbe.size
      go_wp2
      go_ret
      exact ⟨rfl, by (repeat' (first | (with_reducible exact Below.refl _ _) | (with_reducible assumption) | (with_reducible refine Below.alloc ?_ ?_ _) | (with_reducible refine below_drewN ?_ _) | (with_reducible refine Below.drew ?_) | (with_reducible refine Below.setCell ?_ ?_ _) | (with_reducible refine below_call (by assumption) ?_ ?_) | (with_reducible refine below_grown (by assumption) ?_ ?_ ?_) | omega | (simp; done) | (simp; omega)))⟩

theorem FnSplitCurveReverse_own : ownKnob Try.prog.godebug = none := by kernel_rfl
theorem FnSplitCurveReverse_laid : laidOutB Try.prog = true := by kernel_rfl

set_option maxRecDepth 100000 in
theorem FnSplitCurveReverse_lifted (os : Os) (started : os.Started) (H : Type) (enc : TypeId × Value → H) :
    ReturnsInHanded {} Try.checked os 13 .any (Rows.fnSplitCurveReverseSpec.pre6 enc Try.prog Try.f13 Rows.fnSplitCurveReverseRow.domain false) (Rows.fnSplitCurveReverseSpec.post enc Try.prog Try.f13 false true false false) := by
  refine returnsInHanded_of_change (C := Try.checked) FnSplitCurveReverse_own started (by kernel_rfl) Try.func13
    (ChangeSpec.witness6 (enc := enc) (C := Try.checked) false ⟨#[], #[.slice none 0 0], []⟩ 8 (by kernel_rfl) (by kernel_rfl) (by kernel_rfl) (by kernel_rfl)) ?_
  intro W base args ds gs before hval0 hW hcnd _
  have hval : ∀ (j : Nat) t v, Try.f13.params[j]? = some t → args[j]? = some v → Value.okWide Try.prog W .any base t v := hval0
  have hW' := hW
  obtain ⟨p, q, hA0, hV, rfl, hfz, hnd⟩ := hW
  have hA : DataW.TrodAll enc Try.prog W 0 (fun _ => true) true Try.f13.params.toList args.toList ds p := hA0
  rw [Try.params13] at hA hval
  obtain ⟨v0, vs0, d0, ds0, p0, q0, hargs, rfl, rfl, h0, r0⟩ := trodAll_cons hA
  obtain ⟨rfl, rfl, rfl⟩ := trodAll_nil r0
  obtain rfl : args = #[v0] := by cases args; simp_all
  obtain ⟨rfl, rfl⟩ := trodVars_none hV
  have k0 := h0
  have lt0 : ∀ x ∈ p0, x.block < W.heap.size := by obtain ⟨m, hm⟩ := k0; exact DataW.trod_lt m _ _ _ hm
  obtain ⟨a0, len0, cap0, rfl⟩ := okWide_slice Try.underlying22 (hval 0 22 v0 rfl rfl)
  have w0 := code_of Try.underlying22 Try.underlying5 (by kernel_rfl) h0
  clear hA0 hval0
  refine (FnSplitCurveReverse_walk W _ _ _ w0).mono fun e W' ⟨he, bel⟩ => ?_
  subst he
  exact ⟨_, rfl, _, _, _, [], _, [], hW', trodAll_mk1 (shut_bool Try.underlying4 _), (trodAll_cons_mk (Below.trod FnSplitCurveReverse_laid (by kernel_rfl) (of_decide_eq_true (by kernel_rfl)) k0 bel lt0) trodAll_mk0), rfl, bel.frame _, fun h => by cases h⟩

theorem FnSplitCurveReverse_over : Rows.fnSplitCurveReverseRow.holds Try.pinned (OpenSpec.ofChange Rows.fnSplitCurveReverseSpec) :=
  OpenClaim.holds_of_wide 13 Try.f13 rfl rfl rfl rfl rfl rfl rfl ⟨rfl, rfl, rfl, rfl, rfl⟩ rfl rfl rfl rfl rfl (by kernel_rfl) Try.func13 (by kernel_rfl)
    (of_decide_eq_true (by kernel_rfl)) (by unfold Func.isWrapper; first | (rw [if_pos (by decide +kernel)]; kernel_rfl) | (rw [if_neg (by decide +kernel)]; exact ⟨rfl, rfl⟩))
    (fun os started H enc _ => FnSplitCurveReverse_lifted os started H enc)

/-- The statement. -/
theorem FnSplitCurveReverse_holds : Rows.FnSplitCurveReverseSaid := FnSplitCurveReverse_over
#print axioms FnSplitCurveReverse_holds

end Go.Proofs.Ytmddkhincpibhaa
