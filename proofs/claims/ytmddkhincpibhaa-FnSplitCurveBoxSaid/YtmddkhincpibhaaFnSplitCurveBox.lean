/-
  FnSplitCurveBox holds. Whatever curve the generator gives. No condition.
-/
import Derived.Test.YtmddkhincpibhaaDrawS
import Derived.Test.YtmddkhincpibhaaSplitS
import Derived.Test.YtmddkhincpibhaaLPts
import Derived.Test.YtmddkhincpibhaaCode
import Derived.Test.YtmddkhincpibhaaBlk
import Derived.ProofKit
import Derived.OpenShut
import Derived.ShutString
import Derived.ChangeOld
import Derived.Lib.SmallJoins
namespace Go.Proofs.Ytmddkhincpibhaa
open Go.RowKit Pl Go.ChangeShapes Go.WideShapes Go.ChangeAt
open Go.ChangeMaps (open_string shut_string)

set_option linter.unusedSimpArgs false
set_option linter.unusedVariables false

set_option maxRecDepth 100000 in
set_option maxHeartbeats 4000000 in
theorem FnSplitCurveBox_walk (w : World) (A : Option Addr) (n c : Nat) (h : Code w A n c) :
    Calls Try.prog 12 #[.slice A n c] w fun e w' => e = .returned (.bool true) ∧ Below w.heap.size w w' := by
  by_cases hn : 1048576 < n
  · go_enter Try.func12, Try.ntmps12
    go_wp2
    go_ret
    exact ⟨rfl, by (repeat' (first | (with_reducible exact Below.refl _ _) | (with_reducible assumption) | (with_reducible refine Below.alloc ?_ ?_ _) | (with_reducible refine below_drewN ?_ _) | (with_reducible refine Below.drew ?_) | (with_reducible refine Below.setCell ?_ ?_ _) | (with_reducible refine below_call (by assumption) ?_ ?_) | go_size))⟩
  · go_enter Try.func12, Try.ntmps12
    go_wp2_with fail
    refine (DrawSplitCurve_any (h.below (by (repeat' (first | (with_reducible exact Below.refl _ _) | (with_reducible assumption) | (with_reducible refine Below.alloc ?_ ?_ _) | (with_reducible refine below_drewN ?_ _) | (with_reducible refine Below.drew ?_) | (with_reducible refine Below.setCell ?_ ?_ _) | (with_reducible refine below_call (by assumption) ?_ ?_) | go_size))))).mono ?_
    rintro e wd ⟨v0, l, rfl, hl5, hv, hb⟩
    have hz0 := hb.size
    obtain ⟨A0, c0, rfl, hlc, hcm, hP, _⟩ := hv.form
    have HP := Lib.hid hP
    obtain ⟨n0, hn0⟩ : ∃ n0, l.length = n0 := ⟨_, rfl⟩
    have HL := Lib.hid hn0
    clear hv hP
    rw [hn0] at HP hl5 hlc ⊢
    clear hn0
    obtain ⟨ok, hok⟩ : ∃ v, curveB l = v := ⟨_, rfl⟩
    obtain ⟨a, ha⟩ : ∃ m, splitA l = m := ⟨_, rfl⟩
    obtain ⟨b, hb'⟩ : ∃ m, splitB l = m := ⟨_, rfl⟩
    have H1 := Lib.hid hok
    have H2 := Lib.hid ha
    have H3 := Lib.hid hb'
    have ha5 : a.length ≤ 5 := by rw [← ha, splitA]; split <;> simp [leftL_len, HL.out, hl5]
    have hb5 : b.length ≤ 5 := by rw [← hb', splitB]; split <;> simp [rightL_len, HL.out, hl5]
    clear hok ha hb'
    go_wp2_with fail
    refine (SplitCurve_eq c0 HP.out (by omega) (Hid.out (by with_reducible assumption)) (Hid.out (by with_reducible assumption)) (Hid.out (by with_reducible assumption))).mono ?_
    rintro e wa ⟨v1, u1, s1, rfl, ho1, _, hs1, hu1, hba⟩
    have hza := hba.size
    obtain ⟨A1, c1, rfl, _, _, hP1, _⟩ := ho1.form
    obtain ⟨B1, d1, rfl, _, _, hQ1, _⟩ := hu1.form
    have HP1 := Lib.hid hP1
    have HQ1 := Lib.hid hQ1
    clear ho1 hu1 hP1 hQ1
    go_wp2_with fail
    refine (sSplitCurve_eq c0 (HP.out.below hba) (by omega) (Hid.out (by with_reducible assumption)) (Hid.out (by with_reducible assumption)) (Hid.out (by with_reducible assumption))).mono ?_
    rintro e wb ⟨v2, u2, rfl, ho2, hu2, hbb⟩
    have hzb := hbb.size
    obtain ⟨A2, c2, rfl, _, _, hP2, _⟩ := ho2.form
    obtain ⟨B2, d2, rfl, _, _, hQ2, _⟩ := hu2.form
    have HP2 := Lib.hid hP2
    have HQ2 := Lib.hid hQ2
    clear ho2 hu2 hP2 hQ2
    obtain ⟨na, hna⟩ : ∃ n0, a.length = n0 := ⟨_, rfl⟩
    obtain ⟨nb, hnb⟩ : ∃ n0, b.length = n0 := ⟨_, rfl⟩
    have HNA := Lib.hid hna
    have HNB := Lib.hid hnb
    rw [hna] at HP1 HP2 ha5 ⊢
    rw [hnb] at HQ1 HQ2 hb5 ⊢
    clear hna hnb
    go_wp2_with fail
    refine (equalPoints_same c1 c2 (HP1.out.below hbb) HP2.out (by omega)).mono ?_
    rintro e wc ⟨rfl, hbc⟩
    have hzc := hbc.size
    go_wp2_with fail
    refine (equalPoints_same d1 d2 ((HQ1.out.below hbb).below hbc) (HQ2.out.below hbc) (by omega)).mono ?_
    rintro e wc2 ⟨rfl, hbc2⟩
    have hzc2 := hbc2.size
    cases ok with
    | false =>
      go_wp2_with fail
      refine (equalPoints_same c1 c2 (((HP1.out.below hbb).below hbc).below hbc2) ((HP2.out.below hbc).below hbc2) (by omega)).mono ?_
      rintro e we ⟨rfl, hbe⟩
      have hze := hbe.size
      go_wp2_with fail
      refine (equalPoints_same d1 d2 ((((HQ1.out.below hbb).below hbc).below hbc2).below hbe) (((HQ2.out.below hbc).below hbc2).below hbe) (by omega)).mono ?_
      rintro e wf ⟨rfl, hbf⟩
      have hzf := hbf.size
      go_wp2
      go_ret
      exact ⟨rfl, by (repeat' (first | (with_reducible exact Below.refl _ _) | (with_reducible assumption) | (with_reducible refine Below.alloc ?_ ?_ _) | (with_reducible refine below_drewN ?_ _) | (with_reducible refine Below.drew ?_) | (with_reducible refine Below.setCell ?_ ?_ _) | (with_reducible refine below_call (by assumption) ?_ ?_) | (with_reducible refine below_grown (by assumption) ?_ ?_ ?_) | omega | (simp; done) | (simp; omega)))⟩
    | true =>
      have hcv := H1.out
      obtain ⟨p1, p2, p3⟩ := curveB_parts hcv
      rw [HL.out] at p1 p2
      have ea : a = leftL l := by rw [← H2.out, splitA, if_pos hcv]
      have eb' : b = rightL l := by rw [← H3.out, splitB, if_pos hcv]
      obtain rfl : na = n0 := by rw [← HNA.out, ea, leftL_len, HL.out]
      obtain rfl : nb = na := by rw [← HNB.out, eb', rightL_len, HL.out]
      subst ea eb'
      have HPc : Hid (IsPts wc2 A0 nb l) := Lib.hid (by have := HP.out; exact (((this.below hba).below hbb).below hbc).below hbc2)
      have HAc : Hid (IsPts wc2 A1 nb (leftL l)) := Lib.hid (((HP1.out.below hbb).below hbc).below hbc2)
      have HBc : Hid (IsPts wc2 B1 nb (rightL l)) := Lib.hid (((HQ1.out.below hbb).below hbc).below hbc2)
      have HCV := Lib.hid hcv
      clear hcv p3
      have hrv := (curveB_parts HCV.out).2.2
      have hin : ∀ i, i < l.length → inBx (bbx l (nb - 1)) (pt l i) := by have := inBx_bbx (l := l); rw [HL.out] at this ⊢; exact this
      obtain ⟨L2, hL2⟩ : ∃ m, leftL l ++ rightL l = m := ⟨_, rfl⟩
      have hll : L2.length = nb + nb := by rw [← hL2, List.length_append, leftL_len, rightL_len, HL.out]
      have hin2 : ∀ {B : Bx}, (∀ i, i < l.length → inBx B (pt l i)) → ∀ i, i < L2.length → inBx B (pt L2 i) := fun {B} hB i hi => by
        have k1 := inBx_left hB
        have k2 := inBx_right hB
        rw [leftL_len, HL.out] at k1
        rw [rightL_len, HL.out] at k2
        rcases Nat.lt_or_ge i nb with h' | h'
        · have : pt L2 i = pt (leftL l) i := by rw [pt_eq hi, pt_eq (by rw [leftL_len, HL.out]; exact h')]; simp only [← hL2]; rw [List.getElem_append_left]
          rw [this]; exact k1 i h'
        · have : pt L2 i = pt (rightL l) (i - nb) := by rw [pt_eq hi, pt_eq (by rw [rightL_len, HL.out]; omega)]; simp only [← hL2]; rw [List.getElem_append_right (by rw [leftL_len, HL.out]; omega)]; congr 1; rw [leftL_len, HL.out]
          rw [this]; exact k2 (i - nb) (by omega)
      have hlv : validL L2 = true := by
        rw [validL_iff] at hrv ⊢
        exact ⟨by omega, hin2 hrv.2⟩
      have hins := bbx_inside (b := bbx l (nb - 1)) (l := L2) (hin2 hin) (nb + nb - 1) (by omega)
      have hb1 : boxOk l = true := by rw [boxOk, hrv]; have := HL.out; cases l <;> simp at this ⊢; omega
      have hb2 : boxOk L2 = true := by rw [boxOk, hlv]; cases L2 <;> simp at hll ⊢; omega
      have hx1 : boxR l = bbx l (nb - 1) := by rw [boxR, if_pos hb1, HL.out]
      have hx2 : boxR L2 = bbx L2 (nb + nb - 1) := by rw [boxR, if_pos hb2, hll]
      obtain ⟨⟨L, T, R, B⟩, hbx⟩ : ∃ x, bbx l (nb - 1) = x := ⟨_, rfl⟩
      obtain ⟨⟨L', T', R', B'⟩, hbx2⟩ : ∃ x, bbx L2 (nb + nb - 1) = x := ⟨_, rfl⟩
      rw [hbx, hbx2] at hins
      obtain ⟨i1, i2, i3, i4⟩ := hins
      simp only at i1 i2 i3 i4
      have K1 := Lib.hid hb1
      have K2 := Lib.hid hb2
      have K3 := Lib.hid (hx1.trans hbx)
      have K4 := Lib.hid (hx2.trans hbx2)
      have KL := Lib.hid hL2
      have KN := Lib.hid hll
      have g1 : decide (L ≤ L') = true := by simpa using i1
      have g2 : decide (R' ≤ R) = true := by simpa using i2
      have g3 : decide (T ≤ T') = true := by simpa using i3
      have g4 : decide (B' ≤ B) = true := by simpa using i4
      clear hrv hin hin2 hlv hb1 hb2 hx1 hx2 hbx hbx2 hL2 hll
      go_wp2_with fail
      refine (BoxOf_eq c0 HPc.out (by omega) (Hid.out (by with_reducible assumption)) (Hid.out (by with_reducible assumption))).mono ?_
      rintro e ws ⟨rfl, hbs⟩
      have hzs := hbs.size
      obtain ⟨b1, o1, e, hbl1, _, _⟩ := HAc.out.at_ (k := 0) (by omega)
      subst e
      obtain ⟨b2, o2, e, hbl2, _, _⟩ := HBc.out.at_ (k := 0) (by omega)
      subst e
      have HAs := Lib.hid (HAc.out.below hbs)
      have HBs := Lib.hid (HBc.out.below hbs)
      go_wp2_with (at_builtin
                   refine append_ptsL rfl (.tmp 69) (.tmp 70) rfl (ws.heap.size + 1) (.slice (some ⟨ws.heap.size + 1, 0, none⟩) 0 0) [] rfl (OwnPts.empty rfl (by omega) (by simpa using blk_new (ws.alloc _) _)) _ _ _ (leftL l) rfl (HAs.out.below (by (repeat' (first | (with_reducible exact Below.refl _ _) | (with_reducible assumption) | (with_reducible refine Below.alloc ?_ ?_ _) | (with_reducible refine below_drewN ?_ _) | (with_reducible refine Below.drew ?_) | (with_reducible refine Below.setCell ?_ ?_ _) | (with_reducible refine below_call (by assumption) ?_ ?_) | (with_reducible refine below_grown (by assumption) ?_ ?_ ?_) | omega | (simp; done) | (simp; omega))))) (by rw [leftL_len, HL.out]; simp; omega) (by simp) ?_
                   intro v5 w5 hv5 hg5 ha5'
                   refine Kept.out ?_)
      have hz5 := hg5.size
      simp at hz5
      have hb5x : Below ws.heap.size ws w5 := below_ownP hg5 (by (repeat' (first | (with_reducible exact Below.refl _ _) | (with_reducible assumption) | (with_reducible refine Below.alloc ?_ ?_ _) | (with_reducible refine below_drewN ?_ _) | (with_reducible refine Below.drew ?_) | (with_reducible refine Below.setCell ?_ ?_ _) | (with_reducible refine below_call (by assumption) ?_ ?_) | (with_reducible refine below_grown (by assumption) ?_ ?_ ?_) | omega | (simp; done) | (simp; omega)))) (by simp; omega) (fun g hg => by simp only [Value.ownBlock, Option.some.injEq] at hg; omega)
      have BS5 := Lib.hid hb5x
      have Q5 : Hid (w5.heap[ws.heap.size]? = some (.cells #[.int .i64 L, .int .i64 T, .int .i64 R, .int .i64 B] 29 (0, 0))) := Lib.hid (blk_own (by (repeat' (first | (with_reducible assumption) | (with_reducible exact blk_new _ _) | (with_reducible exact blk_new1 _ _ _) | (with_reducible exact blk_new2 _ _ _ _) | (with_reducible refine blk_alloc ?_ _) | (with_reducible refine blk_drewN ?_ _) | (with_reducible refine blk_down (by assumption) ?_) | (with_reducible refine blk_up (by assumption) (by omega) ?_) | (with_reducible refine blk_far ?_ _ (by simp; omega))))) hg5 (by simp [Value.ownBlock]))
      have V5 := Lib.hid hv5
      have HB5 := Lib.hid (HBs.out.below hb5x)
      clear hv5 hg5 ha5' hb5x
      refine Kept.mk ?_
      go_wp2_with (at_builtin
                   refine append_ptsL rfl (.tmp 71) (.tmp 72) rfl (ws.heap.size + 1) v5 (leftL l) rfl V5.out _ _ _ (rightL l) rfl HB5.out (by rw [leftL_len, rightL_len, HL.out]; omega) (by omega) ?_
                   intro v6 w6 hv6 hg6 ha6'
                   refine Kept.out ?_)
      rw [KL.out] at hv6
      have hz6 := hg6.size
      have B6 : Hid (Below wc2.heap.size wc2 w6) := Lib.hid (below_ownP hg6 (by have := BS5.out; (repeat' (first | (with_reducible exact Below.refl _ _) | (with_reducible assumption) | (with_reducible refine Below.alloc ?_ ?_ _) | (with_reducible refine below_drewN ?_ _) | (with_reducible refine Below.drew ?_) | (with_reducible refine Below.setCell ?_ ?_ _) | (with_reducible refine below_call (by assumption) ?_ ?_) | (with_reducible refine below_grown (by assumption) ?_ ?_ ?_) | omega | (simp; done) | (simp; omega)))) (by omega) (fun g hg => by have := V5.out.row g hg; omega))
      have Q6 : Hid (w6.heap[ws.heap.size]? = some (.cells #[.int .i64 L, .int .i64 T, .int .i64 R, .int .i64 B] 29 (0, 0))) := Lib.hid (blk_own Q5.out hg6 (fun e => by have := V5.out.row _ e; omega))
      obtain ⟨A6, c6, e6, hP6, _, _, _⟩ := hv6.form
      rw [KN.out] at e6 hP6
      subst e6
      have HP6 := Lib.hid hP6
      clear hv6 hg6 ha6' hP6
      refine Kept.mk ?_
      go_wp2_with fail
      refine (BoxOf_eq c6 HP6.out (by omega) (Hid.out (by with_reducible assumption)) (Hid.out (by with_reducible assumption))).mono ?_
      rintro e wt ⟨rfl, hbt⟩
      have hzt := hbt.size
      have hgb := blk_below Q6.out hbt
      have hlg := blk_lt hgb
      have q0 : wt.cell? ⟨ws.heap.size, 0, none⟩ = some (.int .i64 L) := blk_cell hgb 0
      have q1 : wt.cell? ⟨ws.heap.size, 1, none⟩ = some (.int .i64 T) := blk_cell hgb 1
      have q2 : wt.cell? ⟨ws.heap.size, 2, none⟩ = some (.int .i64 R) := blk_cell hgb 2
      have q3 : wt.cell? ⟨ws.heap.size, 3, none⟩ = some (.int .i64 B) := blk_cell hgb 3
      clear hgb
      have Bt : Hid (Below w.heap.size w wt) := Lib.hid (by have := B6.out; (repeat' (first | (with_reducible exact Below.refl _ _) | (with_reducible assumption) | (with_reducible refine Below.alloc ?_ ?_ _) | (with_reducible refine below_drewN ?_ _) | (with_reducible refine Below.drew ?_) | (with_reducible refine Below.setCell ?_ ?_ _) | (with_reducible refine below_call (by assumption) ?_ ?_) | (with_reducible refine below_grown (by assumption) ?_ ?_ ?_) | omega | (simp; done) | (simp; omega))))
      go_wp2
      go_ret
      exact ⟨rfl, by have := Bt.out; (repeat' (first | (with_reducible exact Below.refl _ _) | (with_reducible assumption) | (with_reducible refine Below.alloc ?_ ?_ _) | (with_reducible refine below_drewN ?_ _) | (with_reducible refine Below.drew ?_) | (with_reducible refine Below.setCell ?_ ?_ _) | (with_reducible refine below_call (by assumption) ?_ ?_) | (with_reducible refine below_grown (by assumption) ?_ ?_ ?_) | omega | (simp; done) | (simp; omega)))⟩

theorem FnSplitCurveBox_own : ownKnob Try.prog.godebug = none := by kernel_rfl
theorem FnSplitCurveBox_laid : laidOutB Try.prog = true := by kernel_rfl

set_option maxRecDepth 100000 in
theorem FnSplitCurveBox_lifted (os : Os) (started : os.Started) (H : Type) (enc : TypeId × Value → H) :
    ReturnsInHanded {} Try.checked os 12 .any (Rows.fnSplitCurveBoxSpec.pre6 enc Try.prog Try.f12 Rows.fnSplitCurveBoxRow.domain false) (Rows.fnSplitCurveBoxSpec.post enc Try.prog Try.f12 false true false false) := by
  refine returnsInHanded_of_change (C := Try.checked) FnSplitCurveBox_own started (by kernel_rfl) Try.func12
    (ChangeSpec.witness6 (enc := enc) (C := Try.checked) false ⟨#[], #[.slice none 0 0], []⟩ 8 (by kernel_rfl) (by kernel_rfl) (by kernel_rfl) (by kernel_rfl)) ?_
  intro W base args ds gs before hval0 hW hcnd _
  have hval : ∀ (j : Nat) t v, Try.f12.params[j]? = some t → args[j]? = some v → Value.okWide Try.prog W .any base t v := hval0
  have hW' := hW
  obtain ⟨p, q, hA0, hV, rfl, hfz, hnd⟩ := hW
  have hA : DataW.TrodAll enc Try.prog W 0 (fun _ => true) true Try.f12.params.toList args.toList ds p := hA0
  rw [Try.params12] at hA hval
  obtain ⟨v0, vs0, d0, ds0, p0, q0, hargs, rfl, rfl, h0, r0⟩ := trodAll_cons hA
  obtain ⟨rfl, rfl, rfl⟩ := trodAll_nil r0
  obtain rfl : args = #[v0] := by cases args; simp_all
  obtain ⟨rfl, rfl⟩ := trodVars_none hV
  have k0 := h0
  have lt0 : ∀ x ∈ p0, x.block < W.heap.size := by obtain ⟨m, hm⟩ := k0; exact DataW.trod_lt m _ _ _ hm
  obtain ⟨a0, len0, cap0, rfl⟩ := okWide_slice Try.underlying22 (hval 0 22 v0 rfl rfl)
  have w0 := code_of Try.underlying22 Try.underlying5 (by kernel_rfl) h0
  clear hA0 hval0
  refine (FnSplitCurveBox_walk W _ _ _ w0).mono fun e W' ⟨he, bel⟩ => ?_
  subst he
  exact ⟨_, rfl, _, _, _, [], _, [], hW', trodAll_mk1 (shut_bool Try.underlying4 _), (trodAll_cons_mk (Below.trod FnSplitCurveBox_laid (by kernel_rfl) (of_decide_eq_true (by kernel_rfl)) k0 bel lt0) trodAll_mk0), rfl, bel.frame _, fun h => by cases h⟩

theorem FnSplitCurveBox_over : Rows.fnSplitCurveBoxRow.holds Try.pinned (OpenSpec.ofChange Rows.fnSplitCurveBoxSpec) :=
  OpenClaim.holds_of_wide 12 Try.f12 rfl rfl rfl rfl rfl rfl rfl ⟨rfl, rfl, rfl, rfl, rfl⟩ rfl rfl rfl rfl rfl (by kernel_rfl) Try.func12 (by kernel_rfl)
    (of_decide_eq_true (by kernel_rfl)) (by unfold Func.isWrapper; first | (rw [if_pos (by decide +kernel)]; kernel_rfl) | (rw [if_neg (by decide +kernel)]; exact ⟨rfl, rfl⟩))
    (fun os started H enc _ => FnSplitCurveBox_lifted os started H enc)

/-- The statement. -/
theorem FnSplitCurveBox_holds : Rows.FnSplitCurveBoxSaid := FnSplitCurveBox_over
#print axioms FnSplitCurveBox_holds

end Go.Proofs.Ytmddkhincpibhaa
