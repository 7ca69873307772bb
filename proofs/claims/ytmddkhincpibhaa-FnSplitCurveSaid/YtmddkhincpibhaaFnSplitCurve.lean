/-
  FnSplitCurve holds. Whatever curve the generator gives. No condition.
-/
import Derived.Test.YtmddkhincpibhaaDrawS
import Derived.Test.YtmddkhincpibhaaSplitS
import Derived.Test.YtmddkhincpibhaaLPts
import Derived.Test.YtmddkhincpibhaaCode
import Derived.ProofKit
import Derived.OpenShut
import Derived.ShutString
import Derived.ChangeOld
import Derived.Lib.SmallJoins
namespace Go.Proofs.Ytmddkhincpibhaa
open Go.RowKit Pl Go.ChangeShapes Go.WideShapes Go.ChangeAt
open Go.ChangeMaps (open_string shut_string)

set_option linter.unusedSimpArgs false
set_option linter.unusedVariables false

set_option maxRecDepth 100000 in
set_option maxHeartbeats 4000000 in
theorem FnSplitCurve_walk (w : World) (A : Option Addr) (n c : Nat) (h : Code w A n c) :
    Calls Try.prog 10 #[.slice A n c] w fun e w' => e = .returned (.bool true) ∧ Below w.heap.size w w' := by
  by_cases hn : 1048576 < n
  · go_enter Try.func10, Try.ntmps10
    go_wp2
    go_ret
    exact ⟨rfl, by (repeat' (first | (with_reducible exact Below.refl _ _) | (with_reducible assumption) | (with_reducible refine Below.alloc ?_ ?_ _) | (with_reducible refine below_drewN ?_ _) | (with_reducible refine Below.drew ?_) | (with_reducible refine Below.setCell ?_ ?_ _) | (with_reducible refine below_call (by assumption) ?_ ?_) | go_size))⟩
  · go_enter Try.func10, Try.ntmps10
    go_wp2_with fail
    refine (DrawSplitCurve_any (h.below (by (repeat' (first | (with_reducible exact Below.refl _ _) | (with_reducible assumption) | (with_reducible refine Below.alloc ?_ ?_ _) | (with_reducible refine below_drewN ?_ _) | (with_reducible refine Below.drew ?_) | (with_reducible refine Below.setCell ?_ ?_ _) | (with_reducible refine below_call (by assumption) ?_ ?_) | go_size))))).mono ?_
    rintro e wd ⟨v0, l, rfl, hl5, hv, hb⟩
    have hz0 := hb.size
    obtain ⟨A0, c0, rfl, hlc, hcm, hP, _⟩ := hv.form
    have HP := Lib.hid hP
    obtain ⟨n0, hn0⟩ : ∃ n0, l.length = n0 := ⟨_, rfl⟩
    have HL := Lib.hid hn0
    clear hv hP
    rw [hn0] at HP hl5 hlc ⊢
    clear hn0
    obtain ⟨ok, hok⟩ : ∃ v, curveB l = v := ⟨_, rfl⟩
    obtain ⟨a, ha⟩ : ∃ m, splitA l = m := ⟨_, rfl⟩
    obtain ⟨b, hb'⟩ : ∃ m, splitB l = m := ⟨_, rfl⟩
    have H1 := Lib.hid hok
    have H2 := Lib.hid ha
    have H3 := Lib.hid hb'
    have ha5 : a.length ≤ 5 := by rw [← ha, splitA]; split <;> simp [leftL_len, HL.out, hl5]
    have hb5 : b.length ≤ 5 := by rw [← hb', splitB]; split <;> simp [rightL_len, HL.out, hl5]
    clear hok ha hb'
    go_wp2_with fail
    refine (SplitCurve_eq c0 HP.out (by omega) (Hid.out (by with_reducible assumption)) (Hid.out (by with_reducible assumption)) (Hid.out (by with_reducible assumption))).mono ?_
    rintro e wa ⟨v1, u1, s1, rfl, ho1, _, hs1, hu1, hba⟩
    have hza := hba.size
    obtain ⟨A1, c1, rfl, _, _, hP1, _⟩ := ho1.form
    obtain ⟨B1, d1, rfl, _, _, hQ1, _⟩ := hu1.form
    have HP1 := Lib.hid hP1
    have HQ1 := Lib.hid hQ1
    clear ho1 hu1 hP1 hQ1
    go_wp2_with fail
    refine (sSplitCurve_eq c0 (HP.out.below hba) (by omega) (Hid.out (by with_reducible assumption)) (Hid.out (by with_reducible assumption)) (Hid.out (by with_reducible assumption))).mono ?_
    rintro e wb ⟨v2, u2, rfl, ho2, hu2, hbb⟩
    have hzb := hbb.size
    obtain ⟨A2, c2, rfl, _, _, hP2, _⟩ := ho2.form
    obtain ⟨B2, d2, rfl, _, _, hQ2, _⟩ := hu2.form
    have HP2 := Lib.hid hP2
    have HQ2 := Lib.hid hQ2
    clear ho2 hu2 hP2 hQ2
    obtain ⟨na, hna⟩ : ∃ n0, a.length = n0 := ⟨_, rfl⟩
    obtain ⟨nb, hnb⟩ : ∃ n0, b.length = n0 := ⟨_, rfl⟩
    have HNA := Lib.hid hna
    have HNB := Lib.hid hnb
    rw [hna] at HP1 HP2 ha5 ⊢
    rw [hnb] at HQ1 HQ2 hb5 ⊢
    clear hna hnb
    go_wp2_with fail
    refine (equalPoints_same c1 c2 (HP1.out.below hbb) HP2.out (by omega)).mono ?_
    rintro e wc ⟨rfl, hbc⟩
    have hzc := hbc.size
    go_wp2_with fail
    refine (equalPoints_same d1 d2 ((HQ1.out.below hbb).below hbc) (HQ2.out.below hbc) (by omega)).mono ?_
    rintro e wc2 ⟨rfl, hbc2⟩
    have hzc2 := hbc2.size
    cases ok with
    | false =>
      go_wp2_with fail
      refine (equalPoints_same c1 c2 (((HP1.out.below hbb).below hbc).below hbc2) ((HP2.out.below hbc).below hbc2) (by omega)).mono ?_
      rintro e we ⟨rfl, hbe⟩
      have hze := hbe.size
      go_wp2_with fail
      refine (equalPoints_same d1 d2 ((((HQ1.out.below hbb).below hbc).below hbc2).below hbe) (((HQ2.out.below hbc).below hbc2).below hbe) (by omega)).mono ?_
      rintro e wf ⟨rfl, hbf⟩
      have hzf := hbf.size
      go_wp2
      go_ret
      exact ⟨rfl, by (repeat' (first | (with_reducible exact Below.refl _ _) | (with_reducible assumption) | (with_reducible refine Below.alloc ?_ ?_ _) | (with_reducible refine below_drewN ?_ _) | (with_reducible refine Below.drew ?_) | (with_reducible refine Below.setCell ?_ ?_ _) | (with_reducible refine below_call (by assumption) ?_ ?_) | (with_reducible refine below_grown (by assumption) ?_ ?_ ?_) | omega | (simp; done) | (simp; omega)))⟩
    | true =>
      have hcv := H1.out
      obtain ⟨p1, p2, p3⟩ := curveB_parts hcv
      rw [HL.out] at p1 p2
      have ea : a = leftL l := by rw [← H2.out, splitA, if_pos hcv]
      have eb' : b = rightL l := by rw [← H3.out, splitB, if_pos hcv]
      obtain rfl : na = n0 := by rw [← HNA.out, ea, leftL_len, HL.out]
      obtain rfl : nb = na := by rw [← HNB.out, eb', rightL_len, HL.out]
      subst ea eb'
      have HPc : Hid (IsPts wc2 A0 nb l) := Lib.hid (by have := HP.out; exact (((this.below hba).below hbb).below hbc).below hbc2)
      have HAc : Hid (IsPts wc2 A1 nb (leftL l)) := Lib.hid (((HP1.out.below hbb).below hbc).below hbc2)
      have HBc : Hid (IsPts wc2 B1 nb (rightL l)) := Lib.hid (((HQ1.out.below hbb).below hbc).below hbc2)
      have HCV := Lib.hid hcv
      clear hcv p3
      obtain ⟨q, hq⟩ : ∃ q, q + 1 = nb := ⟨nb - 1, by omega⟩
      have hq2 : l.length - 1 = q := by rw [HL.out]; omega
      have e1 := split_first (l := l) (by rw [HL.out]; omega)
      have e2 := split_last (l := l) (by rw [HL.out]; omega)
      have e3 := split_meet (l := l) (by rw [HL.out]; omega)
      rw [hq2] at e2 e3
      obtain ⟨b0, o0, e, hbl, c00, c01⟩ := HPc.out.at_ (k := 0) (by omega)
      subst e
      obtain ⟨b', o', e, _, c02, c03⟩ := HPc.out.at_ (k := q) (by omega)
      cases e
      obtain ⟨b1, o1, e, hbl1, c10, c11⟩ := HAc.out.at_ (k := 0) (by omega)
      subst e
      obtain ⟨b', o', e, _, c12, c13⟩ := HAc.out.at_ (k := q) (by omega)
      cases e
      obtain ⟨b2, o2, e, hbl2, c20, c21⟩ := HBc.out.at_ (k := 0) (by omega)
      subst e
      obtain ⟨b', o', e, _, c22, c23⟩ := HBc.out.at_ (k := q) (by omega)
      cases e
      simp only [Nat.zero_mul, Nat.add_zero] at c00 c01 c10 c11 c20 c21
      rw [show px (leftL l) 0 = px l 0 from congrArg Prod.fst e1] at c10
      rw [show py (leftL l) 0 = py l 0 from congrArg Prod.snd e1] at c11
      rw [show px (rightL l) q = px l q from congrArg Prod.fst e2] at c22
      rw [show py (rightL l) q = py l q from congrArg Prod.snd e2] at c23
      rw [show px (leftL l) q = px (rightL l) 0 from congrArg Prod.fst e3] at c12
      rw [show py (leftL l) q = py (rightL l) 0 from congrArg Prod.snd e3] at c13
      have t1 : IntKind.i64.wrap ((nb : Int) - 1) = (q : Int) := (IntWalk.i64_in _ (by omega)).trans (by omega)
      have hn0 : 0 < nb := by omega
      have hqn : q < nb := by omega
      have hqi : (q : Int) < nb := by omega
      have hni : (0 : Int) < nb := by omega
      clear e1 e2 e3 hq2 ha5 hb5 hl5
      go_wp2_with fail
      go_quiet (fail)
      go_wp2
      go_ret
      exact ⟨rfl, by (repeat' (first | (with_reducible exact Below.refl _ _) | (with_reducible assumption) | (with_reducible refine Below.alloc ?_ ?_ _) | (with_reducible refine below_drewN ?_ _) | (with_reducible refine Below.drew ?_) | (with_reducible refine Below.setCell ?_ ?_ _) | (with_reducible refine below_call (by assumption) ?_ ?_) | (with_reducible refine below_grown (by assumption) ?_ ?_ ?_) | omega | (simp; done) | (simp; omega)))⟩

theorem FnSplitCurve_own : ownKnob Try.prog.godebug = none := by kernel_rfl
theorem FnSplitCurve_laid : laidOutB Try.prog = true := by kernel_rfl

set_option maxRecDepth 100000 in
theorem FnSplitCurve_lifted (os : Os) (started : os.Started) (H : Type) (enc : TypeId × Value → H) :
    ReturnsInHanded {} Try.checked os 10 .any (Rows.fnSplitCurveSpec.pre6 enc Try.prog Try.f10 Rows.fnSplitCurveRow.domain false) (Rows.fnSplitCurveSpec.post enc Try.prog Try.f10 false true false false) := by
  refine returnsInHanded_of_change (C := Try.checked) FnSplitCurve_own started (by kernel_rfl) Try.func10
    (ChangeSpec.witness6 (enc := enc) (C := Try.checked) false ⟨#[], #[.slice none 0 0], []⟩ 8 (by kernel_rfl) (by kernel_rfl) (by kernel_rfl) (by kernel_rfl)) ?_
  intro W base args ds gs before hval0 hW hcnd _
  have hval : ∀ (j : Nat) t v, Try.f10.params[j]? = some t → args[j]? = some v → Value.okWide Try.prog W .any base t v := hval0
  have hW' := hW
  obtain ⟨p, q, hA0, hV, rfl, hfz, hnd⟩ := hW
  have hA : DataW.TrodAll enc Try.prog W 0 (fun _ => true) true Try.f10.params.toList args.toList ds p := hA0
  rw [Try.params10] at hA hval
  obtain ⟨v0, vs0, d0, ds0, p0, q0, hargs, rfl, rfl, h0, r0⟩ := trodAll_cons hA
  obtain ⟨rfl, rfl, rfl⟩ := trodAll_nil r0
  obtain rfl : args = #[v0] := by cases args; simp_all
  obtain ⟨rfl, rfl⟩ := trodVars_none hV
  have k0 := h0
  have lt0 : ∀ x ∈ p0, x.block < W.heap.size := by obtain ⟨m, hm⟩ := k0; exact DataW.trod_lt m _ _ _ hm
  obtain ⟨a0, len0, cap0, rfl⟩ := okWide_slice Try.underlying22 (hval 0 22 v0 rfl rfl)
  have w0 := code_of Try.underlying22 Try.underlying5 (by kernel_rfl) h0
  clear hA0 hval0
  refine (FnSplitCurve_walk W _ _ _ w0).mono fun e W' ⟨he, bel⟩ => ?_
  subst he
  exact ⟨_, rfl, _, _, _, [], _, [], hW', trodAll_mk1 (shut_bool Try.underlying4 _), (trodAll_cons_mk (Below.trod FnSplitCurve_laid (by kernel_rfl) (of_decide_eq_true (by kernel_rfl)) k0 bel lt0) trodAll_mk0), rfl, bel.frame _, fun h => by cases h⟩

theorem FnSplitCurve_over : Rows.fnSplitCurveRow.holds Try.pinned (OpenSpec.ofChange Rows.fnSplitCurveSpec) :=
  OpenClaim.holds_of_wide 10 Try.f10 rfl rfl rfl rfl rfl rfl rfl ⟨rfl, rfl, rfl, rfl, rfl⟩ rfl rfl rfl rfl rfl (by kernel_rfl) Try.func10 (by kernel_rfl)
    (of_decide_eq_true (by kernel_rfl)) (by unfold Func.isWrapper; first | (rw [if_pos (by decide +kernel)]; kernel_rfl) | (rw [if_neg (by decide +kernel)]; exact ⟨rfl, rfl⟩))
    (fun os started H enc _ => FnSplitCurve_lifted os started H enc)

/-- The statement. -/
theorem FnSplitCurve_holds : Rows.FnSplitCurveSaid := FnSplitCurve_over
#print axioms FnSplitCurve_holds

end Go.Proofs.Ytmddkhincpibhaa
