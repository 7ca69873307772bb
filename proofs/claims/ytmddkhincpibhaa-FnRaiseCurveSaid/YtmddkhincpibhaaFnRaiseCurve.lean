/-
  FnRaiseCurve holds. Whatever curve the generator gives. No condition.
-/
import Derived.Test.YtmddkhincpibhaaDrawC
import Derived.Test.YtmddkhincpibhaaRaise
import Derived.Test.YtmddkhincpibhaaLPts
import Derived.Test.YtmddkhincpibhaaCode
import Derived.ProofKit
import Derived.OpenShut
import Derived.ShutString
import Derived.ChangeOld
import Derived.Lib.SmallJoins
namespace Go.Proofs.Ytmddkhincpibhaa
open Go.RowKit Pl Go.ChangeShapes Go.WideShapes Go.ChangeAt
open Go.ChangeMaps (open_string shut_string)

set_option linter.unusedSimpArgs false
set_option linter.unusedVariables false

set_option maxHeartbeats 400000 in
theorem DrawRaiseCurve_any {A : Option Addr} {n c : Nat} {w : World} (h : Code w A n c) : Calls Try.prog 27 #[.slice A n c] w (fun e w' => ∃ v l, e = .returned v ∧ l.length ≤ 5 ∧ OwnP w.heap.size w' v l ∧ Below w.heap.size w w') := by
  go_enter Try.func27, Try.ntmps27
  go_wp2_with fail
  refine (newReader_any (h.below (by (repeat' (first | (with_reducible exact Below.refl _ _) | (with_reducible assumption) | (with_reducible refine Below.alloc ?_ ?_ _) | (with_reducible refine below_drewN ?_ _) | (with_reducible refine Below.drew ?_) | (with_reducible refine Below.setCell ?_ ?_ _) | (with_reducible refine below_call (by assumption) ?_ ?_) | go_size))))).mono ?_
  rintro e w1 ⟨g, A', n', c', z, rfl, hg0, hr, hb⟩
  have hz := hb.size
  go_wp2_with fail
  refine (anyCurve_any hr (by omega)).mono ?_
  rintro e w2 ⟨v, l, rfl, hl, hv, hr, hg⟩
  go_wp2
  go_ret
  exact ⟨v, l, rfl, hl, hv.lower (by omega), by (repeat' (first | (with_reducible exact Below.refl _ _) | (with_reducible assumption) | (with_reducible refine Below.alloc ?_ ?_ _) | (with_reducible refine below_drewN ?_ _) | (with_reducible refine Below.drew ?_) | (with_reducible refine Below.setCell ?_ ?_ _) | (with_reducible refine below_call (by assumption) ?_ ?_) | (with_reducible refine below_grown (by assumption) ?_ ?_ ?_) | omega | (simp; done) | (simp; omega)))⟩

set_option maxRecDepth 100000 in
set_option maxHeartbeats 4000000 in
theorem FnRaiseCurve_walk (w : World) (A : Option Addr) (n c : Nat) (h : Code w A n c) :
    Calls Try.prog 8 #[.slice A n c] w fun e w' => e = .returned (.bool true) ∧ Below w.heap.size w w' := by
  by_cases hn : 1048576 < n
  · go_enter Try.func8, Try.ntmps8
    go_wp2
    go_ret
    exact ⟨rfl, by (repeat' (first | (with_reducible exact Below.refl _ _) | (with_reducible assumption) | (with_reducible refine Below.alloc ?_ ?_ _) | (with_reducible refine below_drewN ?_ _) | (with_reducible refine Below.drew ?_) | (with_reducible refine Below.setCell ?_ ?_ _) | (with_reducible refine below_call (by assumption) ?_ ?_) | go_size))⟩
  · go_enter Try.func8, Try.ntmps8
    go_wp2_with fail
    refine (DrawRaiseCurve_any (h.below (by (repeat' (first | (with_reducible exact Below.refl _ _) | (with_reducible assumption) | (with_reducible refine Below.alloc ?_ ?_ _) | (with_reducible refine below_drewN ?_ _) | (with_reducible refine Below.drew ?_) | (with_reducible refine Below.setCell ?_ ?_ _) | (with_reducible refine below_call (by assumption) ?_ ?_) | go_size))))).mono ?_
    rintro e wd ⟨v0, l, rfl, hl5, hv, hb⟩
    have hz0 := hb.size
    obtain ⟨A0, c0, rfl, hlc, hcm, hP, _⟩ := hv.form
    have HP := Lib.hid hP
    obtain ⟨n0, hn0⟩ : ∃ n0, l.length = n0 := ⟨_, rfl⟩
    have HL := Lib.hid hn0
    clear hv hP
    rw [hn0] at HP hl5 hlc ⊢
    clear hn0
    obtain ⟨ok, hok⟩ : ∃ v, raiseOk l = v := ⟨_, rfl⟩
    obtain ⟨m, hm⟩ : ∃ m, raiseR l = m := ⟨_, rfl⟩
    have hm4 : m.length ≤ 4 := by rw [← hm, raiseR]; split <;> simp [raiseL]
    have H1 := Lib.hid hok
    have H2 := Lib.hid hm
    clear hok hm
    go_wp2_with fail
    refine (RaiseCurve_eq c0 HP.out (by omega) (Hid.out (by with_reducible assumption)) (Hid.out (by with_reducible assumption))).mono ?_
    rintro e wa ⟨v1, rfl, ho1, hba⟩
    have hza := hba.size
    obtain ⟨A1, c1, rfl, _, _, hP1, _⟩ := ho1.form
    have HP1 := Lib.hid hP1
    clear ho1 hP1
    go_wp2_with fail
    refine (sRaiseCurve_eq c0 (HP.out.below hba) (by omega) (Hid.out (by with_reducible assumption)) (Hid.out (by with_reducible assumption))).mono ?_
    rintro e wb ⟨v2, rfl, ho2, hbb⟩
    have hzb := hbb.size
    obtain ⟨A2, c2, rfl, _, _, hP2, _⟩ := ho2.form
    have HP2 := Lib.hid hP2
    clear ho2 hP2
    obtain ⟨m1, hm1⟩ : ∃ n0, m.length = n0 := ⟨_, rfl⟩
    have HM := Lib.hid hm1
    rw [hm1] at HP1 HP2 hm4 ⊢
    clear hm1
    go_wp2_with fail
    refine (equalPoints_same c1 c2 (HP1.out.below hbb) HP2.out (by omega)).mono ?_
    rintro e wc ⟨rfl, hbc⟩
    have hzc := hbc.size
    cases ok with
    | false =>
      go_wp2_with fail
      refine (equalPoints_same c1 c2 ((HP1.out.below hbb).below hbc) (HP2.out.below hbc) (by omega)).mono ?_
      rintro e we ⟨rfl, hbe⟩
      have hze := hbe.size
      go_wp2
      go_ret
      exact ⟨rfl, by (repeat' (first | (with_reducible exact Below.refl _ _) | (with_reducible assumption) | (with_reducible refine Below.alloc ?_ ?_ _) | (with_reducible refine below_drewN ?_ _) | (with_reducible refine Below.drew ?_) | (with_reducible refine Below.setCell ?_ ?_ _) | (with_reducible refine below_call (by assumption) ?_ ?_) | (with_reducible refine below_grown (by assumption) ?_ ?_ ?_) | omega | (simp; done) | (simp; omega)))⟩
    | true =>
      have hr := H1.out
      have hmr : m = raiseL l := by rw [← H2.out, raiseR, if_pos hr]
      simp only [raiseOk, Bool.and_eq_true, decide_eq_true_eq] at hr
      obtain ⟨hr3, hrv⟩ := hr
      obtain rfl : n0 = 3 := by rw [← HL.out]; exact hr3
      have hml : m.length = 4 := by rw [hmr]; rfl
      obtain rfl : m1 = 4 := by rw [← HM.out]; exact hml
      have hmv : validL m = true := by
        rw [validL_iff] at hrv ⊢
        rw [hmr]
        exact ⟨by simp [raiseL], raise_in hr3 hrv.2⟩
      have hin := bbx_inside (b := bbx l 2) (l := m) (by rw [hmr]; exact raise_in hr3 (by have := inBx_bbx (l := l); rw [hr3] at this; exact fun i hi => this i (by omega))) 3 (by omega)
      have hb1 : boxOk l = true := by rw [boxOk, hrv]; cases l <;> simp at hr3 ⊢
      have hb2 : boxOk m = true := by rw [boxOk, hmv]; cases m <;> simp at hml ⊢
      have hx1 : boxR l = bbx l 2 := by rw [boxR, if_pos hb1, hr3]
      have hx2 : boxR m = bbx m 3 := by rw [boxR, if_pos hb2, hml]
      obtain ⟨⟨L, T, R, B⟩, hbx⟩ : ∃ x, bbx l 2 = x := ⟨_, rfl⟩
      obtain ⟨⟨L2, T2, R2, B2⟩, hbx2⟩ : ∃ x, bbx m 3 = x := ⟨_, rfl⟩
      rw [hbx, hbx2] at hin
      obtain ⟨i1, i2, i3, i4⟩ := hin
      simp only at i1 i2 i3 i4
      have K1 := Lib.hid hb1
      have K2 := Lib.hid hb2
      have K3 := Lib.hid (hx1.trans hbx)
      have K4 := Lib.hid (hx2.trans hbx2)
      have M0 : Hid (px m 0 = px l 0 ∧ py m 0 = py l 0 ∧ px m 3 = px l 2 ∧ py m 3 = py l 2) := Lib.hid (by rw [hmr]; exact ⟨rfl, rfl, rfl, rfl⟩)
      have g1 : decide (L ≤ L2) = true := by simpa using i1
      have g2 : decide (R2 ≤ R) = true := by simpa using i2
      have g3 : decide (T ≤ T2) = true := by simpa using i3
      have g4 : decide (B2 ≤ B) = true := by simpa using i4
      clear hmr hr3 hrv hml hmv hb1 hb2 hx1 hx2 hbx hbx2
      have HPc : Hid (IsPts wc A0 3 l) := Lib.hid (((HP.out.below hba).below hbb).below hbc)
      go_wp2_with fail
      refine (BoxOf_eq c0 HPc.out (by omega) (Hid.out (by with_reducible assumption)) (Hid.out (by with_reducible assumption))).mono ?_
      rintro e ws ⟨rfl, hbs⟩
      have hzs := hbs.size
      go_wp2_with fail
      refine (BoxOf_eq c1 (HP1.out.below (by (repeat' (first | (with_reducible exact Below.refl _ _) | (with_reducible assumption) | (with_reducible refine Below.alloc ?_ ?_ _) | (with_reducible refine below_drewN ?_ _) | (with_reducible refine Below.drew ?_) | (with_reducible refine Below.setCell ?_ ?_ _) | (with_reducible refine below_call (by assumption) ?_ ?_) | (with_reducible refine below_grown (by assumption) ?_ ?_ ?_) | omega | (simp; done) | (simp; omega))))) (by omega) (Hid.out (by with_reducible assumption)) (Hid.out (by with_reducible assumption))).mono ?_
      rintro e wt ⟨rfl, hbt⟩
      have hzt := hbt.size
      simp at hzt
      have hgb := blk_below (blk_new ws _) hbt
      have hlg := blk_lt hgb
      have q0 : wt.cell? ⟨ws.heap.size, 0, none⟩ = some (.int .i64 L) := blk_cell hgb 0
      have q1 : wt.cell? ⟨ws.heap.size, 1, none⟩ = some (.int .i64 T) := blk_cell hgb 1
      have q2 : wt.cell? ⟨ws.heap.size, 2, none⟩ = some (.int .i64 R) := blk_cell hgb 2
      have q3 : wt.cell? ⟨ws.heap.size, 3, none⟩ = some (.int .i64 B) := blk_cell hgb 3
      clear hgb
      have HLt : Hid (IsPts wt A0 3 l) := Lib.hid (HPc.out.below (by (repeat' (first | (with_reducible exact Below.refl _ _) | (with_reducible assumption) | (with_reducible refine Below.alloc ?_ ?_ _) | (with_reducible refine below_drewN ?_ _) | (with_reducible refine Below.drew ?_) | (with_reducible refine Below.setCell ?_ ?_ _) | (with_reducible refine below_call (by assumption) ?_ ?_) | (with_reducible refine below_grown (by assumption) ?_ ?_ ?_) | omega | (simp; done) | (simp; omega)))))
      have HMt : Hid (IsPts wt A1 4 m) := Lib.hid (HP1.out.below (by (repeat' (first | (with_reducible exact Below.refl _ _) | (with_reducible assumption) | (with_reducible refine Below.alloc ?_ ?_ _) | (with_reducible refine below_drewN ?_ _) | (with_reducible refine Below.drew ?_) | (with_reducible refine Below.setCell ?_ ?_ _) | (with_reducible refine below_call (by assumption) ?_ ?_) | (with_reducible refine below_grown (by assumption) ?_ ?_ ?_) | omega | (simp; done) | (simp; omega)))))
      obtain ⟨b, o, rfl, hbl, d0, d1⟩ := HLt.out.at_ (k := 0) (by omega)
      obtain ⟨b', o', e, _, d4, d5⟩ := HLt.out.at_ (k := 2) (by omega)
      cases e
      obtain ⟨b1, o1, rfl, hbl1, f0, f1⟩ := HMt.out.at_ (k := 0) (by omega)
      obtain ⟨b', o', e, _, f6, f7⟩ := HMt.out.at_ (k := 3) (by omega)
      cases e
      rw [M0.out.1] at f0
      rw [M0.out.2.1] at f1
      rw [M0.out.2.2.1] at f6
      rw [M0.out.2.2.2] at f7
      simp only [Nat.zero_mul, Nat.add_zero, Nat.reduceMul, Nat.add_assoc, Nat.reduceAdd] at d0 d1 d4 d5 f0 f1 f6 f7
      obtain ⟨x0, hx0⟩ : ∃ a, px l 0 = a := ⟨_, rfl⟩
      obtain ⟨y0, hy0⟩ : ∃ a, py l 0 = a := ⟨_, rfl⟩
      obtain ⟨x2, hx2⟩ : ∃ a, px l 2 = a := ⟨_, rfl⟩
      obtain ⟨y2, hy2⟩ : ∃ a, py l 2 = a := ⟨_, rfl⟩
      rw [hx0] at d0 f0
      rw [hy0] at d1 f1
      rw [hx2] at d4 f6
      rw [hy2] at d5 f7
      clear hx0 hy0 hx2 hy2
      go_wp2_with fail
      go_quiet (fail)
      go_wp2
      go_ret
      exact ⟨rfl, by (repeat' (first | (with_reducible exact Below.refl _ _) | (with_reducible assumption) | (with_reducible refine Below.alloc ?_ ?_ _) | (with_reducible refine below_drewN ?_ _) | (with_reducible refine Below.drew ?_) | (with_reducible refine Below.setCell ?_ ?_ _) | (with_reducible refine below_call (by assumption) ?_ ?_) | (with_reducible refine below_grown (by assumption) ?_ ?_ ?_) | omega | (simp; done) | (simp; omega)))⟩

theorem FnRaiseCurve_own : ownKnob Try.prog.godebug = none := by kernel_rfl
theorem FnRaiseCurve_laid : laidOutB Try.prog = true := by kernel_rfl

set_option maxRecDepth 100000 in
theorem FnRaiseCurve_lifted (os : Os) (started : os.Started) (H : Type) (enc : TypeId × Value → H) :
    ReturnsInHanded {} Try.checked os 8 .any (Rows.fnRaiseCurveSpec.pre6 enc Try.prog Try.f8 Rows.fnRaiseCurveRow.domain false) (Rows.fnRaiseCurveSpec.post enc Try.prog Try.f8 false true false false) := by
  refine returnsInHanded_of_change (C := Try.checked) FnRaiseCurve_own started (by kernel_rfl) Try.func8
    (ChangeSpec.witness6 (enc := enc) (C := Try.checked) false ⟨#[], #[.slice none 0 0], []⟩ 8 (by kernel_rfl) (by kernel_rfl) (by kernel_rfl) (by kernel_rfl)) ?_
  intro W base args ds gs before hval0 hW hcnd _
  have hval : ∀ (j : Nat) t v, Try.f8.params[j]? = some t → args[j]? = some v → Value.okWide Try.prog W .any base t v := hval0
  have hW' := hW
  obtain ⟨p, q, hA0, hV, rfl, hfz, hnd⟩ := hW
  have hA : DataW.TrodAll enc Try.prog W 0 (fun _ => true) true Try.f8.params.toList args.toList ds p := hA0
  rw [Try.params8] at hA hval
  obtain ⟨v0, vs0, d0, ds0, p0, q0, hargs, rfl, rfl, h0, r0⟩ := trodAll_cons hA
  obtain ⟨rfl, rfl, rfl⟩ := trodAll_nil r0
  obtain rfl : args = #[v0] := by cases args; simp_all
  obtain ⟨rfl, rfl⟩ := trodVars_none hV
  have k0 := h0
  have lt0 : ∀ x ∈ p0, x.block < W.heap.size := by obtain ⟨m, hm⟩ := k0; exact DataW.trod_lt m _ _ _ hm
  obtain ⟨a0, len0, cap0, rfl⟩ := okWide_slice Try.underlying22 (hval 0 22 v0 rfl rfl)
  have w0 := code_of Try.underlying22 Try.underlying5 (by kernel_rfl) h0
  clear hA0 hval0
  refine (FnRaiseCurve_walk W _ _ _ w0).mono fun e W' ⟨he, bel⟩ => ?_
  subst he
  exact ⟨_, rfl, _, _, _, [], _, [], hW', trodAll_mk1 (shut_bool Try.underlying4 _), (trodAll_cons_mk (Below.trod FnRaiseCurve_laid (by kernel_rfl) (of_decide_eq_true (by kernel_rfl)) k0 bel lt0) trodAll_mk0), rfl, bel.frame _, fun h => by cases h⟩

theorem FnRaiseCurve_over : Rows.fnRaiseCurveRow.holds Try.pinned (OpenSpec.ofChange Rows.fnRaiseCurveSpec) :=
  OpenClaim.holds_of_wide 8 Try.f8 rfl rfl rfl rfl rfl rfl rfl ⟨rfl, rfl, rfl, rfl, rfl⟩ rfl rfl rfl rfl rfl (by kernel_rfl) Try.func8 (by kernel_rfl)
    (of_decide_eq_true (by kernel_rfl)) (by unfold Func.isWrapper; first | (rw [if_pos (by decide +kernel)]; kernel_rfl) | (rw [if_neg (by decide +kernel)]; exact ⟨rfl, rfl⟩))
    (fun os started H enc _ => FnRaiseCurve_lifted os started H enc)

/-- The statement. -/
theorem FnRaiseCurve_holds : Rows.FnRaiseCurveSaid := FnRaiseCurve_over
#print axioms FnRaiseCurve_holds

end Go.Proofs.Ytmddkhincpibhaa
