/-
  FnFlattenCurveBox holds. Whatever curve, limit and depth the generator gives. No condition.
-/
import Derived.Test.YtmddkhincpibhaaDrawS
import Derived.Test.YtmddkhincpibhaaFlat
import Derived.Test.YtmddkhincpibhaaLPts
import Derived.Test.YtmddkhincpibhaaCode
import Derived.Test.YtmddkhincpibhaaBlk
import Derived.ProofKit
import Derived.OpenShut
import Derived.ShutString
import Derived.ChangeOld
import Derived.Lib.SmallJoins
namespace Go.Proofs.Ytmddkhincpibhaa
open Go.RowKit Pl Go.ChangeShapes Go.WideShapes Go.ChangeAt
open Go.ChangeMaps (open_string shut_string)

set_option linter.unusedSimpArgs false
set_option linter.unusedVariables false

set_option maxRecDepth 100000 in
set_option maxHeartbeats 4000000 in
theorem FnFlattenCurveBox_walk (w : World) (A : Option Addr) (n c : Nat) (h : Code w A n c) :
    Calls Try.prog 3 #[.slice A n c] w fun e w' => e = .returned (.bool true) ∧ Below w.heap.size w w' := by
  by_cases hn : 1048576 < n
  · go_enter Try.func3, Try.ntmps3
    go_wp2
    go_ret
    exact ⟨rfl, by (repeat' (first | (with_reducible exact Below.refl _ _) | (with_reducible assumption) | (with_reducible refine Below.alloc ?_ ?_ _) | (with_reducible refine below_drewN ?_ _) | (with_reducible refine Below.drew ?_) | (with_reducible refine Below.setCell ?_ ?_ _) | (with_reducible refine below_call (by assumption) ?_ ?_) | go_size))⟩
  · go_enter Try.func3, Try.ntmps3
    go_wp2_with fail
    refine (DrawFlattenCurve_any (h.below (by (repeat' (first | (with_reducible exact Below.refl _ _) | (with_reducible assumption) | (with_reducible refine Below.alloc ?_ ?_ _) | (with_reducible refine below_drewN ?_ _) | (with_reducible refine Below.drew ?_) | (with_reducible refine Below.setCell ?_ ?_ _) | (with_reducible refine below_call (by assumption) ?_ ?_) | go_size))))).mono ?_
    rintro e wd ⟨v0, l, lim, dep, rfl, hl5, hlim, hdep, hv, hb⟩
    have hz0 := hb.size
    obtain ⟨A0, c0, rfl, hlc, hcm, hP, _⟩ := hv.form
    have HP := Lib.hid hP
    obtain ⟨n0, hn0⟩ : ∃ n0, l.length = n0 := ⟨_, rfl⟩
    have HL := Lib.hid hn0
    clear hv hP
    rw [hn0] at HP hl5 hlc ⊢
    clear hn0
    obtain ⟨m, hm⟩ : ∃ m, flatR l lim dep = m := ⟨_, rfl⟩
    have hm17 : m.length ≤ 17 := by rw [← hm]; exact flatR_len l lim dep
    have H1 := Lib.hid hm
    clear hm
    go_wp2_with fail
    refine (FlattenCurve_eq c0 HP.out (by omega) (Hid.out (by with_reducible assumption))).mono ?_
    rintro e wa ⟨v1, rfl, ho1, hba⟩
    have hza := hba.size
    obtain ⟨A1, c1, rfl, hc1, hm1, hP1, _⟩ := ho1.form
    have HP1 := Lib.hid hP1
    clear ho1 hP1
    go_wp2_with fail
    refine (sFlattenCurve_eq c0 (HP.out.below hba) (by omega) (Hid.out (by with_reducible assumption))).mono ?_
    rintro e wb ⟨v2, rfl, ho2, hbb⟩
    have hzb := hbb.size
    obtain ⟨A2, c2, rfl, _, _, hP2, _⟩ := ho2.form
    have HP2 := Lib.hid hP2
    clear ho2 hP2
    obtain ⟨nm, hnm⟩ : ∃ n0, m.length = n0 := ⟨_, rfl⟩
    have HM := Lib.hid hnm
    rw [hnm] at HP1 HP2 hm17 hc1 ⊢
    clear hnm
    go_wp2_with fail
    refine (equalPoints_same c1 c2 (HP1.out.below hbb) HP2.out (by omega)).mono ?_
    rintro e wc ⟨rfl, hbc⟩
    have hzc := hbc.size
    have HPc : Hid (IsPts wc A0 n0 l) := Lib.hid (((HP.out.below hba).below hbb).below hbc)
    have HMc : Hid (IsPts wc A1 nm m) := Lib.hid ((HP1.out.below hbb).below hbc)
    rcases Nat.eq_zero_or_pos nm with hz | hz
    · subst hz
      go_wp2_with fail
      refine (sFlattenCurve_eq c0 HPc.out (by omega) (Hid.out (by with_reducible assumption))).mono ?_
      rintro e wd2 ⟨v3, rfl, ho3, hbd⟩
      have hzd := hbd.size
      obtain ⟨A3, c3, rfl, _, _, hP3, _⟩ := ho3.form
      rw [HM.out] at hP3 ⊢
      have HP3 := Lib.hid hP3
      clear ho3 hP3
      go_wp2_with fail
      refine (equalPoints_same c1 c3 (HMc.out.below hbd) HP3.out (by omega)).mono ?_
      rintro e we ⟨rfl, hbe⟩
      have hze := hbe.size
      go_wp2
      go_ret
      exact ⟨rfl, by (repeat' (first | (with_reducible exact Below.refl _ _) | (with_reducible assumption) | (with_reducible refine Below.alloc ?_ ?_ _) | (with_reducible refine below_drewN ?_ _) | (with_reducible refine Below.drew ?_) | (with_reducible refine Below.setCell ?_ ?_ _) | (with_reducible refine below_call (by assumption) ?_ ?_) | (with_reducible refine below_grown (by assumption) ?_ ?_ ?_) | omega | (simp; done) | (simp; omega)))⟩
    · have hok : flatOk l lim dep = true := by
        rcases Bool.eq_false_or_eq_true (flatOk l lim dep) with h' | h'
        · exact h'
        · have e : m = [] := by rw [← H1.out, flatR, h']; rfl
          have := HM.out; rw [e] at this; simp at this; omega
      have hok' := hok
      simp only [flatOk, Bool.and_eq_true, inB_true] at hok'
      obtain ⟨hcv, ⟨l0, l1⟩, d0, d4⟩ := hok'
      obtain ⟨p1, p2, p3⟩ := curveB_parts hcv
      rw [HL.out] at p1 p2
      obtain ⟨D, rfl⟩ := Int.eq_ofNat_of_zero_le d0
      have hme : m = flatC lim D l := by rw [← H1.out, flatR, if_pos hok]; rfl
      have HME := Lib.hid hme
      have HCV := Lib.hid hcv
      have HOK := Lib.hid hok
      have eb0 : decide ((nm : Int) = 0) = false := by simp; omega
      have eb1 : ((nm : Int) == 0) = false := by simp; omega
      have hnm0 : ¬ (nm : Int) = 0 := by omega
      clear hme hcv hok p3 d0 hdep hlim hl5
      have hrv := (curveB_parts HCV.out).2.2
      have hin : ∀ i, i < l.length → inBx (bbx l (n0 - 1)) (pt l i) := by have := inBx_bbx (l := l); rw [HL.out] at this ⊢; exact this
      have hin2 : ∀ {B : Bx}, (∀ i, i < l.length → inBx B (pt l i)) → ∀ i, i < m.length → inBx B (pt m i) := fun {B} hB => by
        rw [HME.out]; exact flatC_in (by rw [HL.out]; omega) hB
      have hlv : validL m = true := by
        rw [validL_iff] at hrv ⊢
        exact ⟨by rw [HM.out]; omega, hin2 hrv.2⟩
      have hins := bbx_inside (b := bbx l (n0 - 1)) (l := m) (hin2 hin) (nm - 1) (by rw [HM.out]; omega)
      have hb1 : boxOk l = true := by rw [boxOk, hrv]; have := HL.out; cases l <;> simp at this ⊢; omega
      have hb2 : boxOk m = true := by rw [boxOk, hlv]; have := HM.out; cases m <;> simp at this ⊢; omega
      have hx1 : boxR l = bbx l (n0 - 1) := by rw [boxR, if_pos hb1, HL.out]
      have hx2 : boxR m = bbx m (nm - 1) := by rw [boxR, if_pos hb2, HM.out]
      obtain ⟨⟨L, T, R, B⟩, hbx⟩ : ∃ x, bbx l (n0 - 1) = x := ⟨_, rfl⟩
      obtain ⟨⟨L', T', R', B'⟩, hbx2⟩ : ∃ x, bbx m (nm - 1) = x := ⟨_, rfl⟩
      rw [hbx, hbx2] at hins
      obtain ⟨i1, i2, i3, i4⟩ := hins
      simp only at i1 i2 i3 i4
      have K1 := Lib.hid hb1
      have K2 := Lib.hid hb2
      have K3 := Lib.hid (hx1.trans hbx)
      have K4 := Lib.hid (hx2.trans hbx2)
      have g1 : decide (L ≤ L') = true := by simpa using i1
      have g2 : decide (R' ≤ R) = true := by simpa using i2
      have g3 : decide (T ≤ T') = true := by simpa using i3
      have g4 : decide (B' ≤ B) = true := by simpa using i4
      clear hrv hin hin2 hlv hb1 hb2 hx1 hx2 hbx hbx2
      go_wp2_with fail
      refine (BoxOf_eq c0 HPc.out (by omega) (Hid.out (by with_reducible assumption)) (Hid.out (by with_reducible assumption))).mono ?_
      rintro e ws ⟨rfl, hbs⟩
      have hzs := hbs.size
      go_wp2_with fail
      refine (BoxOf_eq c1 (HMc.out.below (by (repeat' (first | (with_reducible exact Below.refl _ _) | (with_reducible assumption) | (with_reducible refine Below.alloc ?_ ?_ _) | (with_reducible refine below_drewN ?_ _) | (with_reducible refine Below.drew ?_) | (with_reducible refine Below.setCell ?_ ?_ _) | (with_reducible refine below_call (by assumption) ?_ ?_) | (with_reducible refine below_grown (by assumption) ?_ ?_ ?_) | omega | (simp; done) | (simp; omega))))) (by omega) (Hid.out (by with_reducible assumption)) (Hid.out (by with_reducible assumption))).mono ?_
      rintro e wt ⟨rfl, hbt⟩
      have hzt := hbt.size
      simp at hzt
      have hgb := blk_below (blk_new ws _) hbt
      have hlg := blk_lt hgb
      have q0 : wt.cell? ⟨ws.heap.size, 0, none⟩ = some (.int .i64 L) := blk_cell hgb 0
      have q1 : wt.cell? ⟨ws.heap.size, 1, none⟩ = some (.int .i64 T) := blk_cell hgb 1
      have q2 : wt.cell? ⟨ws.heap.size, 2, none⟩ = some (.int .i64 R) := blk_cell hgb 2
      have q3 : wt.cell? ⟨ws.heap.size, 3, none⟩ = some (.int .i64 B) := blk_cell hgb 3
      clear hgb
      go_wp2
      go_ret
      exact ⟨rfl, by (repeat' (first | (with_reducible exact Below.refl _ _) | (with_reducible assumption) | (with_reducible refine Below.alloc ?_ ?_ _) | (with_reducible refine below_drewN ?_ _) | (with_reducible refine Below.drew ?_) | (with_reducible refine Below.setCell ?_ ?_ _) | (with_reducible refine below_call (by assumption) ?_ ?_) | (with_reducible refine below_grown (by assumption) ?_ ?_ ?_) | omega | (simp; done) | (simp; omega)))⟩

theorem FnFlattenCurveBox_own : ownKnob Try.prog.godebug = none := by kernel_rfl
theorem FnFlattenCurveBox_laid : laidOutB Try.prog = true := by kernel_rfl

set_option maxRecDepth 100000 in
theorem FnFlattenCurveBox_lifted (os : Os) (started : os.Started) (H : Type) (enc : TypeId × Value → H) :
    ReturnsInHanded {} Try.checked os 3 .any (Rows.fnFlattenCurveBoxSpec.pre6 enc Try.prog Try.f3 Rows.fnFlattenCurveBoxRow.domain false) (Rows.fnFlattenCurveBoxSpec.post enc Try.prog Try.f3 false true false false) := by
  refine returnsInHanded_of_change (C := Try.checked) FnFlattenCurveBox_own started (by kernel_rfl) Try.func3
    (ChangeSpec.witness6 (enc := enc) (C := Try.checked) false ⟨#[], #[.slice none 0 0], []⟩ 8 (by kernel_rfl) (by kernel_rfl) (by kernel_rfl) (by kernel_rfl)) ?_
  intro W base args ds gs before hval0 hW hcnd _
  have hval : ∀ (j : Nat) t v, Try.f3.params[j]? = some t → args[j]? = some v → Value.okWide Try.prog W .any base t v := hval0
  have hW' := hW
  obtain ⟨p, q, hA0, hV, rfl, hfz, hnd⟩ := hW
  have hA : DataW.TrodAll enc Try.prog W 0 (fun _ => true) true Try.f3.params.toList args.toList ds p := hA0
  rw [Try.params3] at hA hval
  obtain ⟨v0, vs0, d0, ds0, p0, q0, hargs, rfl, rfl, h0, r0⟩ := trodAll_cons hA
  obtain ⟨rfl, rfl, rfl⟩ := trodAll_nil r0
  obtain rfl : args = #[v0] := by cases args; simp_all
  obtain ⟨rfl, rfl⟩ := trodVars_none hV
  have k0 := h0
  have lt0 : ∀ x ∈ p0, x.block < W.heap.size := by obtain ⟨m, hm⟩ := k0; exact DataW.trod_lt m _ _ _ hm
  obtain ⟨a0, len0, cap0, rfl⟩ := okWide_slice Try.underlying22 (hval 0 22 v0 rfl rfl)
  have w0 := code_of Try.underlying22 Try.underlying5 (by kernel_rfl) h0
  clear hA0 hval0
  refine (FnFlattenCurveBox_walk W _ _ _ w0).mono fun e W' ⟨he, bel⟩ => ?_
  subst he
  exact ⟨_, rfl, _, _, _, [], _, [], hW', trodAll_mk1 (shut_bool Try.underlying4 _), (trodAll_cons_mk (Below.trod FnFlattenCurveBox_laid (by kernel_rfl) (of_decide_eq_true (by kernel_rfl)) k0 bel lt0) trodAll_mk0), rfl, bel.frame _, fun h => by cases h⟩

theorem FnFlattenCurveBox_over : Rows.fnFlattenCurveBoxRow.holds Try.pinned (OpenSpec.ofChange Rows.fnFlattenCurveBoxSpec) :=
  OpenClaim.holds_of_wide 3 Try.f3 rfl rfl rfl rfl rfl rfl rfl ⟨rfl, rfl, rfl, rfl, rfl⟩ rfl rfl rfl rfl rfl (by kernel_rfl) Try.func3 (by kernel_rfl)
    (of_decide_eq_true (by kernel_rfl)) (by unfold Func.isWrapper; first | (rw [if_pos (by decide +kernel)]; kernel_rfl) | (rw [if_neg (by decide +kernel)]; exact ⟨rfl, rfl⟩))
    (fun os started H enc _ => FnFlattenCurveBox_lifted os started H enc)

/-- The statement. -/
theorem FnFlattenCurveBox_holds : Rows.FnFlattenCurveBoxSaid := FnFlattenCurveBox_over
#print axioms FnFlattenCurveBox_holds

end Go.Proofs.Ytmddkhincpibhaa
