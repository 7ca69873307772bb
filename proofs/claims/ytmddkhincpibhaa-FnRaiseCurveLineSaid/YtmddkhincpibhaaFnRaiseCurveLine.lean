/-
  FnRaiseCurveLine holds. Whatever curve the generator gives. No condition.
-/
import Derived.Test.YtmddkhincpibhaaDrawC
import Derived.Test.YtmddkhincpibhaaRaise
import Derived.Test.YtmddkhincpibhaaLPts
import Derived.Test.YtmddkhincpibhaaCode
import Derived.ProofKit
import Derived.OpenShut
import Derived.ShutString
import Derived.ChangeOld
import Derived.Lib.SmallJoins
namespace Go.Proofs.Ytmddkhincpibhaa
open Go.RowKit Pl Go.ChangeShapes Go.WideShapes Go.ChangeAt
open Go.ChangeMaps (open_string shut_string)

set_option linter.unusedSimpArgs false
set_option linter.unusedVariables false

set_option maxHeartbeats 400000 in
theorem DrawRaiseCurve_any {A : Option Addr} {n c : Nat} {w : World} (h : Code w A n c) : Calls Try.prog 27 #[.slice A n c] w (fun e w' => ∃ v l, e = .returned v ∧ l.length ≤ 5 ∧ OwnP w.heap.size w' v l ∧ Below w.heap.size w w') := by
  go_enter Try.func27, Try.ntmps27
  go_wp2_with fail
  refine (newReader_any (h.below (by (repeat' (first | (with_reducible exact Below.refl _ _) | (with_reducible assumption) | (with_reducible refine Below.alloc ?_ ?_ _) | (with_reducible refine below_drewN ?_ _) | (with_reducible refine Below.drew ?_) | (with_reducible refine Below.setCell ?_ ?_ _) | (with_reducible refine below_call (by assumption) ?_ ?_) | go_size))))).mono ?_
  rintro e w1 ⟨g, A', n', c', z, rfl, hg0, hr, hb⟩
  have hz := hb.size
  go_wp2_with fail
  refine (anyCurve_any hr (by omega)).mono ?_
  rintro e w2 ⟨v, l, rfl, hl, hv, hr, hg⟩
  go_wp2
  go_ret
  exact ⟨v, l, rfl, hl, hv.lower (by omega), by (repeat' (first | (with_reducible exact Below.refl _ _) | (with_reducible assumption) | (with_reducible refine Below.alloc ?_ ?_ _) | (with_reducible refine below_drewN ?_ _) | (with_reducible refine Below.drew ?_) | (with_reducible refine Below.setCell ?_ ?_ _) | (with_reducible refine below_call (by assumption) ?_ ?_) | (with_reducible refine below_grown (by assumption) ?_ ?_ ?_) | omega | (simp; done) | (simp; omega)))⟩

set_option maxHeartbeats 2000000 in
theorem FnRaiseCurveLine_walk (w : World) (A : Option Addr) (n c : Nat) (h : Code w A n c) :
    Calls Try.prog 6 #[.slice A n c] w fun e w' => e = .returned (.bool true) ∧ Below w.heap.size w w' := by
  by_cases hn : 1048576 < n
  · go_enter Try.func6, Try.ntmps6
    go_wp2
    go_ret
    exact ⟨rfl, by (repeat' (first | (with_reducible exact Below.refl _ _) | (with_reducible assumption) | (with_reducible refine Below.alloc ?_ ?_ _) | (with_reducible refine below_drewN ?_ _) | (with_reducible refine Below.drew ?_) | (with_reducible refine Below.setCell ?_ ?_ _) | (with_reducible refine below_call (by assumption) ?_ ?_) | go_size))⟩
  · go_enter Try.func6, Try.ntmps6
    go_wp2_with fail
    refine (DrawRaiseCurve_any (h.below (by (repeat' (first | (with_reducible exact Below.refl _ _) | (with_reducible assumption) | (with_reducible refine Below.alloc ?_ ?_ _) | (with_reducible refine below_drewN ?_ _) | (with_reducible refine Below.drew ?_) | (with_reducible refine Below.setCell ?_ ?_ _) | (with_reducible refine below_call (by assumption) ?_ ?_) | go_size))))).mono ?_
    rintro e wd ⟨v0, l, rfl, hl5, hv, hb⟩
    have hz0 := hb.size
    obtain ⟨A0, c0, rfl, hlc, hcm, hP, _⟩ := hv.form
    have HP := Lib.hid hP
    obtain ⟨n0, hn0⟩ : ∃ n0, l.length = n0 := ⟨_, rfl⟩
    have HL := Lib.hid hn0
    clear hv hP
    rw [hn0] at HP hl5 hlc ⊢
    clear hn0
    obtain ⟨ok, hok⟩ : ∃ v, raiseOk l = v := ⟨_, rfl⟩
    obtain ⟨m, hm⟩ : ∃ m, raiseR l = m := ⟨_, rfl⟩
    have hm4 : m.length ≤ 4 := by rw [← hm, raiseR]; split <;> simp [raiseL]
    have H1 := Lib.hid hok
    have H2 := Lib.hid hm
    clear hok hm
    go_wp2_with fail
    refine (RaiseCurve_eq c0 HP.out (by omega) (Hid.out (by with_reducible assumption)) (Hid.out (by with_reducible assumption))).mono ?_
    rintro e wa ⟨v1, rfl, ho1, hba⟩
    have hza := hba.size
    obtain ⟨A1, c1, rfl, _, _, hP1, _⟩ := ho1.form
    have HP1 := Lib.hid hP1
    clear ho1 hP1
    go_wp2_with fail
    refine (sRaiseCurve_eq c0 (HP.out.below hba) (by omega) (Hid.out (by with_reducible assumption)) (Hid.out (by with_reducible assumption))).mono ?_
    rintro e wb ⟨v2, rfl, ho2, hbb⟩
    have hzb := hbb.size
    obtain ⟨A2, c2, rfl, _, _, hP2, _⟩ := ho2.form
    have HP2 := Lib.hid hP2
    clear ho2 hP2
    obtain ⟨m1, hm1⟩ : ∃ n0, m.length = n0 := ⟨_, rfl⟩
    have HM := Lib.hid hm1
    rw [hm1] at HP1 HP2 hm4 ⊢
    clear hm1
    go_wp2_with fail
    refine (equalPoints_same c1 c2 (HP1.out.below hbb) HP2.out (by omega)).mono ?_
    rintro e wc ⟨rfl, hbc⟩
    have hzc := hbc.size
    cases ok with
    | false =>
      go_wp2_with fail
      refine (equalPoints_same c1 c2 ((HP1.out.below hbb).below hbc) (HP2.out.below hbc) (by omega)).mono ?_
      rintro e we ⟨rfl, hbe⟩
      have hze := hbe.size
      go_wp2
      go_ret
      exact ⟨rfl, by (repeat' (first | (with_reducible exact Below.refl _ _) | (with_reducible assumption) | (with_reducible refine Below.alloc ?_ ?_ _) | (with_reducible refine below_drewN ?_ _) | (with_reducible refine Below.drew ?_) | (with_reducible refine Below.setCell ?_ ?_ _) | (with_reducible refine below_call (by assumption) ?_ ?_) | (with_reducible refine below_grown (by assumption) ?_ ?_ ?_) | omega | (simp; done) | (simp; omega)))⟩
    | true =>
      have hr := H1.out
      simp only [raiseOk, Bool.and_eq_true, decide_eq_true_eq] at hr
      obtain ⟨hr3, hrv⟩ := hr
      obtain rfl : n0 = 3 := by rw [← HL.out]; exact hr3
      have v1 := validL_at hrv (k := 1) (by omega)
      have HPc : Hid (IsPts wc A0 3 l) := Lib.hid (((HP.out.below hba).below hbb).below hbc)
      obtain ⟨b, o, rfl, hbl, d0, d1⟩ := HPc.out.at_ (k := 1) (by omega)
      obtain ⟨x, hx⟩ : ∃ a, px l 1 = a := ⟨_, rfl⟩
      obtain ⟨y, hy⟩ : ∃ a, py l 1 = a := ⟨_, rfl⟩
      rw [hx] at d0 v1
      rw [hy] at d1 v1
      clear hx hy hr3 hrv
      have K1 : Hid (raiseOk [(x, y), (x, y), (x, y)] = true) := Lib.hid (by simp [raiseOk, validL, ptB_true]; omega)
      have K2 : Hid (raiseR [(x, y), (x, y), (x, y)] = [(x, y), (x, y), (x, y), (x, y)]) := Lib.hid (by rw [raiseR, if_pos K1.out, raise_same])
      go_wp2_with fail
      refine (RaiseCurve_eq (l := [(x, y), (x, y), (x, y)]) 3 ?_ (by omega) (Hid.out (by with_reducible assumption)) (Hid.out (by with_reducible assumption))).mono ?_
      · refine ⟨rfl, fun _ => ⟨_, 0, rfl, blk_lt (blk_new1 _ _ _), fun k hk => ?_⟩⟩
        rcases (show k = 0 ∨ k = 1 ∨ k = 2 by simp at hk; omega) with rfl | rfl | rfl <;> exact ⟨(blk_cell (blk_new1 _ _ _) _).trans rfl, (blk_cell (blk_new1 _ _ _) _).trans rfl⟩
      rintro e wf ⟨v5, rfl, ho5, hbf⟩
      have hzf := hbf.size
      simp at hzf
      obtain ⟨A5, c5, rfl, _, _, hP5, _⟩ := ho5.form
      have HP5 := Lib.hid hP5
      clear ho5 hP5
      have hpb := blk_below (blk_alloc (blk_new wc _) _) hbf
      have hlp := blk_lt hpb
      have p0 : wf.cell? ⟨wc.heap.size, 0, none⟩ = some (.int .i64 x) := blk_cell hpb 0
      have p1 : wf.cell? ⟨wc.heap.size, 1, none⟩ = some (.int .i64 y) := blk_cell hpb 1
      clear hpb
      go_wp2_with fail
      refine (equalPoints_same c5 4 (l := [(x, y), (x, y), (x, y), (x, y)]) (HP5.out.below (by (repeat' (first | (with_reducible exact Below.refl _ _) | (with_reducible assumption) | (with_reducible refine Below.alloc ?_ ?_ _) | (with_reducible refine below_drewN ?_ _) | (with_reducible refine Below.drew ?_) | (with_reducible refine Below.setCell ?_ ?_ _) | (with_reducible refine below_call (by assumption) ?_ ?_) | (with_reducible refine below_grown (by assumption) ?_ ?_ ?_) | omega | (simp; done) | (simp; omega))))) ?_ (by simp)).mono ?_
      · refine ⟨rfl, fun _ => ⟨_, 0, rfl, blk_lt (blk_new _ _), fun k hk => ?_⟩⟩
        rcases (show k = 0 ∨ k = 1 ∨ k = 2 ∨ k = 3 by simp at hk; omega) with rfl | rfl | rfl | rfl <;> exact ⟨(blk_cell (blk_new _ _) _).trans rfl, (blk_cell (blk_new _ _) _).trans rfl⟩
      rintro e wg ⟨rfl, hbg⟩
      have hzg := hbg.size
      simp at hzg
      go_wp2
      go_ret
      exact ⟨rfl, by (repeat' (first | (with_reducible exact Below.refl _ _) | (with_reducible assumption) | (with_reducible refine Below.alloc ?_ ?_ _) | (with_reducible refine below_drewN ?_ _) | (with_reducible refine Below.drew ?_) | (with_reducible refine Below.setCell ?_ ?_ _) | (with_reducible refine below_call (by assumption) ?_ ?_) | (with_reducible refine below_grown (by assumption) ?_ ?_ ?_) | omega | (simp; done) | (simp; omega)))⟩

theorem FnRaiseCurveLine_own : ownKnob Try.prog.godebug = none := by kernel_rfl
theorem FnRaiseCurveLine_laid : laidOutB Try.prog = true := by kernel_rfl

set_option maxRecDepth 100000 in
theorem FnRaiseCurveLine_lifted (os : Os) (started : os.Started) (H : Type) (enc : TypeId × Value → H) :
    ReturnsInHanded {} Try.checked os 6 .any (Rows.fnRaiseCurveLineSpec.pre6 enc Try.prog Try.f6 Rows.fnRaiseCurveLineRow.domain false) (Rows.fnRaiseCurveLineSpec.post enc Try.prog Try.f6 false true false false) := by
  refine returnsInHanded_of_change (C := Try.checked) FnRaiseCurveLine_own started (by kernel_rfl) Try.func6
    (ChangeSpec.witness6 (enc := enc) (C := Try.checked) false ⟨#[], #[.slice none 0 0], []⟩ 8 (by kernel_rfl) (by kernel_rfl) (by kernel_rfl) (by kernel_rfl)) ?_
  intro W base args ds gs before hval0 hW hcnd _
  have hval : ∀ (j : Nat) t v, Try.f6.params[j]? = some t → args[j]? = some v → Value.okWide Try.prog W .any base t v := hval0
  have hW' := hW
  obtain ⟨p, q, hA0, hV, rfl, hfz, hnd⟩ := hW
  have hA : DataW.TrodAll enc Try.prog W 0 (fun _ => true) true Try.f6.params.toList args.toList ds p := hA0
  rw [Try.params6] at hA hval
  obtain ⟨v0, vs0, d0, ds0, p0, q0, hargs, rfl, rfl, h0, r0⟩ := trodAll_cons hA
  obtain ⟨rfl, rfl, rfl⟩ := trodAll_nil r0
  obtain rfl : args = #[v0] := by cases args; simp_all
  obtain ⟨rfl, rfl⟩ := trodVars_none hV
  have k0 := h0
  have lt0 : ∀ x ∈ p0, x.block < W.heap.size := by obtain ⟨m, hm⟩ := k0; exact DataW.trod_lt m _ _ _ hm
  obtain ⟨a0, len0, cap0, rfl⟩ := okWide_slice Try.underlying22 (hval 0 22 v0 rfl rfl)
  have w0 := code_of Try.underlying22 Try.underlying5 (by kernel_rfl) h0
  clear hA0 hval0
  refine (FnRaiseCurveLine_walk W _ _ _ w0).mono fun e W' ⟨he, bel⟩ => ?_
  subst he
  exact ⟨_, rfl, _, _, _, [], _, [], hW', trodAll_mk1 (shut_bool Try.underlying4 _), (trodAll_cons_mk (Below.trod FnRaiseCurveLine_laid (by kernel_rfl) (of_decide_eq_true (by kernel_rfl)) k0 bel lt0) trodAll_mk0), rfl, bel.frame _, fun h => by cases h⟩

theorem FnRaiseCurveLine_over : Rows.fnRaiseCurveLineRow.holds Try.pinned (OpenSpec.ofChange Rows.fnRaiseCurveLineSpec) :=
  OpenClaim.holds_of_wide 6 Try.f6 rfl rfl rfl rfl rfl rfl rfl ⟨rfl, rfl, rfl, rfl, rfl⟩ rfl rfl rfl rfl rfl (by kernel_rfl) Try.func6 (by kernel_rfl)
    (of_decide_eq_true (by kernel_rfl)) (by unfold Func.isWrapper; first | (rw [if_pos (by decide +kernel)]; kernel_rfl) | (rw [if_neg (by decide +kernel)]; exact ⟨rfl, rfl⟩))
    (fun os started H enc _ => FnRaiseCurveLine_lifted os started H enc)

/-- The statement. -/
theorem FnRaiseCurveLine_holds : Rows.FnRaiseCurveLineSaid := FnRaiseCurveLine_over
#print axioms FnRaiseCurveLine_holds

end Go.Proofs.Ytmddkhincpibhaa
