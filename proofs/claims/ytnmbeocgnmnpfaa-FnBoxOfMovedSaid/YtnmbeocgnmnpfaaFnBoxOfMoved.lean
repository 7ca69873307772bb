/-
  FnBoxOfMoved holds. Whatever points the generator gives. No condition.
-/
import Derived.Test.YtnmbeocgnmnpfaaDrawL
import Derived.Test.YtnmbeocgnmnpfaaLPts
import Derived.Test.YtnmbeocgnmnpfaaCode
import Derived.ProofKit
import Derived.OpenShut
import Derived.ShutString
import Derived.ChangeOld
import Derived.Lib.SmallJoins
namespace Go.Proofs.Ytnmbeocgnmnpfaa
open Go.RowKit Pl Go.ChangeShapes Go.WideShapes Go.ChangeAt
open Go.ChangeMaps (open_string shut_string)

set_option linter.unusedSimpArgs false
set_option linter.unusedVariables false

set_option maxHeartbeats 2000000 in
theorem FnBoxOfMoved_walk (w : World) (A : Option Addr) (n c : Nat) (h : Code w A n c) :
    Calls Try.prog 8 #[.slice A n c] w fun e w' => e = .returned (.bool true) ∧ Below w.heap.size w w' := by
  by_cases hn : 1048576 < n
  · go_enter Try.func8, Try.ntmps8
    go_wp2
    go_ret
    exact ⟨rfl, by (repeat' (first | (with_reducible exact Below.refl _ _) | (with_reducible assumption) | (with_reducible refine Below.alloc ?_ ?_ _) | (with_reducible refine below_drewN ?_ _) | (with_reducible refine Below.drew ?_) | (with_reducible refine Below.setCell ?_ ?_ _) | (with_reducible refine below_call (by assumption) ?_ ?_) | go_size))⟩
  · go_enter Try.func8, Try.ntmps8
    go_wp2_with fail
    refine (DrawMovePoints_any (h.below (by (repeat' (first | (with_reducible exact Below.refl _ _) | (with_reducible assumption) | (with_reducible refine Below.alloc ?_ ?_ _) | (with_reducible refine below_drewN ?_ _) | (with_reducible refine Below.drew ?_) | (with_reducible refine Below.setCell ?_ ?_ _) | (with_reducible refine below_call (by assumption) ?_ ?_) | go_size))))).mono ?_
    rintro e wd ⟨v, l, x, y, rfl, hl41, ⟨hx0, hx1⟩, ⟨hy0, hy1⟩, hv, hb⟩
    have hz0 := hb.size
    obtain ⟨A0, c0, rfl, _, _, hP, _⟩ := hv.form
    have HP := Lib.hid hP
    obtain ⟨n0, hn0⟩ : ∃ n0, l.length = n0 := ⟨_, rfl⟩
    have HL := Lib.hid hn0
    clear hv hP
    rw [hn0] at HP hl41 ⊢
    clear hn0
    obtain ⟨ok, hok⟩ : ∃ v, moveOk l x y = v := ⟨_, rfl⟩
    obtain ⟨m, hm⟩ : ∃ m, moveR l x y = m := ⟨_, rfl⟩
    have H1 := Lib.hid hok
    have H2 := Lib.hid hm
    go_wp2_with fail
    refine (MovePoints_eq c0 HP.out (by omega) (Hid.out (by with_reducible assumption)) (Hid.out (by with_reducible assumption))).mono ?_
    rintro e wa ⟨v1, rfl, ho1, hba⟩
    have hza := hba.size
    obtain ⟨A1, c1, rfl, _, _, hP1, _⟩ := ho1.form
    have HP1 := Lib.hid hP1
    clear ho1 hP1
    go_wp2_with fail
    refine (sMovePoints_eq c0 (HP.out.below hba) (by omega) (Hid.out (by with_reducible assumption)) (Hid.out (by with_reducible assumption))).mono ?_
    rintro e wb ⟨v2, rfl, ho2, hbb⟩
    have hzb := hbb.size
    obtain ⟨A2, c2, rfl, _, _, hP2, _⟩ := ho2.form
    have HP2 := Lib.hid hP2
    clear ho2 hP2
    have hm41 : m.length ≤ 41 := by
      rw [← hm, moveR]; split
      · rw [movedL_len, HL.out]; omega
      · simp
    clear hok hm
    obtain ⟨m1, hm1⟩ : ∃ n0, m.length = n0 := ⟨_, rfl⟩
    have HM := Lib.hid hm1
    rw [hm1] at HP1 HP2 hm41 ⊢
    clear hm1
    go_wp2_with fail
    refine (equalPoints_same c1 c2 (HP1.out.below hbb) HP2.out (by omega)).mono ?_
    rintro e wc ⟨rfl, hbc⟩
    have hzc := hbc.size
    cases ok with
    | false =>
      go_wp2_with fail
      refine (equalPoints_same c1 c2 ((HP1.out.below hbb).below hbc) (HP2.out.below hbc) (by omega)).mono ?_
      rintro e we ⟨rfl, hbe⟩
      have hze := hbe.size
      go_wp2
      go_ret
      exact ⟨rfl, by (repeat' (first | (with_reducible exact Below.refl _ _) | (with_reducible assumption) | (with_reducible refine Below.alloc ?_ ?_ _) | (with_reducible refine below_drewN ?_ _) | (with_reducible refine Below.drew ?_) | (with_reducible refine Below.setCell ?_ ?_ _) | (with_reducible refine below_call (by assumption) ?_ ?_) | (with_reducible refine below_grown (by assumption) ?_ ?_ ?_) | omega | (simp; done) | (simp; omega)))⟩
    | true =>
      have e1 : movedL l x y = m := by rw [← H2.out, moveR_ok H1.out]
      have e2 : m1 = n0 := by rw [← HM.out, ← HL.out, ← e1, movedL_len]
      subst e2
      rcases Nat.eq_zero_or_pos m1 with h0 | h0
      · have eb : ((m1 : Int) == 0) = true := by simp; omega
        have eb2 : decide ((m1 : Int) = 0) = true := by simp; omega
        clear h0 e1
        go_wp2_with fail
        refine (equalPoints_same c1 c2 ((HP1.out.below hbb).below hbc) (HP2.out.below hbc) (by omega)).mono ?_
        rintro e we ⟨rfl, hbe⟩
        have hze := hbe.size
        go_wp2
        go_ret
        exact ⟨rfl, by (repeat' (first | (with_reducible exact Below.refl _ _) | (with_reducible assumption) | (with_reducible refine Below.alloc ?_ ?_ _) | (with_reducible refine below_drewN ?_ _) | (with_reducible refine Below.drew ?_) | (with_reducible refine Below.setCell ?_ ?_ _) | (with_reducible refine below_call (by assumption) ?_ ?_) | (with_reducible refine below_grown (by assumption) ?_ ?_ ?_) | omega | (simp; done) | (simp; omega)))⟩
      · have eb : ((m1 : Int) == 0) = false := by simp; omega
        have eb2 : decide ((m1 : Int) = 0) = false := by simp; omega
        obtain ⟨q1, _, _, q4⟩ := moveOk_parts H1.out
        rw [e1] at q4
        have b1 : boxOk l = true := by simp only [boxOk, q1, Bool.true_and, Bool.not_eq_true', List.isEmpty_eq_false_iff]; exact List.length_pos_iff.1 (by rw [HL.out]; exact h0)
        have b2 : boxOk m = true := by simp only [boxOk, q4, Bool.true_and, Bool.not_eq_true', List.isEmpty_eq_false_iff]; exact List.length_pos_iff.1 (by rw [HM.out]; exact h0)
        obtain ⟨⟨pl, pt, pr, pb⟩, hp⟩ : ∃ q, boxR l = q := ⟨_, rfl⟩
        have hp2 : boxR m = ⟨pl + x, pt + y, pr + x, pb + y⟩ := by
          have h1 : bbx l (l.length - 1) = ⟨pl, pt, pr, pb⟩ := by rw [← hp, boxR, b1]; rfl
          rw [boxR, b2, if_pos rfl, ← e1, movedL_len, bbx_moved l x y _ (by rw [HL.out]; omega), h1]
        have hlo : -1000 ≤ pl ∧ pl ≤ 1000 ∧ -1000 ≤ pt ∧ pt ≤ 1000 ∧ -1000 ≤ pr ∧ pr ≤ 1000 ∧ -1000 ≤ pb ∧ pb ≤ 1000 := by
          have h1 : bbx l (l.length - 1) = ⟨pl, pt, pr, pb⟩ := by rw [← hp, boxR, b1]; rfl
          have k := l.length - 1
          obtain ⟨i1, g1, f1⟩ := bbx_left l (l.length - 1)
          obtain ⟨i2, g2, f2⟩ := bbx_top l (l.length - 1)
          obtain ⟨i3, g3, f3⟩ := bbx_right l (l.length - 1)
          obtain ⟨i4, g4, f4⟩ := bbx_bottom l (l.length - 1)
          have hll := HL.out
          have v1 := validL_at q1 (k := i1) (by omega)
          have v2 := validL_at q1 (k := i2) (by omega)
          have v3 := validL_at q1 (k := i3) (by omega)
          have v4 := validL_at q1 (k := i4) (by omega)
          rw [h1] at f1 f2 f3 f4
          simp only at f1 f2 f3 f4
          omega
        obtain ⟨_, _, _, _, _, _, _, _⟩ := hlo
        have H3 := Lib.hid b1
        have H4 := Lib.hid b2
        have H5 := Lib.hid hp
        have H6 := Lib.hid hp2
        clear b1 b2 hp hp2 q1 q4 e1 h0
        go_wp2_with fail
        refine (BoxOf_eq c0 (((HP.out.below hba).below hbb).below hbc) (by omega) (Hid.out (by with_reducible assumption)) (Hid.out (by with_reducible assumption))).mono ?_
        rintro e we ⟨rfl, hb⟩
        have hze := hb.size
        go_wp2_with fail
        refine (BoxOf_eq c1 ((((HP1.out.below hbb).below hbc).below hb).below (by (repeat' (first | (with_reducible exact Below.refl _ _) | (with_reducible assumption) | (with_reducible refine Below.alloc ?_ ?_ _) | (with_reducible refine below_drewN ?_ _) | (with_reducible refine Below.drew ?_) | (with_reducible refine Below.setCell ?_ ?_ _) | (with_reducible refine below_call (by assumption) ?_ ?_) | (with_reducible refine below_grown (by assumption) ?_ ?_ ?_) | omega | (simp; done) | (simp; omega))))) (by omega) (Hid.out (by with_reducible assumption)) (Hid.out (by with_reducible assumption))).mono ?_
        rintro e wf ⟨rfl, hb⟩
        (have hz := hb.size; (try simp at hz); (try (have hk := bcl hb (we.heap.size) (by first | omega | (simp; done) | (simp; omega)); have hc := hk.1; have hf := hk.2.1; have hk := hk.2.2)))
        go_wp2
        go_ret
        exact ⟨rfl, by (repeat' (first | (with_reducible exact Below.refl _ _) | (with_reducible assumption) | (with_reducible refine Below.alloc ?_ ?_ _) | (with_reducible refine below_drewN ?_ _) | (with_reducible refine Below.drew ?_) | (with_reducible refine Below.setCell ?_ ?_ _) | (with_reducible refine below_call (by assumption) ?_ ?_) | (with_reducible refine below_grown (by assumption) ?_ ?_ ?_) | omega | (simp; done) | (simp; omega)))⟩

theorem FnBoxOfMoved_own : ownKnob Try.prog.godebug = none := by kernel_rfl
theorem FnBoxOfMoved_laid : laidOutB Try.prog = true := by kernel_rfl

set_option maxRecDepth 100000 in
theorem FnBoxOfMoved_lifted (os : Os) (started : os.Started) (H : Type) (enc : TypeId × Value → H) :
    ReturnsInHanded {} Try.checked os 8 .any (Rows.fnBoxOfMovedSpec.pre6 enc Try.prog Try.f8 Rows.fnBoxOfMovedRow.domain false) (Rows.fnBoxOfMovedSpec.post enc Try.prog Try.f8 false true false false) := by
  refine returnsInHanded_of_change (C := Try.checked) FnBoxOfMoved_own started (by kernel_rfl) Try.func8
    (ChangeSpec.witness6 (enc := enc) (C := Try.checked) false ⟨#[], #[.slice none 0 0], []⟩ 8 (by kernel_rfl) (by kernel_rfl) (by kernel_rfl) (by kernel_rfl)) ?_
  intro W base args ds gs before hval0 hW hcnd _
  have hval : ∀ (j : Nat) t v, Try.f8.params[j]? = some t → args[j]? = some v → Value.okWide Try.prog W .any base t v := hval0
  have hW' := hW
  obtain ⟨p, q, hA0, hV, rfl, hfz, hnd⟩ := hW
  have hA : DataW.TrodAll enc Try.prog W 0 (fun _ => true) true Try.f8.params.toList args.toList ds p := hA0
  rw [Try.params8] at hA hval
  obtain ⟨v0, vs0, d0, ds0, p0, q0, hargs, rfl, rfl, h0, r0⟩ := trodAll_cons hA
  obtain ⟨rfl, rfl, rfl⟩ := trodAll_nil r0
  obtain rfl : args = #[v0] := by cases args; simp_all
  obtain ⟨rfl, rfl⟩ := trodVars_none hV
  have k0 := h0
  have lt0 : ∀ x ∈ p0, x.block < W.heap.size := by obtain ⟨m, hm⟩ := k0; exact DataW.trod_lt m _ _ _ hm
  obtain ⟨a0, len0, cap0, rfl⟩ := okWide_slice Try.underlying22 (hval 0 22 v0 rfl rfl)
  have w0 := code_of Try.underlying22 Try.underlying5 (by kernel_rfl) h0
  clear hA0 hval0
  refine (FnBoxOfMoved_walk W _ _ _ w0).mono fun e W' ⟨he, bel⟩ => ?_
  subst he
  exact ⟨_, rfl, _, _, _, [], _, [], hW', trodAll_mk1 (shut_bool Try.underlying4 _), (trodAll_cons_mk (Below.trod FnBoxOfMoved_laid (by kernel_rfl) (of_decide_eq_true (by kernel_rfl)) k0 bel lt0) trodAll_mk0), rfl, bel.frame _, fun h => by cases h⟩

theorem FnBoxOfMoved_over : Rows.fnBoxOfMovedRow.holds Try.pinned (OpenSpec.ofChange Rows.fnBoxOfMovedSpec) :=
  OpenClaim.holds_of_wide 8 Try.f8 rfl rfl rfl rfl rfl rfl rfl ⟨rfl, rfl, rfl, rfl, rfl⟩ rfl rfl rfl rfl rfl (by kernel_rfl) Try.func8 (by kernel_rfl)
    (of_decide_eq_true (by kernel_rfl)) (by unfold Func.isWrapper; first | (rw [if_pos (by decide +kernel)]; kernel_rfl) | (rw [if_neg (by decide +kernel)]; exact ⟨rfl, rfl⟩))
    (fun os started H enc _ => FnBoxOfMoved_lifted os started H enc)

/-- The statement. -/
theorem FnBoxOfMoved_holds : Rows.FnBoxOfMovedSaid := FnBoxOfMoved_over
#print axioms FnBoxOfMoved_holds

end Go.Proofs.Ytnmbeocgnmnpfaa
