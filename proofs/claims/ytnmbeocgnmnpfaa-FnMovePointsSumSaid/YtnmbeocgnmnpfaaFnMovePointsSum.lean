/-
  FnMovePointsSum holds. Whatever points the generator gives. No condition.
-/
import Derived.Test.YtnmbeocgnmnpfaaDrawL
import Derived.Test.YtnmbeocgnmnpfaaLPts
import Derived.Test.YtnmbeocgnmnpfaaCode
import Derived.ProofKit
import Derived.OpenShut
import Derived.ShutString
import Derived.ChangeOld
import Derived.Lib.SmallJoins
namespace Go.Proofs.Ytnmbeocgnmnpfaa
open Go.RowKit Pl Go.ChangeShapes Go.WideShapes Go.ChangeAt
open Go.ChangeMaps (open_string shut_string)

set_option linter.unusedSimpArgs false
set_option linter.unusedVariables false

set_option maxHeartbeats 2000000 in
theorem FnMovePointsSum_walk (w : World) (A : Option Addr) (n c : Nat) (h : Code w A n c) :
    Calls Try.prog 7 #[.slice A n c] w fun e w' => e = .returned (.bool true) ∧ Below w.heap.size w w' := by
  by_cases hn : 1048576 < n
  · go_enter Try.func7, Try.ntmps7
    go_wp2
    go_ret
    exact ⟨rfl, by (repeat' (first | (with_reducible exact Below.refl _ _) | (with_reducible assumption) | (with_reducible refine Below.alloc ?_ ?_ _) | (with_reducible refine below_drewN ?_ _) | (with_reducible refine Below.drew ?_) | (with_reducible refine Below.setCell ?_ ?_ _) | (with_reducible refine below_call (by assumption) ?_ ?_) | go_size))⟩
  · go_enter Try.func7, Try.ntmps7
    go_wp2_with fail
    refine (DrawMovePoints_any (h.below (by (repeat' (first | (with_reducible exact Below.refl _ _) | (with_reducible assumption) | (with_reducible refine Below.alloc ?_ ?_ _) | (with_reducible refine below_drewN ?_ _) | (with_reducible refine Below.drew ?_) | (with_reducible refine Below.setCell ?_ ?_ _) | (with_reducible refine below_call (by assumption) ?_ ?_) | go_size))))).mono ?_
    rintro e wd ⟨v, l, x, y, rfl, hl41, ⟨hx0, hx1⟩, ⟨hy0, hy1⟩, hv, hb⟩
    have hz0 := hb.size
    obtain ⟨A0, c0, rfl, _, _, hP, _⟩ := hv.form
    have HP := Lib.hid hP
    obtain ⟨n0, hn0⟩ : ∃ n0, l.length = n0 := ⟨_, rfl⟩
    have HL := Lib.hid hn0
    clear hv hP
    rw [hn0] at HP hl41 ⊢
    clear hn0
    obtain ⟨ok, hok⟩ : ∃ v, moveOk l x y = v := ⟨_, rfl⟩
    obtain ⟨m, hm⟩ : ∃ m, moveR l x y = m := ⟨_, rfl⟩
    have H1 := Lib.hid hok
    have H2 := Lib.hid hm
    go_wp2_with fail
    refine (MovePoints_eq c0 HP.out (by omega) (Hid.out (by with_reducible assumption)) (Hid.out (by with_reducible assumption))).mono ?_
    rintro e wa ⟨v1, rfl, ho1, hba⟩
    have hza := hba.size
    obtain ⟨A1, c1, rfl, _, _, hP1, _⟩ := ho1.form
    have HP1 := Lib.hid hP1
    clear ho1 hP1
    go_wp2_with fail
    refine (sMovePoints_eq c0 (HP.out.below hba) (by omega) (Hid.out (by with_reducible assumption)) (Hid.out (by with_reducible assumption))).mono ?_
    rintro e wb ⟨v2, rfl, ho2, hbb⟩
    have hzb := hbb.size
    obtain ⟨A2, c2, rfl, _, _, hP2, _⟩ := ho2.form
    have HP2 := Lib.hid hP2
    clear ho2 hP2
    have hm41 : m.length ≤ 41 := by
      rw [← hm, moveR]; split
      · rw [movedL_len, HL.out]; omega
      · simp
    clear hok hm
    obtain ⟨m1, hm1⟩ : ∃ n0, m.length = n0 := ⟨_, rfl⟩
    have HM := Lib.hid hm1
    rw [hm1] at HP1 HP2 hm41 ⊢
    clear hm1
    go_wp2_with fail
    refine (equalPoints_same c1 c2 (HP1.out.below hbb) HP2.out (by omega)).mono ?_
    rintro e wc ⟨rfl, hbc⟩
    have hzc := hbc.size
    cases ok with
    | false =>
      go_wp2_with fail
      refine (equalPoints_same c1 c2 ((HP1.out.below hbb).below hbc) (HP2.out.below hbc) (by omega)).mono ?_
      rintro e we ⟨rfl, hbe⟩
      have hze := hbe.size
      go_wp2
      go_ret
      exact ⟨rfl, by (repeat' (first | (with_reducible exact Below.refl _ _) | (with_reducible assumption) | (with_reducible refine Below.alloc ?_ ?_ _) | (with_reducible refine below_drewN ?_ _) | (with_reducible refine Below.drew ?_) | (with_reducible refine Below.setCell ?_ ?_ _) | (with_reducible refine below_call (by assumption) ?_ ?_) | (with_reducible refine below_grown (by assumption) ?_ ?_ ?_) | omega | (simp; done) | (simp; omega)))⟩
    | true =>
      have e1 : movedL l x y = m := by rw [← H2.out, moveR_ok H1.out]
      obtain ⟨ok1, hok1⟩ : ∃ v, moveOk m 6 (-2) = v := ⟨_, rfl⟩
      obtain ⟨ma, hma⟩ : ∃ v, moveR m 6 (-2) = v := ⟨_, rfl⟩
      obtain ⟨ok2, hok2⟩ : ∃ v, moveOk l (x + 6) (y + -2) = v := ⟨_, rfl⟩
      obtain ⟨mb, hmb⟩ : ∃ v, moveR l (x + 6) (y + -2) = v := ⟨_, rfl⟩
      have HS : Hid (ok1 = true → ok2 = true → ma = mb) := Lib.hid (fun a b => by
        subst a; subst b
        rw [← hma, ← hmb, ← e1]
        exact move_sum H1.out (by rw [e1]; exact hok1) hok2)
      have H3 := Lib.hid hok1
      have H4 := Lib.hid hma
      have H5 : Hid (moveOk l (x + 6) (y - 2) = ok2) := Lib.hid hok2
      have H6 : Hid (moveR l (x + 6) (y - 2) = mb) := Lib.hid hmb
      have hl1 : ma.length ≤ 41 := by
        rw [← hma, moveR]; split
        · rw [movedL_len, HM.out]; omega
        · simp
      have hl2 : mb.length ≤ 41 := by
        rw [← hmb, moveR]; split
        · rw [movedL_len, HL.out]; omega
        · simp
      clear hok1 hma hok2 hmb e1
      go_wp2_with fail
      refine (MovePoints_eq c1 ((HP1.out.below hbb).below hbc) (by omega) (Hid.out (by with_reducible assumption)) (Hid.out (by with_reducible assumption))).mono ?_
      rintro e we ⟨v3, rfl, ho3, hbe⟩
      have hze := hbe.size
      obtain ⟨A3, c3, rfl, _, _, hP3, _⟩ := ho3.form
      have HP3 := Lib.hid hP3
      clear ho3 hP3
      go_wp2_with fail
      refine (MovePoints_eq c0 ((((HP.out.below hba).below hbb).below hbc).below hbe) (by omega) (Hid.out (by with_reducible assumption)) (Hid.out (by with_reducible assumption))).mono ?_
      rintro e wf ⟨v4, rfl, ho4, hbf⟩
      have hzf := hbf.size
      obtain ⟨A4, c4, rfl, _, _, hP4, _⟩ := ho4.form
      have HP4 := Lib.hid hP4
      clear ho4 hP4
      cases ok1 with
      | false =>
        go_wp2
        go_ret
        exact ⟨rfl, by (repeat' (first | (with_reducible exact Below.refl _ _) | (with_reducible assumption) | (with_reducible refine Below.alloc ?_ ?_ _) | (with_reducible refine below_drewN ?_ _) | (with_reducible refine Below.drew ?_) | (with_reducible refine Below.setCell ?_ ?_ _) | (with_reducible refine below_call (by assumption) ?_ ?_) | (with_reducible refine below_grown (by assumption) ?_ ?_ ?_) | omega | (simp; done) | (simp; omega)))⟩
      | true =>
        cases ok2 with
        | false =>
          go_wp2
          go_ret
          exact ⟨rfl, by (repeat' (first | (with_reducible exact Below.refl _ _) | (with_reducible assumption) | (with_reducible refine Below.alloc ?_ ?_ _) | (with_reducible refine below_drewN ?_ _) | (with_reducible refine Below.drew ?_) | (with_reducible refine Below.setCell ?_ ?_ _) | (with_reducible refine below_call (by assumption) ?_ ?_) | (with_reducible refine below_grown (by assumption) ?_ ?_ ?_) | omega | (simp; done) | (simp; omega)))⟩
        | true =>
          have e := HS.out rfl rfl
          subst e
          go_wp2_with fail
          refine (equalPoints_same c3 c4 (HP3.out.below hbf) HP4.out (by omega)).mono ?_
          rintro e wg ⟨rfl, hbg⟩
          have hzg := hbg.size
          go_wp2
          go_ret
          exact ⟨rfl, by (repeat' (first | (with_reducible exact Below.refl _ _) | (with_reducible assumption) | (with_reducible refine Below.alloc ?_ ?_ _) | (with_reducible refine below_drewN ?_ _) | (with_reducible refine Below.drew ?_) | (with_reducible refine Below.setCell ?_ ?_ _) | (with_reducible refine below_call (by assumption) ?_ ?_) | (with_reducible refine below_grown (by assumption) ?_ ?_ ?_) | omega | (simp; done) | (simp; omega)))⟩

theorem FnMovePointsSum_own : ownKnob Try.prog.godebug = none := by kernel_rfl
theorem FnMovePointsSum_laid : laidOutB Try.prog = true := by kernel_rfl

set_option maxRecDepth 100000 in
theorem FnMovePointsSum_lifted (os : Os) (started : os.Started) (H : Type) (enc : TypeId × Value → H) :
    ReturnsInHanded {} Try.checked os 7 .any (Rows.fnMovePointsSumSpec.pre6 enc Try.prog Try.f7 Rows.fnMovePointsSumRow.domain false) (Rows.fnMovePointsSumSpec.post enc Try.prog Try.f7 false true false false) := by
  refine returnsInHanded_of_change (C := Try.checked) FnMovePointsSum_own started (by kernel_rfl) Try.func7
    (ChangeSpec.witness6 (enc := enc) (C := Try.checked) false ⟨#[], #[.slice none 0 0], []⟩ 8 (by kernel_rfl) (by kernel_rfl) (by kernel_rfl) (by kernel_rfl)) ?_
  intro W base args ds gs before hval0 hW hcnd _
  have hval : ∀ (j : Nat) t v, Try.f7.params[j]? = some t → args[j]? = some v → Value.okWide Try.prog W .any base t v := hval0
  have hW' := hW
  obtain ⟨p, q, hA0, hV, rfl, hfz, hnd⟩ := hW
  have hA : DataW.TrodAll enc Try.prog W 0 (fun _ => true) true Try.f7.params.toList args.toList ds p := hA0
  rw [Try.params7] at hA hval
  obtain ⟨v0, vs0, d0, ds0, p0, q0, hargs, rfl, rfl, h0, r0⟩ := trodAll_cons hA
  obtain ⟨rfl, rfl, rfl⟩ := trodAll_nil r0
  obtain rfl : args = #[v0] := by cases args; simp_all
  obtain ⟨rfl, rfl⟩ := trodVars_none hV
  have k0 := h0
  have lt0 : ∀ x ∈ p0, x.block < W.heap.size := by obtain ⟨m, hm⟩ := k0; exact DataW.trod_lt m _ _ _ hm
  obtain ⟨a0, len0, cap0, rfl⟩ := okWide_slice Try.underlying22 (hval 0 22 v0 rfl rfl)
  have w0 := code_of Try.underlying22 Try.underlying5 (by kernel_rfl) h0
  clear hA0 hval0
  refine (FnMovePointsSum_walk W _ _ _ w0).mono fun e W' ⟨he, bel⟩ => ?_
  subst he
  exact ⟨_, rfl, _, _, _, [], _, [], hW', trodAll_mk1 (shut_bool Try.underlying4 _), (trodAll_cons_mk (Below.trod FnMovePointsSum_laid (by kernel_rfl) (of_decide_eq_true (by kernel_rfl)) k0 bel lt0) trodAll_mk0), rfl, bel.frame _, fun h => by cases h⟩

theorem FnMovePointsSum_over : Rows.fnMovePointsSumRow.holds Try.pinned (OpenSpec.ofChange Rows.fnMovePointsSumSpec) :=
  OpenClaim.holds_of_wide 7 Try.f7 rfl rfl rfl rfl rfl rfl rfl ⟨rfl, rfl, rfl, rfl, rfl⟩ rfl rfl rfl rfl rfl (by kernel_rfl) Try.func7 (by kernel_rfl)
    (of_decide_eq_true (by kernel_rfl)) (by unfold Func.isWrapper; first | (rw [if_pos (by decide +kernel)]; kernel_rfl) | (rw [if_neg (by decide +kernel)]; exact ⟨rfl, rfl⟩))
    (fun os started H enc _ => FnMovePointsSum_lifted os started H enc)

/-- The statement. -/
theorem FnMovePointsSum_holds : Rows.FnMovePointsSumSaid := FnMovePointsSum_over
#print axioms FnMovePointsSum_holds

end Go.Proofs.Ytnmbeocgnmnpfaa
