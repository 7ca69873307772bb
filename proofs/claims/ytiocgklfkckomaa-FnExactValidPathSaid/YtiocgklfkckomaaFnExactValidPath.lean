/-
  FnExactValidPath holds. No condition.
-/
import Derived.Test.YtiocgklfkckomaaSPath
import Derived.ProofKit
import Derived.OpenShut
import Derived.ShutString
import Derived.ChangeOld
import Derived.Lib.SmallJoins
namespace Go.Proofs.Ytiocgklfkckomaa
open Go.RowKit Pl Go.ChangeShapes Go.WideShapes Go.ChangeAt
open Go.ChangeMaps (open_string shut_string)

set_option linter.unusedSimpArgs false
set_option linter.unusedVariables false

set_option maxRecDepth 100000 in
set_option maxHeartbeats 1000000 in
theorem FnExactValidPath_walk (w : World) (A : Option Addr) (n c : Nat) (L : List Vb) (h : IsVbs w A n L) (hm : n ≤ maxLen) :
    Calls Try.prog 6 #[.slice A n c] w fun e w' => e = .returned (.bool true) ∧ Below w.heap.size w w' := by
  unfold maxLen at hm
  have HP := Lib.hid h
  have hl := h.1
  have HL := Lib.hid hl
  clear h
  by_cases hs : sizeV L ≤ 1048576
  · have HS := Lib.hid hs
    have hn' : n ≤ 1048576 := by rw [sizeV, hl] at hs; omega
    obtain ⟨z, hz⟩ : ∃ z, 1048576 - (sizeV L : Int) = z := ⟨_, rfl⟩
    have hz0 : ¬ z < 0 := by omega
    have HZ : Hid ((if (sizeV L : Int) ≤ 1048576 then 1048576 - (sizeV L : Int) else -1) = z) := Lib.hid (by rw [if_pos (by omega), hz])
    obtain ⟨v, hv⟩ : ∃ v : Bool, pathB L = v := ⟨_, rfl⟩
    have HV := Lib.hid hv
    clear hl hs hz hv
    go_enter Try.func6, Try.ntmps6
    go_wp2_with fail
    refine (szVerbS_eq HP.out (by omega) HZ.out).mono ?_
    rintro e w0 ⟨rfl, hb0⟩
    have hz0' := hb0.size
    go_wp2_with fail
    refine (toVerbS_any c (HP.out.below (by (repeat' (first | (with_reducible exact Below.refl _ _) | (with_reducible assumption) | (with_reducible refine Below.alloc ?_ ?_ _) | (with_reducible refine below_drewN ?_ _) | (with_reducible refine Below.drew ?_) | (with_reducible refine Below.setCell ?_ ?_ _) | (with_reducible refine below_call (by assumption) ?_ ?_) | (with_reducible refine below_grown (by assumption) ?_ ?_ ?_) | omega | (simp; done) | (simp; omega))))) HS.out).mono ?_
    rintro e wa ⟨A0, c0, rfl, hP0, hba⟩
    have hza := hba.size
    rw [HL.out] at hP0 ⊢
    have HP0 := Lib.hid hP0
    clear hP0
    go_wp2_with fail
    refine (sValidPath_eq c0 HP0.out HS.out HV.out).mono ?_
    rintro e wb ⟨rfl, hbb⟩
    have hzb := hbb.size
    go_wp2_with fail
    refine (toVerbS_any c (HP.out.below (by (repeat' (first | (with_reducible exact Below.refl _ _) | (with_reducible assumption) | (with_reducible refine Below.alloc ?_ ?_ _) | (with_reducible refine below_drewN ?_ _) | (with_reducible refine Below.drew ?_) | (with_reducible refine Below.setCell ?_ ?_ _) | (with_reducible refine below_call (by assumption) ?_ ?_) | (with_reducible refine below_grown (by assumption) ?_ ?_ ?_) | omega | (simp; done) | (simp; omega))))) HS.out).mono ?_
    rintro e wx ⟨Ax, cx, rfl, hPX, hbx⟩
    have hzx := hbx.size
    rw [HL.out] at hPX ⊢
    have HPX := Lib.hid hPX
    clear hPX
    go_wp2_with fail
    refine (ValidPath_eq cx HPX.out HS.out HV.out).mono ?_
    rintro e wg ⟨rfl, hbg⟩
    have hzg := hbg.size
    go_wp2_with fail
    refine (toVerbS_any c (HP.out.below (by (repeat' (first | (with_reducible exact Below.refl _ _) | (with_reducible assumption) | (with_reducible refine Below.alloc ?_ ?_ _) | (with_reducible refine below_drewN ?_ _) | (with_reducible refine Below.drew ?_) | (with_reducible refine Below.setCell ?_ ?_ _) | (with_reducible refine below_call (by assumption) ?_ ?_) | (with_reducible refine below_grown (by assumption) ?_ ?_ ?_) | omega | (simp; done) | (simp; omega))))) HS.out).mono ?_
    rintro e w4 ⟨A4, c4, rfl, hP4, hb4⟩
    have hz4 := hb4.size
    rw [HL.out] at hP4 ⊢
    have HP4 := Lib.hid hP4
    clear hP4
    go_wp2_with fail
    refine (eqVerbS_same cx c4 (HPX.out.below (by (repeat' (first | (with_reducible exact Below.refl _ _) | (with_reducible assumption) | (with_reducible refine Below.alloc ?_ ?_ _) | (with_reducible refine below_drewN ?_ _) | (with_reducible refine Below.drew ?_) | (with_reducible refine Below.setCell ?_ ?_ _) | (with_reducible refine below_call (by assumption) ?_ ?_) | (with_reducible refine below_grown (by assumption) ?_ ?_ ?_) | omega | (simp; done) | (simp; omega))))) HP4.out HS.out).mono ?_
    rintro e w5 ⟨rfl, hb5⟩
    have hz5 := hb5.size
    go_wp2
    go_ret
    exact ⟨rfl, by (repeat' (first | (with_reducible exact Below.refl _ _) | (with_reducible assumption) | (with_reducible refine Below.alloc ?_ ?_ _) | (with_reducible refine below_drewN ?_ _) | (with_reducible refine Below.drew ?_) | (with_reducible refine Below.setCell ?_ ?_ _) | (with_reducible refine below_call (by assumption) ?_ ?_) | (with_reducible refine below_grown (by assumption) ?_ ?_ ?_) | omega | (simp; done) | (simp; omega)))⟩
  · have HZ : Hid ((if (sizeV L : Int) ≤ 1048576 then 1048576 - (sizeV L : Int) else -1) = -1) := Lib.hid (by rw [if_neg (by omega)])
    clear hl hs
    go_enter Try.func6, Try.ntmps6
    go_wp2_with fail
    refine (szVerbS_eq HP.out (by omega) HZ.out).mono ?_
    rintro e w0 ⟨rfl, hb0⟩
    go_wp2
    go_ret
    exact ⟨rfl, by (repeat' (first | (with_reducible exact Below.refl _ _) | (with_reducible assumption) | (with_reducible refine Below.alloc ?_ ?_ _) | (with_reducible refine below_drewN ?_ _) | (with_reducible refine Below.drew ?_) | (with_reducible refine Below.setCell ?_ ?_ _) | (with_reducible refine below_call (by assumption) ?_ ?_) | (with_reducible refine below_grown (by assumption) ?_ ?_ ?_) | omega | (simp; done) | (simp; omega)))⟩

theorem FnExactValidPath_own : ownKnob Try.prog.godebug = none := by kernel_rfl
theorem FnExactValidPath_laid : laidOutB Try.prog = true := by kernel_rfl

set_option maxRecDepth 100000 in
theorem FnExactValidPath_lifted (os : Os) (started : os.Started) (H : Type) (enc : TypeId × Value → H) :
    ReturnsInHanded {} Try.checked os 6 .any (Rows.fnExactValidPathSpec.pre6 enc Try.prog Try.f6 Rows.fnExactValidPathRow.domain false) (Rows.fnExactValidPathSpec.post enc Try.prog Try.f6 false true false false) := by
  refine returnsInHanded_of_change (C := Try.checked) FnExactValidPath_own started (by kernel_rfl) Try.func6
    (ChangeSpec.witness6 (enc := enc) (C := Try.checked) false ⟨#[], #[.slice none 0 0], []⟩ 8 (by kernel_rfl) (by kernel_rfl) (by kernel_rfl) (by kernel_rfl)) ?_
  intro W base args ds gs before hval0 hW hcnd _
  have hval : ∀ (j : Nat) t v, Try.f6.params[j]? = some t → args[j]? = some v → Value.okWide Try.prog W .any base t v := hval0
  have hW' := hW
  obtain ⟨p, q, hA0, hV, rfl, hfz, hnd⟩ := hW
  have hA : DataW.TrodAll enc Try.prog W 0 (fun _ => true) true Try.f6.params.toList args.toList ds p := hA0
  rw [Try.params6] at hA hval
  obtain ⟨v0, vs0, d0, ds0, p0, q0, hargs, rfl, rfl, h0, r0⟩ := trodAll_cons hA
  obtain ⟨rfl, rfl, rfl⟩ := trodAll_nil r0
  obtain rfl : args = #[v0] := by cases args; simp_all
  obtain ⟨rfl, rfl⟩ := trodVars_none hV
  have k0 := h0
  have lt0 : ∀ x ∈ p0, x.block < W.heap.size := by obtain ⟨m, hm⟩ := k0; exact DataW.trod_lt m _ _ _ hm
  obtain ⟨a0, len0, cap0, rfl⟩ := okWide_slice Try.underlying38 (hval 0 38 v0 rfl rfl)
  obtain ⟨mx0, l0, w0⟩ := verbs_of (e := 90) Try.underlying38 (by kernel_rfl) Try.underlying62 (by kernel_rfl) (by kernel_rfl) rfl rfl Try.underlying90 (by kernel_rfl) (by kernel_rfl) (by kernel_rfl) h0
  clear hA0 hval0
  refine (FnExactValidPath_walk W _ _ _ _ w0 mx0).mono fun e W' ⟨he, bel⟩ => ?_
  subst he
  exact ⟨_, rfl, _, _, _, [], _, [], hW', trodAll_mk1 (shut_bool Try.underlying4 _), (trodAll_cons_mk (Below.trod FnExactValidPath_laid (by kernel_rfl) (of_decide_eq_true (by kernel_rfl)) k0 bel lt0) trodAll_mk0), rfl, bel.frame _, fun h => by cases h⟩

theorem FnExactValidPath_over : Rows.fnExactValidPathRow.holds Try.pinned (OpenSpec.ofChange Rows.fnExactValidPathSpec) :=
  OpenClaim.holds_of_wide 6 Try.f6 rfl rfl rfl rfl rfl rfl rfl ⟨rfl, rfl, rfl, rfl, rfl⟩ rfl rfl rfl rfl rfl (by kernel_rfl) Try.func6 (by kernel_rfl)
    (of_decide_eq_true (by kernel_rfl)) (by unfold Func.isWrapper; first | (rw [if_pos (by decide +kernel)]; kernel_rfl) | (rw [if_neg (by decide +kernel)]; exact ⟨rfl, rfl⟩))
    (fun os started H enc _ => FnExactValidPath_lifted os started H enc)

/-- The statement. -/
theorem FnExactValidPath_holds : Rows.FnExactValidPathSaid := FnExactValidPath_over
#print axioms FnExactValidPath_holds

end Go.Proofs.Ytiocgklfkckomaa
