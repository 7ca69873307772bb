/-
  FnExactInsideAt holds. No condition.
-/
import Derived.Test.YtkbbbnlljenpeaaInside
import Derived.ProofKit
import Derived.OpenShut
import Derived.ShutString
import Derived.ChangeOld
import Derived.Lib.SmallJoins
namespace Go.Proofs.Ytkbbbnlljenpeaa
open Go.RowKit Pl Go.ChangeShapes Go.WideShapes Go.ChangeAt
open Go.ChangeMaps (open_string shut_string)

set_option linter.unusedSimpArgs false
set_option linter.unusedVariables false

theorem ring_small {L : List (List Pt)} {r : List Pt} (h : r ∈ L) : r.length ≤ ringsLen L := by
  induction L with
  | nil => cases h
  | cons x l ih =>
    simp only [ringsLen]
    rcases List.mem_cons.1 h with rfl | h
    · omega
    · have := ih h; omega

set_option maxRecDepth 100000 in
set_option maxHeartbeats 1000000 in
theorem FnExactInsideAt_walk (w : World) (A : Option Addr) (n c : Nat) (L : List (List Pt)) (h : IsRs w A n L) (hm : n ≤ maxLen) (rule x y : Int) :
    Calls Try.prog 7 #[.slice A n c, .int .i64 rule, .int .i64 x, .int .i64 y] w fun e w' => e = .returned (.bool true) ∧ Below w.heap.size w w' := by
  unfold maxLen at hm
  have HP := Lib.hid h
  have hl := h.len
  have HL := Lib.hid hl
  clear h
  by_cases hs : sizeR L ≤ 1048576
  · have hS : n + ringsLen L ≤ 1048576 := by rw [sizeR, hl] at hs; exact hs
    have HS := Lib.hid hs
    have hrs : ∀ r ∈ L, r.length ≤ 1048576 := fun r hr => by have := ring_small hr; omega
    have HR := Lib.hid hrs
    obtain ⟨z, hz⟩ : ∃ z, 1048576 - (sizeR L : Int) = z := ⟨_, rfl⟩
    have hz0 : ¬ z < 0 := by omega
    have HZ : Hid ((if (sizeR L : Int) ≤ 1048576 then 1048576 - (sizeR L : Int) else -1) = z) := Lib.hid (by rw [if_pos (by omega), hz])
    obtain ⟨v, hv⟩ : ∃ v : Bool, insideR L rule x y = v := ⟨_, rfl⟩
    have HV := Lib.hid hv
    have hn' : n ≤ 1048576 := by omega
    clear hl hs hrs hz hv
    go_enter Try.func7, Try.ntmps7
    go_wp2_with fail
    refine (szPointSS_eq HP.out (by omega) HZ.out).mono ?_
    rintro e w0 ⟨rfl, rfl⟩
    go_wp2_with fail
    refine (toPointSS_any c HP.out hn' HR.out).mono ?_
    rintro e wa ⟨A0, c0, rfl, _, _, hP0, hba⟩
    have hza := hba.size
    rw [HL.out] at hP0 ⊢
    have HP0 := Lib.hid hP0
    clear hP0
    go_wp2_with fail
    refine (sInsideAt_eq c0 HP0.out HS.out HV.out).mono ?_
    rintro e wb ⟨rfl, hbb⟩
    have hzb := hbb.size
    have HPb : Hid (IsRs wb A n L) := Lib.hid (HP.out.below (by (repeat' (first | (with_reducible exact Below.refl _ _) | (with_reducible assumption) | (with_reducible refine Below.alloc ?_ ?_ _) | (with_reducible refine below_drewN ?_ _) | (with_reducible refine Below.drew ?_) | (with_reducible refine Below.setCell ?_ ?_ _) | (with_reducible refine below_call (by assumption) ?_ ?_) | (with_reducible refine below_grown (by assumption) ?_ ?_ ?_) | omega | (simp; done) | (simp; omega)))))
    go_wp2_with fail
    refine (toPointSS_any c HPb.out hn' HR.out).mono ?_
    rintro e wx ⟨Ax, cx, rfl, _, _, hPX, hbx⟩
    have hzx := hbx.size
    rw [HL.out] at hPX ⊢
    have HPX := Lib.hid hPX
    clear hPX
    go_wp2_with fail
    refine (InsideAt_eq cx HPX.out HS.out HV.out).mono ?_
    rintro e wg ⟨rfl, hbg⟩
    have hzg := hbg.size
    go_wp2_with fail
    refine (toPointSS_any c (HP.out.below (by (repeat' (first | (with_reducible exact Below.refl _ _) | (with_reducible assumption) | (with_reducible refine Below.alloc ?_ ?_ _) | (with_reducible refine below_drewN ?_ _) | (with_reducible refine Below.drew ?_) | (with_reducible refine Below.setCell ?_ ?_ _) | (with_reducible refine below_call (by assumption) ?_ ?_) | (with_reducible refine below_grown (by assumption) ?_ ?_ ?_) | omega | (simp; done) | (simp; omega))))) hn' HR.out).mono ?_
    rintro e w4 ⟨A4, c4, rfl, _, _, hP4, hb4⟩
    have hz4 := hb4.size
    rw [HL.out] at hP4 ⊢
    have HP4 := Lib.hid hP4
    clear hP4
    go_wp2_with fail
    refine (eqPointSS_same cx c4 (HPX.out.below (by (repeat' (first | (with_reducible exact Below.refl _ _) | (with_reducible assumption) | (with_reducible refine Below.alloc ?_ ?_ _) | (with_reducible refine below_drewN ?_ _) | (with_reducible refine Below.drew ?_) | (with_reducible refine Below.setCell ?_ ?_ _) | (with_reducible refine below_call (by assumption) ?_ ?_) | (with_reducible refine below_grown (by assumption) ?_ ?_ ?_) | omega | (simp; done) | (simp; omega))))) HP4.out (by omega) HR.out).mono ?_
    rintro e w5 ⟨rfl, hb5⟩
    have hz5 := hb5.size
    go_wp2
    go_ret
    exact ⟨rfl, by (repeat' (first | (with_reducible exact Below.refl _ _) | (with_reducible assumption) | (with_reducible refine Below.alloc ?_ ?_ _) | (with_reducible refine below_drewN ?_ _) | (with_reducible refine Below.drew ?_) | (with_reducible refine Below.setCell ?_ ?_ _) | (with_reducible refine below_call (by assumption) ?_ ?_) | (with_reducible refine below_grown (by assumption) ?_ ?_ ?_) | omega | (simp; done) | (simp; omega)))⟩
  · have HZ : Hid ((if (sizeR L : Int) ≤ 1048576 then 1048576 - (sizeR L : Int) else -1) = -1) := Lib.hid (by rw [if_neg (by omega)])
    clear hl hs
    go_enter Try.func7, Try.ntmps7
    go_wp2_with fail
    refine (szPointSS_eq HP.out (by omega) HZ.out).mono ?_
    rintro e w0 ⟨rfl, rfl⟩
    go_wp2
    go_ret
    exact ⟨rfl, by (repeat' (first | (with_reducible exact Below.refl _ _) | (with_reducible assumption) | (with_reducible refine Below.alloc ?_ ?_ _) | (with_reducible refine below_drewN ?_ _) | (with_reducible refine Below.drew ?_) | (with_reducible refine Below.setCell ?_ ?_ _) | (with_reducible refine below_call (by assumption) ?_ ?_) | (with_reducible refine below_grown (by assumption) ?_ ?_ ?_) | omega | (simp; done) | (simp; omega)))⟩

theorem FnExactInsideAt_own : ownKnob Try.prog.godebug = none := by kernel_rfl
theorem FnExactInsideAt_laid : laidOutB Try.prog = true := by kernel_rfl

set_option maxRecDepth 100000 in
theorem FnExactInsideAt_lifted (os : Os) (started : os.Started) (H : Type) (enc : TypeId × Value → H) :
    ReturnsInHanded {} Try.checked os 7 .any (Rows.fnExactInsideAtSpec.pre6 enc Try.prog Try.f7 Rows.fnExactInsideAtRow.domain false) (Rows.fnExactInsideAtSpec.post enc Try.prog Try.f7 false true false false) := by
  refine returnsInHanded_of_change (C := Try.checked) FnExactInsideAt_own started (by kernel_rfl) Try.func7
    (ChangeSpec.witness6 (enc := enc) (C := Try.checked) false ⟨#[], #[.slice none 0 0, .int .i64 0, .int .i64 0, .int .i64 0], []⟩ 8 (by kernel_rfl) (by kernel_rfl) (by kernel_rfl) (by kernel_rfl)) ?_
  intro W base args ds gs before hval0 hW hcnd _
  have hval : ∀ (j : Nat) t v, Try.f7.params[j]? = some t → args[j]? = some v → Value.okWide Try.prog W .any base t v := hval0
  have hW' := hW
  obtain ⟨p, q, hA0, hV, rfl, hfz, hnd⟩ := hW
  have hA : DataW.TrodAll enc Try.prog W 0 (fun _ => true) true Try.f7.params.toList args.toList ds p := hA0
  rw [Try.params7] at hA hval
  obtain ⟨v0, vs0, d0, ds0, p0, q0, hargs, rfl, rfl, h0, r0⟩ := trodAll_cons hA
  obtain ⟨v1, vs1, d1, ds1, p1, q1, rfl, rfl, rfl, h1, r1⟩ := trodAll_cons r0
  obtain ⟨v2, vs2, d2, ds2, p2, q2, rfl, rfl, rfl, h2, r2⟩ := trodAll_cons r1
  obtain ⟨v3, vs3, d3, ds3, p3, q3, rfl, rfl, rfl, h3, r3⟩ := trodAll_cons r2
  obtain ⟨rfl, rfl, rfl⟩ := trodAll_nil r3
  obtain rfl : args = #[v0, v1, v2, v3] := by cases args; simp_all
  obtain ⟨rfl, rfl⟩ := trodVars_none hV
  have k0 := h0
  have lt0 : ∀ x ∈ p0, x.block < W.heap.size := by obtain ⟨m, hm⟩ := k0; exact DataW.trod_lt m _ _ _ hm
  obtain ⟨a0, len0, cap0, rfl⟩ := okWide_slice Try.underlying22 (hval 0 22 v0 rfl rfl)
  obtain ⟨mx0, l0, w0⟩ := rings_of rfl Try.underlying22 (by kernel_rfl) Try.underlying34 Try.underlying62 (by kernel_rfl) (by kernel_rfl) (by kernel_rfl) h0
  have k1 := h1
  have lt1 : ∀ x ∈ p1, x.block < W.heap.size := by obtain ⟨m, hm⟩ := k1; exact DataW.trod_lt m _ _ _ hm
  obtain ⟨a1, rfl, rfl, rfl, w1⟩ := open_int Try.underlying3 (hval 1 3 v1 rfl rfl) h1
  have k2 := h2
  have lt2 : ∀ x ∈ p2, x.block < W.heap.size := by obtain ⟨m, hm⟩ := k2; exact DataW.trod_lt m _ _ _ hm
  obtain ⟨a2, rfl, rfl, rfl, w2⟩ := open_int Try.underlying3 (hval 2 3 v2 rfl rfl) h2
  have k3 := h3
  have lt3 : ∀ x ∈ p3, x.block < W.heap.size := by obtain ⟨m, hm⟩ := k3; exact DataW.trod_lt m _ _ _ hm
  obtain ⟨a3, rfl, rfl, rfl, w3⟩ := open_int Try.underlying3 (hval 3 3 v3 rfl rfl) h3
  clear hA0 hval0
  refine (FnExactInsideAt_walk W _ _ _ _ w0 mx0 a1 a2 a3).mono fun e W' ⟨he, bel⟩ => ?_
  subst he
  exact ⟨_, rfl, _, _, _, [], _, [], hW', trodAll_mk1 (shut_bool Try.underlying4 _), (trodAll_cons_mk (Below.trod FnExactInsideAt_laid (by kernel_rfl) (of_decide_eq_true (by kernel_rfl)) k0 bel lt0) (trodAll_cons_mk (Below.trod FnExactInsideAt_laid (by kernel_rfl) (of_decide_eq_true (by kernel_rfl)) k1 bel lt1) (trodAll_cons_mk (Below.trod FnExactInsideAt_laid (by kernel_rfl) (of_decide_eq_true (by kernel_rfl)) k2 bel lt2) (trodAll_cons_mk (Below.trod FnExactInsideAt_laid (by kernel_rfl) (of_decide_eq_true (by kernel_rfl)) k3 bel lt3) trodAll_mk0)))), rfl, bel.frame _, fun h => by cases h⟩

theorem FnExactInsideAt_over : Rows.fnExactInsideAtRow.holds Try.pinned (OpenSpec.ofChange Rows.fnExactInsideAtSpec) :=
  OpenClaim.holds_of_wide 7 Try.f7 rfl rfl rfl rfl rfl rfl rfl ⟨rfl, rfl, rfl, rfl, rfl⟩ rfl rfl rfl rfl rfl (by kernel_rfl) Try.func7 (by kernel_rfl)
    (of_decide_eq_true (by kernel_rfl)) (by unfold Func.isWrapper; first | (rw [if_pos (by decide +kernel)]; kernel_rfl) | (rw [if_neg (by decide +kernel)]; exact ⟨rfl, rfl⟩))
    (fun os started H enc _ => FnExactInsideAt_lifted os started H enc)

/-- The statement. -/
theorem FnExactInsideAt_holds : Rows.FnExactInsideAtSaid := FnExactInsideAt_over
#print axioms FnExactInsideAt_holds

end Go.Proofs.Ytkbbbnlljenpeaa
