/-
  FnFrameGap holds. Whatever the generator gives. No condition.
-/
import Derived.Test.YtiocgklfkckomaaDrawFr4
import Derived.Test.YtiocgklfkckomaaFrEq
import Derived.ProofKit
import Derived.OpenShut
import Derived.ShutString
import Derived.ChangeOld
import Derived.Lib.SmallJoins
namespace Go.Proofs.Ytiocgklfkckomaa
open Go.RowKit Pl Go.ChangeShapes Go.WideShapes Go.ChangeAt
open Go.ChangeMaps (open_string shut_string)

set_option linter.unusedSimpArgs false
set_option linter.unusedVariables false

theorem gapR_nn {x y v : Int} {l l' : List Cl} (h : gapR x y l x y l' = v) (hv : ¬ v < 0) : frameB x y l = true ∧ frameB x y l' = true ∧ gapU l l' l.length = v := by
  unfold gapR at h
  split at h
  · rename_i hc
    simp only [Bool.and_eq_true] at hc
    exact ⟨hc.1, hc.2.1, h⟩
  · omega
theorem gapR_ok {x y : Int} {l l' : List Cl} (h : frameB x y l = true) (h' : frameB x y l' = true) : gapR x y l x y l' = gapU l l' l.length := by
  unfold gapR
  rw [if_pos (by simp [h, h'])]

set_option maxRecDepth 100000 in
set_option maxHeartbeats 2000000 in
theorem FnFrameGap_walk (w : World) (A : Option Addr) (n c : Nat) (h : Code w A n c) :
    Calls Try.prog 4 #[.slice A n c] w fun e w' => e = .returned (.bool true) ∧ Below w.heap.size w w' := by
  by_cases hn : 1048576 < n
  · go_enter Try.func4, Try.ntmps4
    go_wp2
    go_ret
    exact ⟨rfl, by (repeat' (first | (with_reducible exact Below.refl _ _) | (with_reducible assumption) | (with_reducible refine Below.alloc ?_ ?_ _) | (with_reducible refine below_drewN ?_ _) | (with_reducible refine Below.drew ?_) | (with_reducible refine Below.setCell ?_ ?_ _) | (with_reducible refine below_call (by assumption) ?_ ?_) | go_size))⟩
  · go_enter Try.func4, Try.ntmps4
    go_wp2_with fail
    refine (DrawFrameGap_any (h.below (by (repeat' (first | (with_reducible exact Below.refl _ _) | (with_reducible assumption) | (with_reducible refine Below.alloc ?_ ?_ _) | (with_reducible refine below_drewN ?_ _) | (with_reducible refine Below.drew ?_) | (with_reducible refine Below.setCell ?_ ?_ _) | (with_reducible refine below_call (by assumption) ?_ ?_) | go_size))))).mono ?_
    rintro e wd ⟨x, y, p, gp, cp, gq, cq, rfl, hp1, hp2, hNa, hNb, hb⟩
    have hz0 := hb.size
    obtain ⟨la, hla⟩ := hNa.cs
    obtain ⟨lb, hlb⟩ := hNb.cs
    have LA := Lib.hid hla.1
    have LB := Lib.hid hlb.1
    have HA := Lib.hid hla
    have HB := Lib.hid hlb
    obtain ⟨v, hv⟩ : ∃ v, gapR x y la x y lb = v := ⟨_, rfl⟩
    have HV := Lib.hid hv
    clear hla hlb hNa hNb hv
    go_wp2_with fail
    refine (FrameGap_eq cp cq (HA.out.below (by (repeat' (first | (with_reducible exact Below.refl _ _) | (with_reducible assumption) | (with_reducible refine Below.alloc ?_ ?_ _) | (with_reducible refine below_drewN ?_ _) | (with_reducible refine Below.drew ?_) | (with_reducible refine Below.setCell ?_ ?_ _) | (with_reducible refine below_call (by assumption) ?_ ?_) | (with_reducible refine below_grown (by assumption) ?_ ?_ ?_) | omega | (simp; done) | (simp; omega))))) (HB.out.below (by (repeat' (first | (with_reducible exact Below.refl _ _) | (with_reducible assumption) | (with_reducible refine Below.alloc ?_ ?_ _) | (with_reducible refine below_drewN ?_ _) | (with_reducible refine Below.drew ?_) | (with_reducible refine Below.setCell ?_ ?_ _) | (with_reducible refine below_call (by assumption) ?_ ?_) | (with_reducible refine below_grown (by assumption) ?_ ?_ ?_) | omega | (simp; done) | (simp; omega))))) (by omega) (by omega) HV.out).mono ?_
    rintro e wa ⟨rfl, hba⟩
    have hza := hba.size
    simp at hza
    have hka := blk_below (blk_alloc (blk_new wd (.cells #[.int .i64 x, .int .i64 y, .slice (some ⟨gp, 0, none⟩) p cp] 29)) (.cells #[.int .i64 x, .int .i64 y, .slice (some ⟨gq, 0, none⟩) p cq] 29)) hba
    have hkb := blk_below (blk_new1 wd (.cells #[.int .i64 x, .int .i64 y, .slice (some ⟨gp, 0, none⟩) p cp] 29) (.cells #[.int .i64 x, .int .i64 y, .slice (some ⟨gq, 0, none⟩) p cq] 29)) hba
    have hca := blk_cell hka
    have hca1 := blk_lt hka
    have hcb := blk_cell hkb
    have hcb1 := blk_lt hkb
    have HA1 : Hid (IsCs wa _ p la) := Lib.hid (HA.out.below (by (repeat' (first | (with_reducible exact Below.refl _ _) | (with_reducible assumption) | (with_reducible refine Below.alloc ?_ ?_ _) | (with_reducible refine below_drewN ?_ _) | (with_reducible refine Below.drew ?_) | (with_reducible refine Below.setCell ?_ ?_ _) | (with_reducible refine below_call (by assumption) ?_ ?_) | (with_reducible refine below_grown (by assumption) ?_ ?_ ?_) | omega | (simp; done) | (simp; omega)))))
    have HB1 : Hid (IsCs wa _ p lb) := Lib.hid (HB.out.below (by (repeat' (first | (with_reducible exact Below.refl _ _) | (with_reducible assumption) | (with_reducible refine Below.alloc ?_ ?_ _) | (with_reducible refine below_drewN ?_ _) | (with_reducible refine Below.drew ?_) | (with_reducible refine Below.setCell ?_ ?_ _) | (with_reducible refine below_call (by assumption) ?_ ?_) | (with_reducible refine below_grown (by assumption) ?_ ?_ ?_) | omega | (simp; done) | (simp; omega)))))
    have Ba : Hid (Below w.heap.size w wa) := Lib.hid (by (repeat' (first | (with_reducible exact Below.refl _ _) | (with_reducible assumption) | (with_reducible refine Below.alloc ?_ ?_ _) | (with_reducible refine below_drewN ?_ _) | (with_reducible refine Below.drew ?_) | (with_reducible refine Below.setCell ?_ ?_ _) | (with_reducible refine below_call (by assumption) ?_ ?_) | (with_reducible refine below_grown (by assumption) ?_ ?_ ?_) | omega | (simp; done) | (simp; omega))))
    go_wp2_with fail
    refine (sFrameGap_eq cp cq HA1.out HB1.out (by omega) (by omega) HV.out).mono ?_
    rintro e wb ⟨rfl, hbb⟩
    have hzb := hbb.size
    have hka := blk_below hka hbb
    have hkb := blk_below hkb hbb
    have HA2 : Hid (IsCs wb _ p la) := Lib.hid (HA1.out.below (by (repeat' (first | (with_reducible exact Below.refl _ _) | (with_reducible assumption) | (with_reducible refine Below.alloc ?_ ?_ _) | (with_reducible refine below_drewN ?_ _) | (with_reducible refine Below.drew ?_) | (with_reducible refine Below.setCell ?_ ?_ _) | (with_reducible refine below_call (by assumption) ?_ ?_) | (with_reducible refine below_grown (by assumption) ?_ ?_ ?_) | omega | (simp; done) | (simp; omega)))))
    have HB2 : Hid (IsCs wb _ p lb) := Lib.hid (HB1.out.below (by (repeat' (first | (with_reducible exact Below.refl _ _) | (with_reducible assumption) | (with_reducible refine Below.alloc ?_ ?_ _) | (with_reducible refine below_drewN ?_ _) | (with_reducible refine Below.drew ?_) | (with_reducible refine Below.setCell ?_ ?_ _) | (with_reducible refine below_call (by assumption) ?_ ?_) | (with_reducible refine below_grown (by assumption) ?_ ?_ ?_) | omega | (simp; done) | (simp; omega)))))
    have Bb : Hid (Below w.heap.size w wb) := Lib.hid (Ba.out.trans (hbb.mono (by omega)))
    have KA := Lib.hid hka
    have KB := Lib.hid hkb
    clear hca hcb hca1 hcb1 hb hba hbb
    have hca := blk_cell hka
    have hca1 := blk_lt hka
    have hcb := blk_cell hkb
    have hcb1 := blk_lt hkb
    clear hka hkb
    by_cases hneg : v < 0
    · have en : decide (v < 0) = true := decide_eq_true hneg
      go_wp2_with fail
      refine (sFrameGap_eq cp cq HA2.out HB2.out (by omega) (by omega) HV.out).mono ?_
      rintro e wc ⟨rfl, hbc⟩
      have hzc := hbc.size
      have hb := Bb.out
      go_wp2
      go_ret
      exact ⟨by simp, by (repeat' (first | (with_reducible exact Below.refl _ _) | (with_reducible assumption) | (with_reducible refine Below.alloc ?_ ?_ _) | (with_reducible refine below_drewN ?_ _) | (with_reducible refine Below.drew ?_) | (with_reducible refine Below.setCell ?_ ?_ _) | (with_reducible refine below_call (by assumption) ?_ ?_) | (with_reducible refine below_grown (by assumption) ?_ ?_ ?_) | omega | (simp; done) | (simp; omega)))⟩
    · have en : decide (v < 0) = false := decide_eq_false hneg
      obtain ⟨fa, fb, hg⟩ := gapR_nn HV.out hneg
      rw [LA.out] at hg
      have hr : gapR x y lb x y la = v := by rw [gapR_ok fb fa, gapU_comm, LB.out, hg]
      have hle : v ≤ p := by have := (gapU_in la lb p).2; omega
      have HR := Lib.hid hr
      have HG := Lib.hid hg
      clear hr hg fa fb
      go_wp2_with fail
      refine (FrameGap_eq cq cp HB2.out HA2.out (by omega) (by omega) HR.out).mono ?_
      rintro e wc ⟨rfl, hbc⟩
      have hzc := hbc.size
      have hka := blk_below KA.out hbc
      have hkb := blk_below KB.out hbc
      have HA3 := Lib.hid (HA2.out.below hbc)
      have HB3 := Lib.hid (HB2.out.below hbc)
      have Bc : Hid (Below w.heap.size w wc) := Lib.hid (Bb.out.trans (hbc.mono (by omega)))
      clear hca hcb hca1 hcb1 hbc
      have hca := blk_cell hka
      have hca1 := blk_lt hka
      have hcb := blk_cell hkb
      have hcb1 := blk_lt hkb
      have HK := Lib.hid hka
      clear hka hkb
      have hpi : v ≤ (p : Int) := hle
      have hpd : decide (v ≤ (p : Int)) = true := decide_eq_true hle
      go_wp2_with fail
      refine (equalFrame_eq (v := decide (v = 0)) cp cq HA3.out HB3.out (by omega) (by rw [HG.out])).mono ?_
      rintro e we ⟨rfl, hbe⟩
      have hze := hbe.size
      have hka := blk_below HK.out hbe
      have hcae := blk_cell hka
      have hcae1 := blk_lt hka
      have hb := Bc.out
      clear hka hca hca1 hcb hcb1
      go_wp2
      go_ret
      exact ⟨by simp, by (repeat' (first | (with_reducible exact Below.refl _ _) | (with_reducible assumption) | (with_reducible refine Below.alloc ?_ ?_ _) | (with_reducible refine below_drewN ?_ _) | (with_reducible refine Below.drew ?_) | (with_reducible refine Below.setCell ?_ ?_ _) | (with_reducible refine below_call (by assumption) ?_ ?_) | (with_reducible refine below_grown (by assumption) ?_ ?_ ?_) | omega | (simp; done) | (simp; omega)))⟩

theorem FnFrameGap_own : ownKnob Try.prog.godebug = none := by kernel_rfl
theorem FnFrameGap_laid : laidOutB Try.prog = true := by kernel_rfl

set_option maxRecDepth 100000 in
theorem FnFrameGap_lifted (os : Os) (started : os.Started) (H : Type) (enc : TypeId × Value → H) :
    ReturnsInHanded {} Try.checked os 4 .any (Rows.fnFrameGapSpec.pre6 enc Try.prog Try.f4 Rows.fnFrameGapRow.domain false) (Rows.fnFrameGapSpec.post enc Try.prog Try.f4 false true false false) := by
  refine returnsInHanded_of_change (C := Try.checked) FnFrameGap_own started (by kernel_rfl) Try.func4
    (ChangeSpec.witness6 (enc := enc) (C := Try.checked) false ⟨#[], #[.slice none 0 0], []⟩ 8 (by kernel_rfl) (by kernel_rfl) (by kernel_rfl) (by kernel_rfl)) ?_
  intro W base args ds gs before hval0 hW hcnd _
  have hval : ∀ (j : Nat) t v, Try.f4.params[j]? = some t → args[j]? = some v → Value.okWide Try.prog W .any base t v := hval0
  have hW' := hW
  obtain ⟨p, q, hA0, hV, rfl, hfz, hnd⟩ := hW
  have hA : DataW.TrodAll enc Try.prog W 0 (fun _ => true) true Try.f4.params.toList args.toList ds p := hA0
  rw [Try.params4] at hA hval
  obtain ⟨v0, vs0, d0, ds0, p0, q0, hargs, rfl, rfl, h0, r0⟩ := trodAll_cons hA
  obtain ⟨rfl, rfl, rfl⟩ := trodAll_nil r0
  obtain rfl : args = #[v0] := by cases args; simp_all
  obtain ⟨rfl, rfl⟩ := trodVars_none hV
  have k0 := h0
  have lt0 : ∀ x ∈ p0, x.block < W.heap.size := by obtain ⟨m, hm⟩ := k0; exact DataW.trod_lt m _ _ _ hm
  obtain ⟨a0, len0, cap0, rfl⟩ := okWide_slice Try.underlying33 (hval 0 33 v0 rfl rfl)
  have w0 := code_of Try.underlying33 Try.underlying5 (by kernel_rfl) h0
  clear hA0 hval0
  refine (FnFrameGap_walk W _ _ _ w0).mono fun e W' ⟨he, bel⟩ => ?_
  subst he
  exact ⟨_, rfl, _, _, _, [], _, [], hW', trodAll_mk1 (shut_bool Try.underlying4 _), (trodAll_cons_mk (Below.trod FnFrameGap_laid (by kernel_rfl) (of_decide_eq_true (by kernel_rfl)) k0 bel lt0) trodAll_mk0), rfl, bel.frame _, fun h => by cases h⟩

theorem FnFrameGap_over : Rows.fnFrameGapRow.holds Try.pinned (OpenSpec.ofChange Rows.fnFrameGapSpec) :=
  OpenClaim.holds_of_wide 4 Try.f4 rfl rfl rfl rfl rfl rfl rfl ⟨rfl, rfl, rfl, rfl, rfl⟩ rfl rfl rfl rfl rfl (by kernel_rfl) Try.func4 (by kernel_rfl)
    (of_decide_eq_true (by kernel_rfl)) (by unfold Func.isWrapper; first | (rw [if_pos (by decide +kernel)]; kernel_rfl) | (rw [if_neg (by decide +kernel)]; exact ⟨rfl, rfl⟩))
    (fun os started H enc _ => FnFrameGap_lifted os started H enc)

/-- The statement. -/
theorem FnFrameGap_holds : Rows.FnFrameGapSaid := FnFrameGap_over
#print axioms FnFrameGap_holds

end Go.Proofs.Ytiocgklfkckomaa
