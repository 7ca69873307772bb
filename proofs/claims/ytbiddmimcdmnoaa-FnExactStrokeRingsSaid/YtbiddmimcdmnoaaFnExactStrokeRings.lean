/-
  FnExactStrokeRings holds: the program's StrokeRings returns what the reference's returns, leaves the list as it was, and returns memory of its own. No condition.
-/
import Derived.Test.YtbiddmimcdmnoaaOpenP
import Derived.Test.YtbiddmimcdmnoaaStrM
import Derived.Test.YtbiddmimcdmnoaaSStrk
import Derived.ProofKit
import Derived.OpenShut
import Derived.ShutString
import Derived.ChangeOld
import Derived.Lib.SmallJoins
namespace Go.Proofs.Ytbiddmimcdmnoaa
open Go.RowKit Pl Go.ChangeShapes Go.WideShapes Go.ChangeAt
open Go.ChangeMaps (open_string shut_string)

set_option linter.unusedSimpArgs false
set_option linter.unusedVariables false

theorem OwnRO.past {base base' : Nat} {wx w w' : World} {x v : Value} {lx : List Pt} {n : Nat} {f : Nat → List Pt} (hx : OwnP base wx x lx) (h0 : lx.length = 0 → n = 0) (hs : wx.heap.size ≤ base') (h : OwnRO base' w v n f) (hg : w.grownBy w' x.ownBlock) : OwnRO base' w' v n f := by
  obtain ⟨us, h1, h2, h3, h4⟩ := h
  have hw : 0 < us.length → Sep v.ownBlock x.ownBlock := fun hn =>
    (Sep.far (s := base') (fun g hg => Nat.lt_of_lt_of_le (OwnP.lt' hx (by omega) g hg) hs) (fun g hg => by
      obtain ⟨A, c, e, _, _, q, _⟩ := h1
      rw [e, blkA_own] at hg
      exact blkA_ge q g hg)).symm
  refine ⟨us, h1.apart hg hw, h2, fun i u hu => ?_, h4⟩
  obtain ⟨a, b, c⟩ := h3 i u hu
  have hi : i < us.length := (List.getElem?_eq_some_iff.1 hu).1
  exact ⟨OwnP.past hx (fun h => by have := h0 h; omega) hs a hg, b, c⟩

set_option maxRecDepth 100000 in
set_option maxHeartbeats 4000000 in
theorem FnExactStrokeRings_walk (w : World) (A : Option Addr) (n c : Nat) (l : List Pt) (h : IsPts w A n l) (hm : n ≤ maxLen) (half : Int) :
    Calls Try.prog 3 #[.slice A n c, .int .i64 half] w fun e w' => e = .returned (.bool true) ∧ Below w.heap.size w w' := by
  unfold maxLen at hm
  have HP := Lib.hid h
  clear h
  by_cases hn : 1048576 < n
  · go_enter Try.func3, Try.ntmps3
    go_wp2_with ((go_at_call 6; (with_reducible refine (szPointS_long hn (by omega) _).mono ?_); rintro e w1 ⟨rfl, rfl⟩))
    go_ret
    exact ⟨rfl, by (repeat' (first | (with_reducible exact Below.refl _ _) | (with_reducible assumption) | (with_reducible refine Below.alloc ?_ ?_ _) | (with_reducible refine below_drewN ?_ _) | (with_reducible refine Below.drew ?_) | (with_reducible refine Below.setCell ?_ ?_ _) | (with_reducible refine below_call (by assumption) ?_ ?_) | go_size))⟩
  · have hn' : n ≤ 1048576 := by omega
    have hh : ¬ (1048576 : Int) - (n : Int) < 0 := by omega
    have hk0 : ¬ 1 + 2 * (n : Int) < 0 := by omega
    obtain ⟨ok, hok⟩ : ∃ v, strokeOk l half = v := ⟨_, rfl⟩
    obtain ⟨L, hL⟩ : ∃ m, strokeR l half = m := ⟨_, rfl⟩
    have hll := HP.out.1
    have hL8 : L.length ≤ 8 := by rw [← hL]; exact strokeR_len l half
    have hL4 : ∀ r ∈ L, r.length ≤ 1048576 := fun r hr => by rw [← hL] at hr; have := strokeR_four l half r hr; omega
    have hL0 : l.length = 0 → L.length = 0 := fun h0 => by
      rw [← hL]; unfold strokeR; split
      · rw [strokeL_len, h0]; rfl
      · rfl
    have H1 := Lib.hid hok
    have H2 := Lib.hid hL
    have HL0 := Lib.hid hL0
    have HL4 := Lib.hid hL4
    clear hok hL hL0 hL4
    obtain ⟨N, hN⟩ : ∃ n0, L.length = n0 := ⟨_, rfl⟩
    rw [hN] at hL8
    have HF : Hid (∀ (i : Nat) (r : List Pt), L[i]? = some r → L.getD i [] = r) := Lib.hid fun i r hr => by rw [List.getD_eq_getElem?_getD, hr]; rfl
    have HN := Lib.hid hN
    have HL := Lib.hid hll
    clear hN hll
    have hk1 : ¬ 1 + 8 * (N : Int) < 0 := by omega
    go_enter Try.func3, Try.ntmps3
    go_wp2_with ((go_at_call 6; (with_reducible refine (szPointS_short hn' _).mono ?_); rintro e w1 ⟨rfl, rfl⟩))
    refine (toPointS_any c HP.out hn').mono ?_
    rintro e wa ⟨v0, rfl, ho0, hba⟩
    have hza := hba.size
    obtain ⟨A0, c0, rfl, _, _, hP0, _⟩ := ho0.form
    have HP0 := Lib.hid hP0
    rw [HL.out] at HP0 ⊢
    clear ho0 hP0
    go_wp2_with fail
    refine (sStrokeRings_eq c0 HP0.out (by omega) (Hid.out (by with_reducible assumption)) (Hid.out (by with_reducible assumption))).mono ?_
    rintro e wB ⟨v1, rfl, ho1, hbB⟩
    have hzB := hbB.size
    rw [HN.out] at ho1
    obtain ⟨A1, c1, rfl, _⟩ := ho1.form
    have HP1 := Lib.hid (ho1.isRs HN.out HF.out)
    clear ho1
    have HPB : Hid (IsPts wB A n l) := Lib.hid (HP.out.below (by (repeat' (first | (with_reducible exact Below.refl _ _) | (with_reducible assumption) | (with_reducible refine Below.alloc ?_ ?_ _) | (with_reducible refine below_drewN ?_ _) | (with_reducible refine Below.drew ?_) | (with_reducible refine Below.setCell ?_ ?_ _) | (with_reducible refine below_call (by assumption) ?_ ?_) | (with_reducible refine below_grown (by assumption) ?_ ?_ ?_) | omega | (simp; done) | (simp; omega)))))
    go_wp2_with fail
    refine (toPointS_any c HPB.out hn').mono ?_
    rintro e wx ⟨vx, rfl, hox, hbx⟩
    have hzx := hbx.size
    obtain ⟨Ax, cx, rfl, _⟩ := hox.form
    rw [HL.out] at hox ⊢
    have OX := Lib.hid hox
    clear hox
    go_wp2_with fail
    refine (StrokeRings_eq cx OX.out.pts' (by omega) (Hid.out (by with_reducible assumption)) (Hid.out (by with_reducible assumption))).mono ?_
    rintro e wg ⟨vg, rfl, hog, hbg⟩
    have hzg := hbg.size
    rw [HN.out] at hog
    obtain ⟨Ag, cg, rfl, _⟩ := hog.form
    have OG := Lib.hid hog
    clear hog
    go_wp2_with fail
    refine (eqPointSS_same cg c1 (OG.out.isRs HN.out HF.out) (HP1.out.below (by (repeat' (first | (with_reducible exact Below.refl _ _) | (with_reducible assumption) | (with_reducible refine Below.alloc ?_ ?_ _) | (with_reducible refine below_drewN ?_ _) | (with_reducible refine Below.drew ?_) | (with_reducible refine Below.setCell ?_ ?_ _) | (with_reducible refine below_call (by assumption) ?_ ?_) | (with_reducible refine below_grown (by assumption) ?_ ?_ ?_) | omega | (simp; done) | (simp; omega))))) (by omega) HL4.out).mono ?_
    rintro e w3 ⟨rfl, hb3⟩
    have hz3 := hb3.size
    go_wp2_with fail
    refine (toPointS_any c (HPB.out.below (by (repeat' (first | (with_reducible exact Below.refl _ _) | (with_reducible assumption) | (with_reducible refine Below.alloc ?_ ?_ _) | (with_reducible refine below_drewN ?_ _) | (with_reducible refine Below.drew ?_) | (with_reducible refine Below.setCell ?_ ?_ _) | (with_reducible refine below_call (by assumption) ?_ ?_) | (with_reducible refine below_grown (by assumption) ?_ ?_ ?_) | omega | (simp; done) | (simp; omega))))) hn').mono ?_
    rintro e w4 ⟨v4, rfl, ho4, hb4⟩
    have hz4 := hb4.size
    obtain ⟨A4, c4, rfl, _⟩ := ho4.form
    rw [HL.out] at ho4 ⊢
    have O4 := Lib.hid ho4
    clear ho4
    go_wp2_with fail
    refine (eqPointS_same cx c4 (OX.out.pts'.below (by (repeat' (first | (with_reducible exact Below.refl _ _) | (with_reducible assumption) | (with_reducible refine Below.alloc ?_ ?_ _) | (with_reducible refine below_drewN ?_ _) | (with_reducible refine Below.drew ?_) | (with_reducible refine Below.setCell ?_ ?_ _) | (with_reducible refine below_call (by assumption) ?_ ?_) | (with_reducible refine below_grown (by assumption) ?_ ?_ ?_) | omega | (simp; done) | (simp; omega))))) O4.out.pts' (by omega)).mono ?_
    rintro e w5 ⟨rfl, hb5⟩
    have hz5 := hb5.size
    go_wp2_with fail
    refine (markPointS_any (OX.out.below (by (repeat' (first | (with_reducible exact Below.refl _ _) | (with_reducible assumption) | (with_reducible refine Below.alloc ?_ ?_ _) | (with_reducible refine below_drewN ?_ _) | (with_reducible refine Below.drew ?_) | (with_reducible refine Below.setCell ?_ ?_ _) | (with_reducible refine below_call (by assumption) ?_ ?_) | (with_reducible refine below_grown (by assumption) ?_ ?_ ?_) | omega | (simp; done) | (simp; omega))))) hn' (by omega) (by omega)).mono ?_
    rintro e w6 ⟨rfl, _, hg6⟩
    have hb6 : Below wB.heap.size wB w6 := OX.out.markBelow (Nat.le_refl _) (by (repeat' (first | (with_reducible exact Below.refl _ _) | (with_reducible assumption) | (with_reducible refine Below.alloc ?_ ?_ _) | (with_reducible refine below_drewN ?_ _) | (with_reducible refine Below.drew ?_) | (with_reducible refine Below.setCell ?_ ?_ _) | (with_reducible refine below_call (by assumption) ?_ ?_) | (with_reducible refine below_grown (by assumption) ?_ ?_ ?_) | omega | (simp; done) | (simp; omega)))) (by omega) hg6
    have hz6 := hb6.size
    have hz6' := hg6.size
    have OG6 : Hid (OwnRO wx.heap.size w6 (.slice Ag N cg) N (fun i => L.getD i [])) := Lib.hid (OwnRO.past OX.out (fun h => by have := HL0.out h; have := HN.out; omega) (Nat.le_refl _) (OG.out.below (by (repeat' (first | (with_reducible exact Below.refl _ _) | (with_reducible assumption) | (with_reducible refine Below.alloc ?_ ?_ _) | (with_reducible refine below_drewN ?_ _) | (with_reducible refine Below.drew ?_) | (with_reducible refine Below.setCell ?_ ?_ _) | (with_reducible refine below_call (by assumption) ?_ ?_) | (with_reducible refine below_grown (by assumption) ?_ ?_ ?_) | omega | (simp; done) | (simp; omega))))) hg6)
    clear hg6
    go_wp2_with fail
    refine (eqPointSS_same cg c1 (OG6.out.isRs HN.out HF.out) (HP1.out.below (by (repeat' (first | (with_reducible exact Below.refl _ _) | (with_reducible assumption) | (with_reducible refine Below.alloc ?_ ?_ _) | (with_reducible refine below_drewN ?_ _) | (with_reducible refine Below.drew ?_) | (with_reducible refine Below.setCell ?_ ?_ _) | (with_reducible refine below_call (by assumption) ?_ ?_) | (with_reducible refine below_grown (by assumption) ?_ ?_ ?_) | omega | (simp; done) | (simp; omega))))) (by omega) HL4.out).mono ?_
    rintro e w7 ⟨rfl, hb7⟩
    have hz7 := hb7.size
    go_wp2_with fail
    refine (markPointSS_any (OG6.out.below (by (repeat' (first | (with_reducible exact Below.refl _ _) | (with_reducible assumption) | (with_reducible refine Below.alloc ?_ ?_ _) | (with_reducible refine below_drewN ?_ _) | (with_reducible refine Below.drew ?_) | (with_reducible refine Below.setCell ?_ ?_ _) | (with_reducible refine below_call (by assumption) ?_ ?_) | (with_reducible refine below_grown (by assumption) ?_ ?_ ?_) | omega | (simp; done) | (simp; omega))))) (by omega) (by omega) (by omega) (by omega)).mono ?_
    rintro e w8 ⟨rfl, ho8, hg8⟩
    have hb7' : Below wB.heap.size wB w7 := by (repeat' (first | (with_reducible exact Below.refl _ _) | (with_reducible assumption) | (with_reducible refine Below.alloc ?_ ?_ _) | (with_reducible refine below_drewN ?_ _) | (with_reducible refine Below.drew ?_) | (with_reducible refine Below.setCell ?_ ?_ _) | (with_reducible refine below_call (by assumption) ?_ ?_) | (with_reducible refine below_grown (by assumption) ?_ ?_ ?_) | omega | (simp; done) | (simp; omega)))
    have hb8 : Below wB.heap.size wB w8 := hb7'.trans (hg8.mono (by omega))
    have hz8 := hb8.size
    have O8 := Lib.hid ho8
    clear hg8 ho8
    go_wp2_with fail
    refine (heldPointSS_any O8.out (by omega) (by omega) (by omega)).mono ?_
    rintro e w8' ⟨rfl, rfl⟩
    go_wp2_with fail
    refine (toPointS_any c (HPB.out.below (by (repeat' (first | (with_reducible exact Below.refl _ _) | (with_reducible assumption) | (with_reducible refine Below.alloc ?_ ?_ _) | (with_reducible refine below_drewN ?_ _) | (with_reducible refine Below.drew ?_) | (with_reducible refine Below.setCell ?_ ?_ _) | (with_reducible refine below_call (by assumption) ?_ ?_) | (with_reducible refine below_grown (by assumption) ?_ ?_ ?_) | omega | (simp; done) | (simp; omega))))) hn').mono ?_
    rintro e w9 ⟨v9, rfl, ho9, hb9⟩
    have hz9 := hb9.size
    obtain ⟨A9, c9, rfl, _⟩ := ho9.form
    rw [HL.out] at ho9 ⊢
    have O9 := Lib.hid ho9
    clear ho9
    go_wp2_with fail
    refine (StrokeRings_eq c9 O9.out.pts' (by omega) (Hid.out (by with_reducible assumption)) (Hid.out (by with_reducible assumption))).mono ?_
    rintro e wh ⟨vh, rfl, hoh, hbh⟩
    have hzh := hbh.size
    rw [HN.out] at hoh
    obtain ⟨Ah, ch, rfl, _⟩ := hoh.form
    have OH := Lib.hid hoh
    clear hoh
    go_wp2_with fail
    refine (eqPointSS_same ch c1 (OH.out.isRs HN.out HF.out) (HP1.out.below (by (repeat' (first | (with_reducible exact Below.refl _ _) | (with_reducible assumption) | (with_reducible refine Below.alloc ?_ ?_ _) | (with_reducible refine below_drewN ?_ _) | (with_reducible refine Below.drew ?_) | (with_reducible refine Below.setCell ?_ ?_ _) | (with_reducible refine below_call (by assumption) ?_ ?_) | (with_reducible refine below_grown (by assumption) ?_ ?_ ?_) | omega | (simp; done) | (simp; omega))))) (by omega) HL4.out).mono ?_
    rintro e wi ⟨rfl, hbi⟩
    have hzi := hbi.size
    go_wp2_with fail
    refine (heldPointSS_any (O8.out.below (by (repeat' (first | (with_reducible exact Below.refl _ _) | (with_reducible assumption) | (with_reducible refine Below.alloc ?_ ?_ _) | (with_reducible refine below_drewN ?_ _) | (with_reducible refine Below.drew ?_) | (with_reducible refine Below.setCell ?_ ?_ _) | (with_reducible refine below_call (by assumption) ?_ ?_) | (with_reducible refine below_grown (by assumption) ?_ ?_ ?_) | omega | (simp; done) | (simp; omega))))) (by omega) (by omega) (by omega)).mono ?_
    rintro e wi' ⟨rfl, rfl⟩
    go_wp2_with fail
    all_goals (go_ret; exact ⟨rfl, by (repeat' (first | (with_reducible exact Below.refl _ _) | (with_reducible assumption) | (with_reducible refine Below.alloc ?_ ?_ _) | (with_reducible refine below_drewN ?_ _) | (with_reducible refine Below.drew ?_) | (with_reducible refine Below.setCell ?_ ?_ _) | (with_reducible refine below_call (by assumption) ?_ ?_) | (with_reducible refine below_grown (by assumption) ?_ ?_ ?_) | omega | (simp; done) | (simp; omega)))⟩)

theorem FnExactStrokeRings_own : ownKnob Try.prog.godebug = none := by kernel_rfl
theorem FnExactStrokeRings_laid : laidOutB Try.prog = true := by kernel_rfl

set_option maxRecDepth 100000 in
theorem FnExactStrokeRings_lifted (os : Os) (started : os.Started) (H : Type) (enc : TypeId × Value → H) :
    ReturnsInHanded {} Try.checked os 3 .any (Rows.fnExactStrokeRingsSpec.pre6 enc Try.prog Try.f3 Rows.fnExactStrokeRingsRow.domain false) (Rows.fnExactStrokeRingsSpec.post enc Try.prog Try.f3 false true false false) := by
  refine returnsInHanded_of_change (C := Try.checked) FnExactStrokeRings_own started (by kernel_rfl) Try.func3
    (ChangeSpec.witness6 (enc := enc) (C := Try.checked) false ⟨#[], #[.slice none 0 0, .int .i64 0], []⟩ 8 (by kernel_rfl) (by kernel_rfl) (by kernel_rfl) (by kernel_rfl)) ?_
  intro W base args ds gs before hval0 hW hcnd _
  have hval : ∀ (j : Nat) t v, Try.f3.params[j]? = some t → args[j]? = some v → Value.okWide Try.prog W .any base t v := hval0
  have hW' := hW
  obtain ⟨p, q, hA0, hV, rfl, hfz, hnd⟩ := hW
  have hA : DataW.TrodAll enc Try.prog W 0 (fun _ => true) true Try.f3.params.toList args.toList ds p := hA0
  rw [Try.params3] at hA hval
  obtain ⟨v0, vs0, d0, ds0, p0, q0, hargs, rfl, rfl, h0, r0⟩ := trodAll_cons hA
  obtain ⟨v1, vs1, d1, ds1, p1, q1, rfl, rfl, rfl, h1, r1⟩ := trodAll_cons r0
  obtain ⟨rfl, rfl, rfl⟩ := trodAll_nil r1
  obtain rfl : args = #[v0, v1] := by cases args; simp_all
  obtain ⟨rfl, rfl⟩ := trodVars_none hV
  have k0 := h0
  have lt0 : ∀ x ∈ p0, x.block < W.heap.size := by obtain ⟨m, hm⟩ := k0; exact DataW.trod_lt m _ _ _ hm
  obtain ⟨a0, len0, cap0, rfl⟩ := okWide_slice Try.underlying22 (hval 0 22 v0 rfl rfl)
  obtain ⟨mx0, l0, w0⟩ := pts_of rfl Try.underlying22 Try.underlying45 (by kernel_rfl) (by kernel_rfl) (by kernel_rfl) h0
  have k1 := h1
  have lt1 : ∀ x ∈ p1, x.block < W.heap.size := by obtain ⟨m, hm⟩ := k1; exact DataW.trod_lt m _ _ _ hm
  obtain ⟨a1, rfl, rfl, rfl, w1⟩ := open_int Try.underlying3 (hval 1 3 v1 rfl rfl) h1
  clear hA0 hval0
  refine (FnExactStrokeRings_walk W _ _ _ _ w0 mx0 a1).mono fun e W' ⟨he, bel⟩ => ?_
  subst he
  exact ⟨_, rfl, _, _, _, [], _, [], hW', trodAll_mk1 (shut_bool Try.underlying4 _), (trodAll_cons_mk (Below.trod FnExactStrokeRings_laid (by kernel_rfl) (of_decide_eq_true (by kernel_rfl)) k0 bel lt0) (trodAll_cons_mk (Below.trod FnExactStrokeRings_laid (by kernel_rfl) (of_decide_eq_true (by kernel_rfl)) k1 bel lt1) trodAll_mk0)), rfl, bel.frame _, fun h => by cases h⟩

theorem FnExactStrokeRings_over : Rows.fnExactStrokeRingsRow.holds Try.pinned (OpenSpec.ofChange Rows.fnExactStrokeRingsSpec) :=
  OpenClaim.holds_of_wide 3 Try.f3 rfl rfl rfl rfl rfl rfl rfl ⟨rfl, rfl, rfl, rfl, rfl⟩ rfl rfl rfl rfl rfl (by kernel_rfl) Try.func3 (by kernel_rfl)
    (of_decide_eq_true (by kernel_rfl)) (by unfold Func.isWrapper; first | (rw [if_pos (by decide +kernel)]; kernel_rfl) | (rw [if_neg (by decide +kernel)]; exact ⟨rfl, rfl⟩))
    (fun os started H enc _ => FnExactStrokeRings_lifted os started H enc)

/-- The statement. -/
theorem FnExactStrokeRings_holds : Rows.FnExactStrokeRingsSaid := FnExactStrokeRings_over
#print axioms FnExactStrokeRings_holds

end Go.Proofs.Ytbiddmimcdmnoaa
