/-
  FnExactFlattenCurve holds: the program's FlattenCurve returns what the reference's returns, leaves the curve as it was, and returns memory of its own. No condition.
-/
import Derived.Test.YtmddkhincpibhaaOpenP
import Derived.Test.YtmddkhincpibhaaExQ
import Derived.Test.YtmddkhincpibhaaDrawL
import Derived.Test.YtmddkhincpibhaaFlat
import Derived.ProofKit
import Derived.OpenShut
import Derived.ShutString
import Derived.ChangeOld
import Derived.Lib.SmallJoins
namespace Go.Proofs.Ytmddkhincpibhaa
open Go.RowKit Pl Go.ChangeShapes Go.WideShapes Go.ChangeAt
open Go.ChangeMaps (open_string shut_string)

set_option linter.unusedSimpArgs false
set_option linter.unusedVariables false

theorem OwnP.pts {base : Nat} {w : World} {A : Option Addr} {n c : Nat} {l : List Pt} (h : OwnP base w (.slice A n c) l) : IsPts w A n l := by
  obtain ⟨A', c', e, _, _, h', _⟩ := h.form
  cases e; exact h'

theorem mark_past {base base' : Nat} {wx w w' : World} {A : Option Addr} {n c : Nat} {l m : List Pt} {v : Value} (hx : OwnP base wx (.slice A n c) l) (hs : wx.heap.size ≤ base') (h : OwnP base' w v m) (hg : w.grownBy w' (Value.slice A n c).ownBlock) (h0 : l.length = 0 → m.length = 0) : OwnP base' w' v m := by
  rcases Nat.eq_zero_or_pos l.length with hz | hz
  · have := List.length_eq_zero_iff.1 (h0 hz); subst this
    obtain ⟨A', c', e, h1, h2, h3, h4⟩ := h
    exact ⟨A', c', e, h1, h2, h3, fun h => absurd h (by simp)⟩
  · obtain ⟨A', c', e, k1, k2, k3, k4⟩ := hx
    cases e
    obtain ⟨g, cur, rfl, hgb, _⟩ := k4 hz
    exact h.grown hg (Nat.lt_of_lt_of_le (blk_lt hgb) hs)

theorem mark_below {B base : Nat} {a wx w w' : World} {A : Option Addr} {n c : Nat} {l : List Pt} (hx : OwnP base wx (.slice A n c) l) (hB : B ≤ base) (h : Below B a w) (hw : B ≤ w.heap.size) (hg : w.grownBy w' (Value.slice A n c).ownBlock) : Below B a w' :=
  h.grown hg hw fun k hk => by
    obtain ⟨A', c', e, k1, k2, k3, k4⟩ := hx
    cases e
    cases A with
    | none => simp [Value.ownBlock] at hk
    | some a => simp only [Value.ownBlock, Option.some.injEq] at hk; have := k3 a rfl; omega

set_option maxRecDepth 100000 in
set_option maxHeartbeats 4000000 in
theorem FnExactFlattenCurve_walk (w : World) (A : Option Addr) (n c : Nat) (l : List Pt) (h : IsPts w A n l) (hm : n ≤ maxLen) (lim dep : Int) :
    Calls Try.prog 15 #[.slice A n c, .int .i64 lim, .int .i64 dep] w fun e w' => e = .returned (.bool true) ∧ Below w.heap.size w w' := by
  unfold maxLen at hm
  have HP := Lib.hid h
  clear h
  by_cases hn : 1048576 < n
  · go_enter Try.func15, Try.ntmps15
    go_wp2_with ((go_at_call 23; (with_reducible refine (szPointS_long hn (by omega) _).mono ?_); rintro e w1 ⟨rfl, rfl⟩))
    go_ret
    exact ⟨rfl, by (repeat' (first | (with_reducible exact Below.refl _ _) | (with_reducible assumption) | (with_reducible refine Below.alloc ?_ ?_ _) | (with_reducible refine below_drewN ?_ _) | (with_reducible refine Below.drew ?_) | (with_reducible refine Below.setCell ?_ ?_ _) | (with_reducible refine below_call (by assumption) ?_ ?_) | go_size))⟩
  · have hn' : n ≤ 1048576 := by omega
    have hh : ¬ (1048576 : Int) - (n : Int) < 0 := by omega
    have hk0 : ¬ 1 + 2 * (n : Int) < 0 := by omega
    obtain ⟨m, hm⟩ : ∃ m, flatR l lim dep = m := ⟨_, rfl⟩
    have hll := HP.out.1
    have hm41 : m.length ≤ 17 ∧ (l.length = 0 → m.length = 0) := by
      refine ⟨by rw [← hm]; exact flatR_len l lim dep, fun h0 => ?_⟩
      rw [← hm, flatR, if_neg]
      · rfl
      · intro h; simp only [flatOk, Bool.and_eq_true] at h
        obtain ⟨q1, _⟩ := curveB_parts h.1; omega
    have HM0 : Hid (l.length = 0 → m.length = 0) := Lib.hid hm41.2
    have hm41 := hm41.1
    have H2 := Lib.hid hm
    clear hm
    obtain ⟨n1, hn1⟩ : ∃ n0, m.length = n0 := ⟨_, rfl⟩
    rw [hn1] at hm41
    have HM := Lib.hid hn1
    have HL := Lib.hid hll
    clear hn1 hll
    have hk1 : ¬ 1 + 2 * (n1 : Int) < 0 := by omega
    go_enter Try.func15, Try.ntmps15
    go_wp2_with ((go_at_call 23; (with_reducible refine (szPointS_short hn' _).mono ?_); rintro e w1 ⟨rfl, rfl⟩))
    refine (toPointS_any c HP.out hn').mono ?_
    rintro e wa ⟨v0, rfl, ho0, hba⟩
    have hza := hba.size
    obtain ⟨A0, c0, rfl, _, _, hP0, _⟩ := ho0.form
    have HP0 := Lib.hid hP0
    rw [HL.out] at HP0 ⊢
    clear ho0 hP0
    go_wp2_with fail
    refine (sFlattenCurve_eq c0 HP0.out (by omega) (Hid.out (by with_reducible assumption))).mono ?_
    rintro e wB ⟨v1, rfl, ho1, hbB⟩
    have hzB := hbB.size
    obtain ⟨A1, c1, rfl, _, _, hP1, _⟩ := ho1.form
    have HP1 := Lib.hid hP1
    rw [HM.out] at HP1 ⊢
    clear ho1 hP1
    have HPB : Hid (IsPts wB A n l) := Lib.hid (HP.out.below (by (repeat' (first | (with_reducible exact Below.refl _ _) | (with_reducible assumption) | (with_reducible refine Below.alloc ?_ ?_ _) | (with_reducible refine below_drewN ?_ _) | (with_reducible refine Below.drew ?_) | (with_reducible refine Below.setCell ?_ ?_ _) | (with_reducible refine below_call (by assumption) ?_ ?_) | (with_reducible refine below_grown (by assumption) ?_ ?_ ?_) | omega | (simp; done) | (simp; omega)))))
    go_wp2_with fail
    refine (toPointS_any c HPB.out hn').mono ?_
    rintro e wx ⟨vx, rfl, hox, hbx⟩
    have hzx := hbx.size
    obtain ⟨Ax, cx, rfl, _⟩ := hox.form
    rw [HL.out] at hox ⊢
    have OX := Lib.hid hox
    clear hox
    go_wp2_with fail
    refine (FlattenCurve_eq cx OX.out.pts (by omega) (Hid.out (by with_reducible assumption))).mono ?_
    rintro e wg ⟨vg, rfl, hog, hbg⟩
    have hzg := hbg.size
    obtain ⟨Ag, cg, rfl, _⟩ := hog.form
    rw [HM.out] at hog ⊢
    have OG := Lib.hid hog
    clear hog
    go_wp2_with fail
    refine (eqPointS_same cg c1 OG.out.pts (HP1.out.below (by (repeat' (first | (with_reducible exact Below.refl _ _) | (with_reducible assumption) | (with_reducible refine Below.alloc ?_ ?_ _) | (with_reducible refine below_drewN ?_ _) | (with_reducible refine Below.drew ?_) | (with_reducible refine Below.setCell ?_ ?_ _) | (with_reducible refine below_call (by assumption) ?_ ?_) | (with_reducible refine below_grown (by assumption) ?_ ?_ ?_) | omega | (simp; done) | (simp; omega))))) (by omega)).mono ?_
    rintro e w3 ⟨rfl, hb3⟩
    have hz3 := hb3.size
    go_wp2_with fail
    refine (toPointS_any c (HPB.out.below (by (repeat' (first | (with_reducible exact Below.refl _ _) | (with_reducible assumption) | (with_reducible refine Below.alloc ?_ ?_ _) | (with_reducible refine below_drewN ?_ _) | (with_reducible refine Below.drew ?_) | (with_reducible refine Below.setCell ?_ ?_ _) | (with_reducible refine below_call (by assumption) ?_ ?_) | (with_reducible refine below_grown (by assumption) ?_ ?_ ?_) | omega | (simp; done) | (simp; omega))))) hn').mono ?_
    rintro e w4 ⟨v4, rfl, ho4, hb4⟩
    have hz4 := hb4.size
    obtain ⟨A4, c4, rfl, _⟩ := ho4.form
    rw [HL.out] at ho4 ⊢
    have O4 := Lib.hid ho4
    clear ho4
    go_wp2_with fail
    refine (eqPointS_same cx c4 (OX.out.pts.below (by (repeat' (first | (with_reducible exact Below.refl _ _) | (with_reducible assumption) | (with_reducible refine Below.alloc ?_ ?_ _) | (with_reducible refine below_drewN ?_ _) | (with_reducible refine Below.drew ?_) | (with_reducible refine Below.setCell ?_ ?_ _) | (with_reducible refine below_call (by assumption) ?_ ?_) | (with_reducible refine below_grown (by assumption) ?_ ?_ ?_) | omega | (simp; done) | (simp; omega))))) O4.out.pts (by omega)).mono ?_
    rintro e w5 ⟨rfl, hb5⟩
    have hz5 := hb5.size
    go_wp2_with fail
    refine (markPointS_any (OX.out.below (by (repeat' (first | (with_reducible exact Below.refl _ _) | (with_reducible assumption) | (with_reducible refine Below.alloc ?_ ?_ _) | (with_reducible refine below_drewN ?_ _) | (with_reducible refine Below.drew ?_) | (with_reducible refine Below.setCell ?_ ?_ _) | (with_reducible refine below_call (by assumption) ?_ ?_) | (with_reducible refine below_grown (by assumption) ?_ ?_ ?_) | omega | (simp; done) | (simp; omega))))) hn' (by omega) (by omega)).mono ?_
    rintro e w6 ⟨rfl, _, hg6⟩
    have hb6 : Below wB.heap.size wB w6 := mark_below OX.out (Nat.le_refl _) (by (repeat' (first | (with_reducible exact Below.refl _ _) | (with_reducible assumption) | (with_reducible refine Below.alloc ?_ ?_ _) | (with_reducible refine below_drewN ?_ _) | (with_reducible refine Below.drew ?_) | (with_reducible refine Below.setCell ?_ ?_ _) | (with_reducible refine below_call (by assumption) ?_ ?_) | (with_reducible refine below_grown (by assumption) ?_ ?_ ?_) | omega | (simp; done) | (simp; omega)))) (by omega) hg6
    have hz6 := hb6.size
    have OG6 : Hid (OwnP wx.heap.size w6 (.slice Ag n1 cg) m) := Lib.hid (mark_past OX.out (Nat.le_refl _) (OG.out.below (by (repeat' (first | (with_reducible exact Below.refl _ _) | (with_reducible assumption) | (with_reducible refine Below.alloc ?_ ?_ _) | (with_reducible refine below_drewN ?_ _) | (with_reducible refine Below.drew ?_) | (with_reducible refine Below.setCell ?_ ?_ _) | (with_reducible refine below_call (by assumption) ?_ ?_) | (with_reducible refine below_grown (by assumption) ?_ ?_ ?_) | omega | (simp; done) | (simp; omega))))) hg6 HM0.out)
    clear hg6
    go_wp2_with fail
    refine (eqPointS_same cg c1 OG6.out.pts (HP1.out.below (by (repeat' (first | (with_reducible exact Below.refl _ _) | (with_reducible assumption) | (with_reducible refine Below.alloc ?_ ?_ _) | (with_reducible refine below_drewN ?_ _) | (with_reducible refine Below.drew ?_) | (with_reducible refine Below.setCell ?_ ?_ _) | (with_reducible refine below_call (by assumption) ?_ ?_) | (with_reducible refine below_grown (by assumption) ?_ ?_ ?_) | omega | (simp; done) | (simp; omega))))) (by omega)).mono ?_
    rintro e w7 ⟨rfl, hb7⟩
    have hz7 := hb7.size
    go_wp2_with fail
    refine (markPointS_any (OG6.out.below (by (repeat' (first | (with_reducible exact Below.refl _ _) | (with_reducible assumption) | (with_reducible refine Below.alloc ?_ ?_ _) | (with_reducible refine below_drewN ?_ _) | (with_reducible refine Below.drew ?_) | (with_reducible refine Below.setCell ?_ ?_ _) | (with_reducible refine below_call (by assumption) ?_ ?_) | (with_reducible refine below_grown (by assumption) ?_ ?_ ?_) | omega | (simp; done) | (simp; omega))))) (by omega) (by omega) (by omega)).mono ?_
    rintro e w8 ⟨rfl, ho8, hg8⟩
    have hb8 : Below wB.heap.size wB w8 := mark_below OG6.out (by omega) (by (repeat' (first | (with_reducible exact Below.refl _ _) | (with_reducible assumption) | (with_reducible refine Below.alloc ?_ ?_ _) | (with_reducible refine below_drewN ?_ _) | (with_reducible refine Below.drew ?_) | (with_reducible refine Below.setCell ?_ ?_ _) | (with_reducible refine below_call (by assumption) ?_ ?_) | (with_reducible refine below_grown (by assumption) ?_ ?_ ?_) | omega | (simp; done) | (simp; omega)))) (by omega) hg8
    have hz8 := hb8.size
    have O8 := Lib.hid ho8
    clear hg8 ho8
    go_wp2_with fail
    refine (heldPointS_any cg O8.out.pts (by omega) (by omega) (by omega)).mono ?_
    rintro e w8' ⟨rfl, rfl⟩
    go_wp2_with fail
    refine (toPointS_any c (HPB.out.below (by (repeat' (first | (with_reducible exact Below.refl _ _) | (with_reducible assumption) | (with_reducible refine Below.alloc ?_ ?_ _) | (with_reducible refine below_drewN ?_ _) | (with_reducible refine Below.drew ?_) | (with_reducible refine Below.setCell ?_ ?_ _) | (with_reducible refine below_call (by assumption) ?_ ?_) | (with_reducible refine below_grown (by assumption) ?_ ?_ ?_) | omega | (simp; done) | (simp; omega))))) hn').mono ?_
    rintro e w9 ⟨v9, rfl, ho9, hb9⟩
    have hz9 := hb9.size
    obtain ⟨A9, c9, rfl, _⟩ := ho9.form
    rw [HL.out] at ho9 ⊢
    have O9 := Lib.hid ho9
    clear ho9
    go_wp2_with fail
    refine (FlattenCurve_eq c9 O9.out.pts (by omega) (Hid.out (by with_reducible assumption))).mono ?_
    rintro e wh ⟨vh, rfl, hoh, hbh⟩
    have hzh := hbh.size
    obtain ⟨Ah, ch, rfl, _⟩ := hoh.form
    rw [HM.out] at hoh ⊢
    have OH := Lib.hid hoh
    clear hoh
    go_wp2_with fail
    refine (eqPointS_same ch c1 OH.out.pts (HP1.out.below (by (repeat' (first | (with_reducible exact Below.refl _ _) | (with_reducible assumption) | (with_reducible refine Below.alloc ?_ ?_ _) | (with_reducible refine below_drewN ?_ _) | (with_reducible refine Below.drew ?_) | (with_reducible refine Below.setCell ?_ ?_ _) | (with_reducible refine below_call (by assumption) ?_ ?_) | (with_reducible refine below_grown (by assumption) ?_ ?_ ?_) | omega | (simp; done) | (simp; omega))))) (by omega)).mono ?_
    rintro e wi ⟨rfl, hbi⟩
    have hzi := hbi.size
    go_wp2_with fail
    refine (heldPointS_any cg (O8.out.pts.below (by (repeat' (first | (with_reducible exact Below.refl _ _) | (with_reducible assumption) | (with_reducible refine Below.alloc ?_ ?_ _) | (with_reducible refine below_drewN ?_ _) | (with_reducible refine Below.drew ?_) | (with_reducible refine Below.setCell ?_ ?_ _) | (with_reducible refine below_call (by assumption) ?_ ?_) | (with_reducible refine below_grown (by assumption) ?_ ?_ ?_) | omega | (simp; done) | (simp; omega))))) (by omega) (by omega) (by omega)).mono ?_
    rintro e wi' ⟨rfl, rfl⟩
    go_wp2_with fail
    all_goals (go_ret; exact ⟨rfl, by (repeat' (first | (with_reducible exact Below.refl _ _) | (with_reducible assumption) | (with_reducible refine Below.alloc ?_ ?_ _) | (with_reducible refine below_drewN ?_ _) | (with_reducible refine Below.drew ?_) | (with_reducible refine Below.setCell ?_ ?_ _) | (with_reducible refine below_call (by assumption) ?_ ?_) | (with_reducible refine below_grown (by assumption) ?_ ?_ ?_) | omega | (simp; done) | (simp; omega)))⟩)

theorem FnExactFlattenCurve_own : ownKnob Try.prog.godebug = none := by kernel_rfl
theorem FnExactFlattenCurve_laid : laidOutB Try.prog = true := by kernel_rfl

set_option maxRecDepth 100000 in
theorem FnExactFlattenCurve_lifted (os : Os) (started : os.Started) (H : Type) (enc : TypeId × Value → H) :
    ReturnsInHanded {} Try.checked os 15 .any (Rows.fnExactFlattenCurveSpec.pre6 enc Try.prog Try.f15 Rows.fnExactFlattenCurveRow.domain false) (Rows.fnExactFlattenCurveSpec.post enc Try.prog Try.f15 false true false false) := by
  refine returnsInHanded_of_change (C := Try.checked) FnExactFlattenCurve_own started (by kernel_rfl) Try.func15
    (ChangeSpec.witness6 (enc := enc) (C := Try.checked) false ⟨#[], #[.slice none 0 0, .int .i64 0, .int .i64 0], []⟩ 8 (by kernel_rfl) (by kernel_rfl) (by kernel_rfl) (by kernel_rfl)) ?_
  intro W base args ds gs before hval0 hW hcnd _
  have hval : ∀ (j : Nat) t v, Try.f15.params[j]? = some t → args[j]? = some v → Value.okWide Try.prog W .any base t v := hval0
  have hW' := hW
  obtain ⟨p, q, hA0, hV, rfl, hfz, hnd⟩ := hW
  have hA : DataW.TrodAll enc Try.prog W 0 (fun _ => true) true Try.f15.params.toList args.toList ds p := hA0
  rw [Try.params15] at hA hval
  obtain ⟨v0, vs0, d0, ds0, p0, q0, hargs, rfl, rfl, h0, r0⟩ := trodAll_cons hA
  obtain ⟨v1, vs1, d1, ds1, p1, q1, rfl, rfl, rfl, h1, r1⟩ := trodAll_cons r0
  obtain ⟨v2, vs2, d2, ds2, p2, q2, rfl, rfl, rfl, h2, r2⟩ := trodAll_cons r1
  obtain ⟨rfl, rfl, rfl⟩ := trodAll_nil r2
  obtain rfl : args = #[v0, v1, v2] := by cases args; simp_all
  obtain ⟨rfl, rfl⟩ := trodVars_none hV
  have k0 := h0
  have lt0 : ∀ x ∈ p0, x.block < W.heap.size := by obtain ⟨m, hm⟩ := k0; exact DataW.trod_lt m _ _ _ hm
  obtain ⟨a0, len0, cap0, rfl⟩ := okWide_slice Try.underlying36 (hval 0 36 v0 rfl rfl)
  obtain ⟨mx0, l0, w0⟩ := pts_of rfl Try.underlying36 Try.underlying63 (by kernel_rfl) (by kernel_rfl) (by kernel_rfl) h0
  have k1 := h1
  have lt1 : ∀ x ∈ p1, x.block < W.heap.size := by obtain ⟨m, hm⟩ := k1; exact DataW.trod_lt m _ _ _ hm
  obtain ⟨a1, rfl, rfl, rfl, w1⟩ := open_int Try.underlying3 (hval 1 3 v1 rfl rfl) h1
  have k2 := h2
  have lt2 : ∀ x ∈ p2, x.block < W.heap.size := by obtain ⟨m, hm⟩ := k2; exact DataW.trod_lt m _ _ _ hm
  obtain ⟨a2, rfl, rfl, rfl, w2⟩ := open_int Try.underlying3 (hval 2 3 v2 rfl rfl) h2
  clear hA0 hval0
  refine (FnExactFlattenCurve_walk W _ _ _ _ w0 mx0 a1 a2).mono fun e W' ⟨he, bel⟩ => ?_
  subst he
  exact ⟨_, rfl, _, _, _, [], _, [], hW', trodAll_mk1 (shut_bool Try.underlying4 _), (trodAll_cons_mk (Below.trod FnExactFlattenCurve_laid (by kernel_rfl) (of_decide_eq_true (by kernel_rfl)) k0 bel lt0) (trodAll_cons_mk (Below.trod FnExactFlattenCurve_laid (by kernel_rfl) (of_decide_eq_true (by kernel_rfl)) k1 bel lt1) (trodAll_cons_mk (Below.trod FnExactFlattenCurve_laid (by kernel_rfl) (of_decide_eq_true (by kernel_rfl)) k2 bel lt2) trodAll_mk0))), rfl, bel.frame _, fun h => by cases h⟩

theorem FnExactFlattenCurve_over : Rows.fnExactFlattenCurveRow.holds Try.pinned (OpenSpec.ofChange Rows.fnExactFlattenCurveSpec) :=
  OpenClaim.holds_of_wide 15 Try.f15 rfl rfl rfl rfl rfl rfl rfl ⟨rfl, rfl, rfl, rfl, rfl⟩ rfl rfl rfl rfl rfl (by kernel_rfl) Try.func15 (by kernel_rfl)
    (of_decide_eq_true (by kernel_rfl)) (by unfold Func.isWrapper; first | (rw [if_pos (by decide +kernel)]; kernel_rfl) | (rw [if_neg (by decide +kernel)]; exact ⟨rfl, rfl⟩))
    (fun os started H enc _ => FnExactFlattenCurve_lifted os started H enc)

/-- The statement. -/
theorem FnExactFlattenCurve_holds : Rows.FnExactFlattenCurveSaid := FnExactFlattenCurve_over
#print axioms FnExactFlattenCurve_holds

end Go.Proofs.Ytmddkhincpibhaa
