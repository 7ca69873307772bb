/-
  FnExactTilesIn holds. No condition.
-/
import Derived.Test.YtikpaebemiobpaaTIn
import Derived.Test.YtikpaebemiobpaaLBox
import Derived.ProofKit
import Derived.OpenShut
import Derived.ShutString
import Derived.ChangeOld
import Derived.Lib.SmallJoins
namespace Go.Proofs.Ytikpaebemiobpaa
open Go.RowKit Pl Go.ChangeShapes Go.WideShapes Go.ChangeAt
open Go.ChangeMaps (open_string shut_string)

set_option linter.unusedSimpArgs false
set_option linter.unusedVariables false

theorem mark_rowI {base : Nat} {w : World} {A : Option Addr} {n c : Nat} {l : List Int} (h : OwnJ base w (.slice A n c) l) : ∀ g, (Value.slice A n c).ownBlock = some g → base ≤ g := fun g hg => by
  obtain ⟨A', c', e, _, _, _, h4⟩ := h.form
  cases e
  cases A with
  | none => cases hg
  | some a => simp only [Value.ownBlock, Option.some.injEq] at hg; have := h4 a rfl; omega

set_option maxRecDepth 100000 in
set_option maxHeartbeats 1000000 in
theorem FnExactTilesIn_walk (l t r b x y : Int) (w : World) :
    Calls Try.prog 3 #[.agg #[.int .i64 l, .int .i64 t, .int .i64 r, .int .i64 b], .int .i64 x, .int .i64 y] w fun e w' => e = .returned (.bool true) ∧ Below w.heap.size w w' := by
  obtain ⟨T, hT⟩ : ∃ T, tilesR ⟨l, t, r, b⟩ x y = T := ⟨_, rfl⟩
  have H1 := Lib.hid hT
  have h9 : T.length ≤ 9 := by rw [← hT]; exact tilesR_len _ _ _
  obtain ⟨n, hn⟩ : ∃ n, T.length = n := ⟨_, rfl⟩
  have HN := Lib.hid hn
  rw [hn] at h9
  clear hT hn
  have hkk : ¬ 1 + (n : Int) < 0 := by omega
  go_enter Try.func3, Try.ntmps3
  go_wp2_with fail
  refine (toBox_eq _ _ _ _ _).mono ?_
  rintro e wa ⟨rfl, hbwa⟩
  have hzwa := hbwa.size
  (try simp at hzwa)
  have hkwa := blk_below (blk_new w (.cells #[.int .i64 l, .int .i64 t, .int .i64 r, .int .i64 b] 23)) hbwa
  have hcwa := blk_cell hkwa
  have hlwa := blk_lt hkwa
  go_wp2_with fail
  refine (sTilesIn_eq H1.out _).mono ?_
  rintro e wb ⟨v0, rfl, ho0, hbb⟩
  have hzb := hbb.size
  obtain ⟨A0, c0, rfl, _, _, hI0, _⟩ := ho0.form
  rw [HN.out] at hI0 ⊢
  have HI0 := Lib.hid hI0
  have hkwb := blk_below hkwa hbb
  have hcwb := blk_cell hkwb
  have hlwb := blk_lt hkwb
  clear ho0 hI0 hcwa hlwa
  go_wp2_with fail
  refine (toBox_eq _ _ _ _ _).mono ?_
  rintro e wc ⟨rfl, hbwc⟩
  have hzwc := hbwc.size
  (try simp at hzwc)
  have hkwc := blk_below hkwb hbwc
  have hcwc := blk_cell hkwc
  have hlwc := blk_lt hkwc
  clear hcwb hlwb
  go_wp2_with fail
  refine (TilesIn_eq H1.out _).mono ?_
  rintro e wd ⟨v1, rfl, ho1, hbd⟩
  have hzd := hbd.size
  obtain ⟨A1, c1, rfl, _⟩ := ho1.form
  rw [HN.out] at ho1 ⊢
  have HO1 := Lib.hid ho1
  have hkwd := blk_below hkwc hbd
  have hcwd := blk_cell hkwd
  have hlwd := blk_lt hkwd
  clear ho1 hcwc hlwc
  go_wp2_with fail
  refine (eqIntS_same c1 c0 (OwnW.isV HO1.out) (HI0.out.below (by (repeat' (first | (with_reducible exact Below.refl _ _) | (with_reducible assumption) | (with_reducible refine Below.alloc ?_ ?_ _) | (with_reducible refine below_drewN ?_ _) | (with_reducible refine Below.drew ?_) | (with_reducible refine Below.setCell ?_ ?_ _) | (with_reducible refine below_call (by assumption) ?_ ?_) | (with_reducible refine below_grown (by assumption) ?_ ?_ ?_) | omega | (simp; done) | (simp; omega))))) (by omega)).mono ?_
  rintro e we ⟨rfl, hbe⟩
  have hze := hbe.size
  have hkwe := blk_below hkwd hbe
  have hcwe := blk_cell hkwe
  have hlwe := blk_lt hkwe
  have HOe : Hid (OwnJ wc.heap.size we (.slice A1 n c1) T) := Lib.hid (OwnW.below HO1.out hbe)
  clear hcwd hlwd
  go_wp2_with fail
  refine (markIntS_any HOe.out (by omega) (by omega) (by omega)).mono ?_
  rintro e wm ⟨rfl, hom, hgm⟩
  have hrow := mark_rowI hom
  have hbm : Below wc.heap.size we wm := ⟨hgm.os, hgm.tape, hgm.output, hgm.size, fun k hk => hgm.block k (by omega) (fun e => by have := hrow k e.symm; omega)⟩
  have hzm := hbm.size
  have HIm := Lib.hid (OwnW.isV hom)
  have hkwm := (hbm.block w.heap.size (by omega)).trans hkwe
  have hcwm := blk_cell hkwm
  have hlwm := blk_lt hkwm
  have Bm : Below wb.heap.size wb wm := (show Below wb.heap.size wb we by (repeat' (first | (with_reducible exact Below.refl _ _) | (with_reducible assumption) | (with_reducible refine Below.alloc ?_ ?_ _) | (with_reducible refine below_drewN ?_ _) | (with_reducible refine Below.drew ?_) | (with_reducible refine Below.setCell ?_ ?_ _) | (with_reducible refine below_call (by assumption) ?_ ?_) | (with_reducible refine below_grown (by assumption) ?_ ?_ ?_) | omega | (simp; done) | (simp; omega)))).trans (hbm.mono (by omega))
  have HI0m := Lib.hid (HI0.out.below Bm)
  have Bw : Below w.heap.size w wm := (show Below w.heap.size w wb by (repeat' (first | (with_reducible exact Below.refl _ _) | (with_reducible assumption) | (with_reducible refine Below.alloc ?_ ?_ _) | (with_reducible refine below_drewN ?_ _) | (with_reducible refine Below.drew ?_) | (with_reducible refine Below.setCell ?_ ?_ _) | (with_reducible refine below_call (by assumption) ?_ ?_) | (with_reducible refine below_grown (by assumption) ?_ ?_ ?_) | omega | (simp; done) | (simp; omega)))).trans (Bm.mono (by omega))
  clear hcwe hlwe hom hgm hrow
  go_wp2_with fail
  refine (heldIntS_any c1 HIm.out (by omega) (by omega) (by omega)).mono ?_
  rintro e wm' ⟨rfl, rfl⟩
  go_wp2_with fail
  refine (toBox_eq _ _ _ _ _).mono ?_
  rintro e wf ⟨rfl, hbwf⟩
  have hzwf := hbwf.size
  (try simp at hzwf)
  have hkwf := blk_below hkwm hbwf
  have hcwf := blk_cell hkwf
  have hlwf := blk_lt hkwf
  clear hcwm hlwm
  go_wp2_with fail
  refine (TilesIn_eq H1.out _).mono ?_
  rintro e wg ⟨v2, rfl, ho2, hbg⟩
  have hzg := hbg.size
  obtain ⟨A2, c2, rfl, _, _, hI2, _⟩ := ho2.form
  rw [HN.out] at hI2 ⊢
  have HI2 := Lib.hid hI2
  clear ho2 hI2
  go_wp2_with fail
  refine (eqIntS_same c2 c0 HI2.out (HI0m.out.below (by (repeat' (first | (with_reducible exact Below.refl _ _) | (with_reducible assumption) | (with_reducible refine Below.alloc ?_ ?_ _) | (with_reducible refine below_drewN ?_ _) | (with_reducible refine Below.drew ?_) | (with_reducible refine Below.setCell ?_ ?_ _) | (with_reducible refine below_call (by assumption) ?_ ?_) | (with_reducible refine below_grown (by assumption) ?_ ?_ ?_) | omega | (simp; done) | (simp; omega))))) (by omega)).mono ?_
  rintro e wh ⟨rfl, hbh⟩
  have hzh := hbh.size
  go_wp2_with fail
  refine (heldIntS_any c1 (IsI.below HIm.out (by (repeat' (first | (with_reducible exact Below.refl _ _) | (with_reducible assumption) | (with_reducible refine Below.alloc ?_ ?_ _) | (with_reducible refine below_drewN ?_ _) | (with_reducible refine Below.drew ?_) | (with_reducible refine Below.setCell ?_ ?_ _) | (with_reducible refine below_call (by assumption) ?_ ?_) | (with_reducible refine below_grown (by assumption) ?_ ?_ ?_) | omega | (simp; done) | (simp; omega))))) (by omega) (by omega) (by omega)).mono ?_
  rintro e wh' ⟨rfl, rfl⟩
  go_wp2
  go_ret
  exact ⟨rfl, by (repeat' (first | (with_reducible exact Below.refl _ _) | (with_reducible assumption) | (with_reducible refine Below.alloc ?_ ?_ _) | (with_reducible refine below_drewN ?_ _) | (with_reducible refine Below.drew ?_) | (with_reducible refine Below.setCell ?_ ?_ _) | (with_reducible refine below_call (by assumption) ?_ ?_) | (with_reducible refine below_grown (by assumption) ?_ ?_ ?_) | omega | (simp; done) | (simp; omega)))⟩

theorem FnExactTilesIn_own : ownKnob Try.prog.godebug = none := by kernel_rfl
theorem FnExactTilesIn_laid : laidOutB Try.prog = true := by kernel_rfl

set_option maxRecDepth 100000 in
theorem FnExactTilesIn_lifted (os : Os) (started : os.Started) (H : Type) (enc : TypeId × Value → H) :
    ReturnsInHanded {} Try.checked os 3 .any (Rows.fnExactTilesInSpec.pre6 enc Try.prog Try.f3 Rows.fnExactTilesInRow.domain false) (Rows.fnExactTilesInSpec.post enc Try.prog Try.f3 false true false false) := by
  refine returnsInHanded_of_change (C := Try.checked) FnExactTilesIn_own started (by kernel_rfl) Try.func3
    (ChangeSpec.witness6 (enc := enc) (C := Try.checked) false ⟨#[], #[.agg #[.int .i64 0, .int .i64 0, .int .i64 0, .int .i64 0], .int .i64 0, .int .i64 0], []⟩ 8 (by kernel_rfl) (by kernel_rfl) (by kernel_rfl) (by kernel_rfl)) ?_
  intro W base args ds gs before hval0 hW hcnd _
  have hval : ∀ (j : Nat) t v, Try.f3.params[j]? = some t → args[j]? = some v → Value.okWide Try.prog W .any base t v := hval0
  have hW' := hW
  obtain ⟨p, q, hA0, hV, rfl, hfz, hnd⟩ := hW
  have hA : DataW.TrodAll enc Try.prog W 0 (fun _ => true) true Try.f3.params.toList args.toList ds p := hA0
  rw [Try.params3] at hA hval
  obtain ⟨v0, vs0, d0, ds0, p0, q0, hargs, rfl, rfl, h0, r0⟩ := trodAll_cons hA
  obtain ⟨v1, vs1, d1, ds1, p1, q1, rfl, rfl, rfl, h1, r1⟩ := trodAll_cons r0
  obtain ⟨v2, vs2, d2, ds2, p2, q2, rfl, rfl, rfl, h2, r2⟩ := trodAll_cons r1
  obtain ⟨rfl, rfl, rfl⟩ := trodAll_nil r2
  obtain rfl : args = #[v0, v1, v2] := by cases args; simp_all
  obtain ⟨rfl, rfl⟩ := trodVars_none hV
  have k0 := h0
  have lt0 : ∀ x ∈ p0, x.block < W.heap.size := by obtain ⟨m, hm⟩ := k0; exact DataW.trod_lt m _ _ _ hm
  obtain ⟨c0_0, c0_1, c0_2, c0_3, y0_0, y0_1, y0_2, y0_3, n0, rfl, rfl, rfl, t0_0, t0_1, t0_2, t0_3⟩ := Joins.open_agg4 Try.underlying23 (by kernel_rfl) (by kernel_rfl) (hval 0 23 v0 rfl rfl) h0
  obtain ⟨z0_0, e0_0, _, _⟩ := DataW.trod_int Try.underlying3 t0_0
  simp at e0_0; subst e0_0
  obtain ⟨z0_1, e0_1, _, _⟩ := DataW.trod_int Try.underlying3 t0_1
  simp at e0_1; subst e0_1
  obtain ⟨z0_2, e0_2, _, _⟩ := DataW.trod_int Try.underlying3 t0_2
  simp at e0_2; subst e0_2
  obtain ⟨z0_3, e0_3, _, _⟩ := DataW.trod_int Try.underlying3 t0_3
  simp at e0_3; subst e0_3
  have k1 := h1
  have lt1 : ∀ x ∈ p1, x.block < W.heap.size := by obtain ⟨m, hm⟩ := k1; exact DataW.trod_lt m _ _ _ hm
  obtain ⟨a1, rfl, rfl, rfl, w1⟩ := open_int Try.underlying3 (hval 1 3 v1 rfl rfl) h1
  have k2 := h2
  have lt2 : ∀ x ∈ p2, x.block < W.heap.size := by obtain ⟨m, hm⟩ := k2; exact DataW.trod_lt m _ _ _ hm
  obtain ⟨a2, rfl, rfl, rfl, w2⟩ := open_int Try.underlying3 (hval 2 3 v2 rfl rfl) h2
  clear hA0 hval0
  refine (FnExactTilesIn_walk z0_0 z0_1 z0_2 z0_3 a1 a2 W).mono fun e W' ⟨he, bel⟩ => ?_
  subst he
  exact ⟨_, rfl, _, _, _, [], _, [], hW', trodAll_mk1 (shut_bool Try.underlying4 _), (trodAll_cons_mk (Below.trod FnExactTilesIn_laid (by kernel_rfl) (of_decide_eq_true (by kernel_rfl)) k0 bel lt0) (trodAll_cons_mk (Below.trod FnExactTilesIn_laid (by kernel_rfl) (of_decide_eq_true (by kernel_rfl)) k1 bel lt1) (trodAll_cons_mk (Below.trod FnExactTilesIn_laid (by kernel_rfl) (of_decide_eq_true (by kernel_rfl)) k2 bel lt2) trodAll_mk0))), rfl, bel.frame _, fun h => by cases h⟩

theorem FnExactTilesIn_over : Rows.fnExactTilesInRow.holds Try.pinned (OpenSpec.ofChange Rows.fnExactTilesInSpec) :=
  OpenClaim.holds_of_wide 3 Try.f3 rfl rfl rfl rfl rfl rfl rfl ⟨rfl, rfl, rfl, rfl, rfl⟩ rfl rfl rfl rfl rfl (by kernel_rfl) Try.func3 (by kernel_rfl)
    (of_decide_eq_true (by kernel_rfl)) (by unfold Func.isWrapper; first | (rw [if_pos (by decide +kernel)]; kernel_rfl) | (rw [if_neg (by decide +kernel)]; exact ⟨rfl, rfl⟩))
    (fun os started H enc _ => FnExactTilesIn_lifted os started H enc)

/-- The statement. -/
theorem FnExactTilesIn_holds : Rows.FnExactTilesInSaid := FnExactTilesIn_over
#print axioms FnExactTilesIn_holds

end Go.Proofs.Ytikpaebemiobpaa
