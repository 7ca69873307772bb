/-
  FnExactNewDeque holds: the program's NewDeque returns what the reference's returns. No condition.
-/
import Derived.Test.YtclfocdghbmmlaaDqX
import Derived.ProofKit
import Derived.OpenShut
import Derived.ShutString
import Derived.ChangeOld
import Derived.Lib.SmallJoins
namespace Go.Proofs.Ytclfocdghbmmlaa
open Go.RowKit Pl Go.ChangeShapes Go.WideShapes Go.ChangeAt
open Go.ChangeMaps (open_string shut_string)

set_option linter.unusedSimpArgs false
set_option linter.unusedVariables false

set_option maxRecDepth 100000 in
set_option maxHeartbeats 1000000 in
theorem FnExactNewDeque_walk (w : World) :
    Calls Try.prog 3 #[] w fun e w' => e = .returned (.bool true) ∧ Below w.heap.size w w' := by
  go_enter Try.func3, Try.ntmps3
  go_wp2_with fail
  refine (sNewDeque_any _).mono ?_
  intro e wa hr
  obtain ⟨A0, c0, rfl, ho0, hba⟩ := retD_new hr
  clear hr
  have hza := hba.size
  have HI0 := Lib.hid (OwnW.isV ho0)
  clear ho0
  go_wp2_with fail
  refine (NewDeque_any _).mono ?_
  intro e wb hr
  obtain ⟨A1, c1, rfl, ho1, hbb⟩ := retD_new hr
  clear hr
  have hzb := hbb.size
  simp at hzb
  have HO1 := Lib.hid ho1
  clear ho1
  have h0b := blk_below (blk_new wa (.cells #[.slice A0 16 c0, .int .i64 0, .int .i64 0] 24)) hbb
  have hc0b := blk_cell h0b
  have hl0b := blk_lt h0b
  go_wp2_with fail
  refine (eqDeque_same c1 c0 (OwnW.isV (HO1.out.below (by (repeat' (first | (with_reducible exact Below.refl _ _) | (with_reducible assumption) | (with_reducible refine Below.alloc ?_ ?_ _) | (with_reducible refine below_drewN ?_ _) | (with_reducible refine Below.drew ?_) | (with_reducible refine Below.setCell ?_ ?_ _) | (with_reducible refine below_call (by assumption) ?_ ?_) | (with_reducible refine below_grown (by assumption) ?_ ?_ ?_) | omega | (simp; done) | (simp; omega)))))) (IsI.below HI0.out (by (repeat' (first | (with_reducible exact Below.refl _ _) | (with_reducible assumption) | (with_reducible refine Below.alloc ?_ ?_ _) | (with_reducible refine below_drewN ?_ _) | (with_reducible refine Below.drew ?_) | (with_reducible refine Below.setCell ?_ ?_ _) | (with_reducible refine below_call (by assumption) ?_ ?_) | (with_reducible refine below_grown (by assumption) ?_ ?_ ?_) | omega | (simp; done) | (simp; omega))))) (by omega)).mono ?_
  rintro e wc ⟨rfl, hbc⟩
  have hzc := hbc.size
  simp at hzc
  have h0c := blk_below (blk_alloc h0b (.cells #[.slice A1 16 c1, .int .i64 0, .int .i64 0] 24)) hbc
  have h1c := blk_below (blk_new wb (.cells #[.slice A1 16 c1, .int .i64 0, .int .i64 0] 24)) hbc
  have hc0c := blk_cell h0c
  have hl0c := blk_lt h0c
  have hc1c := blk_cell h1c
  have hl1c := blk_lt h1c
  clear hc0b hl0b
  have HOc : Hid (OwnJ (wa.heap.size + 1) wc (.slice A1 16 c1) L16) := Lib.hid (OwnW.below (OwnW.lower HO1.out (by simp)) (show Below wb.heap.size wb wc by (repeat' (first | (with_reducible exact Below.refl _ _) | (with_reducible assumption) | (with_reducible refine Below.alloc ?_ ?_ _) | (with_reducible refine below_drewN ?_ _) | (with_reducible refine Below.drew ?_) | (with_reducible refine Below.setCell ?_ ?_ _) | (with_reducible refine below_call (by assumption) ?_ ?_) | (with_reducible refine below_grown (by assumption) ?_ ?_ ?_) | omega | (simp; done) | (simp; omega)))))
  have hne1 : (Value.slice A1 16 c1).ownBlock ≠ some wb.heap.size := fun e => by
    cases A1 with
    | none => cases e
    | some a =>
      simp only [Value.ownBlock, Option.some.injEq] at e
      have := isI_lt (OwnW.isV HO1.out) (by omega) a rfl
      omega
  go_wp2_with fail
  refine (markDeque_any HOc.out (by omega) (by omega) (by omega) (by omega)).mono ?_
  rintro e wm ⟨rfl, hom, hgm, hbm⟩
  have hzm := hbm.size
  have HIm := Lib.hid (OwnW.isV hom)
  have h0m := (hbm.block wa.heap.size (by omega)).trans h0c
  have h1m := (hgm wb.heap.size (by omega) hne1).trans h1c
  have hc0m := blk_cell h0m
  have hl0m := blk_lt h0m
  have hc1m := blk_cell h1m
  have hl1m := blk_lt h1m
  have Bm : Below wa.heap.size wa wm := (show Below wa.heap.size wa wc by (repeat' (first | (with_reducible exact Below.refl _ _) | (with_reducible assumption) | (with_reducible refine Below.alloc ?_ ?_ _) | (with_reducible refine below_drewN ?_ _) | (with_reducible refine Below.drew ?_) | (with_reducible refine Below.setCell ?_ ?_ _) | (with_reducible refine below_call (by assumption) ?_ ?_) | (with_reducible refine below_grown (by assumption) ?_ ?_ ?_) | omega | (simp; done) | (simp; omega)))).trans (hbm.mono (by omega))
  have hbmw : Below w.heap.size w wm := (show Below w.heap.size w wa by (repeat' (first | (with_reducible exact Below.refl _ _) | (with_reducible assumption) | (with_reducible refine Below.alloc ?_ ?_ _) | (with_reducible refine below_drewN ?_ _) | (with_reducible refine Below.drew ?_) | (with_reducible refine Below.setCell ?_ ?_ _) | (with_reducible refine below_call (by assumption) ?_ ?_) | (with_reducible refine below_grown (by assumption) ?_ ?_ ?_) | omega | (simp; done) | (simp; omega)))).trans (Bm.mono (by omega))
  have HI0m := Lib.hid (IsI.below HI0.out Bm)
  clear hc0c hl0c hc1c hl1c hom hgm
  go_wp2_with fail
  refine (heldDeque_any c1 HIm.out (by omega) (by omega) (by omega)).mono ?_
  rintro e wh ⟨rfl, hbh⟩
  have hzh := hbh.size
  have h0h := blk_below h0m hbh
  have h1h := blk_below h1m hbh
  have hc0h := blk_cell h0h
  have hl0h := blk_lt h0h
  have hc1h := blk_cell h1h
  have hl1h := blk_lt h1h
  clear hc0m hl0m hc1m hl1m
  go_wp2_with fail
  refine (NewDeque_any _).mono ?_
  intro e wn hr
  obtain ⟨A5, c5, rfl, ho5, hbn⟩ := retD_new hr
  clear hr
  have hzn := hbn.size
  have HI5 := Lib.hid (OwnW.isV ho5)
  have h0n := blk_below h0h hbn
  have h1n := blk_below h1h hbn
  have hc0n := blk_cell h0n
  have hl0n := blk_lt h0n
  have hc1n := blk_cell h1n
  have hl1n := blk_lt h1n
  clear hc0h hl0h hc1h hl1h ho5
  go_wp2_with fail
  refine (eqDeque_same c5 c0 (IsI.below HI5.out (by (repeat' (first | (with_reducible exact Below.refl _ _) | (with_reducible assumption) | (with_reducible refine Below.alloc ?_ ?_ _) | (with_reducible refine below_drewN ?_ _) | (with_reducible refine Below.drew ?_) | (with_reducible refine Below.setCell ?_ ?_ _) | (with_reducible refine below_call (by assumption) ?_ ?_) | (with_reducible refine below_grown (by assumption) ?_ ?_ ?_) | omega | (simp; done) | (simp; omega))))) (IsI.below HI0m.out (by (repeat' (first | (with_reducible exact Below.refl _ _) | (with_reducible assumption) | (with_reducible refine Below.alloc ?_ ?_ _) | (with_reducible refine below_drewN ?_ _) | (with_reducible refine Below.drew ?_) | (with_reducible refine Below.setCell ?_ ?_ _) | (with_reducible refine below_call (by assumption) ?_ ?_) | (with_reducible refine below_grown (by assumption) ?_ ?_ ?_) | omega | (simp; done) | (simp; omega))))) (by omega)).mono ?_
  rintro e wp ⟨rfl, hbp⟩
  have hzp := hbp.size
  simp at hzp
  have h1p := blk_below (blk_alloc h1n (.cells #[.slice A5 16 c5, .int .i64 0, .int .i64 0] 24)) hbp
  have hc1p := blk_cell h1p
  have hl1p := blk_lt h1p
  clear hc0n hl0n hc1n hl1n
  go_wp2_with fail
  refine (heldDeque_any c1 (IsI.below HIm.out (by (repeat' (first | (with_reducible exact Below.refl _ _) | (with_reducible assumption) | (with_reducible refine Below.alloc ?_ ?_ _) | (with_reducible refine below_drewN ?_ _) | (with_reducible refine Below.drew ?_) | (with_reducible refine Below.setCell ?_ ?_ _) | (with_reducible refine below_call (by assumption) ?_ ?_) | (with_reducible refine below_grown (by assumption) ?_ ?_ ?_) | omega | (simp; done) | (simp; omega))))) (by omega) (by omega) (by omega)).mono ?_
  rintro e wq ⟨rfl, hbq⟩
  have hzq := hbq.size
  go_wp2
  go_ret
  exact ⟨rfl, by (repeat' (first | (with_reducible exact Below.refl _ _) | (with_reducible assumption) | (with_reducible refine Below.alloc ?_ ?_ _) | (with_reducible refine below_drewN ?_ _) | (with_reducible refine Below.drew ?_) | (with_reducible refine Below.setCell ?_ ?_ _) | (with_reducible refine below_call (by assumption) ?_ ?_) | (with_reducible refine below_grown (by assumption) ?_ ?_ ?_) | omega | (simp; done) | (simp; omega)))⟩

theorem FnExactNewDeque_own : ownKnob Try.prog.godebug = none := by kernel_rfl
theorem FnExactNewDeque_laid : laidOutB Try.prog = true := by kernel_rfl

set_option maxRecDepth 100000 in
theorem FnExactNewDeque_lifted (os : Os) (started : os.Started) (H : Type) (enc : TypeId × Value → H) :
    ReturnsInHanded {} Try.checked os 3 .any (Rows.fnExactNewDequeSpec.pre6 enc Try.prog Try.f3 Rows.fnExactNewDequeRow.domain false) (Rows.fnExactNewDequeSpec.post enc Try.prog Try.f3 false true false false) := by
  refine returnsInHanded_of_change (C := Try.checked) FnExactNewDeque_own started (by kernel_rfl) Try.func3
    (ChangeSpec.witness6 (enc := enc) (C := Try.checked) false ⟨#[], #[], []⟩ 8 (by kernel_rfl) (by kernel_rfl) (by kernel_rfl) (by kernel_rfl)) ?_
  intro W base args ds gs before hval0 hW hcnd _
  have hval : ∀ (j : Nat) t v, Try.f3.params[j]? = some t → args[j]? = some v → Value.okWide Try.prog W .any base t v := hval0
  have hW' := hW
  obtain ⟨p, q, hA0, hV, rfl, hfz, hnd⟩ := hW
  have hA : DataW.TrodAll enc Try.prog W 0 (fun _ => true) true Try.f3.params.toList args.toList ds p := hA0
  rw [Try.params3] at hA hval
  obtain ⟨e0, rfl, rfl⟩ := trodAll_nil hA
  obtain rfl : args = #[] := by cases args; simp_all
  obtain ⟨rfl, rfl⟩ := trodVars_none hV
  clear hA0 hval0
  refine (FnExactNewDeque_walk W).mono fun e W' ⟨he, bel⟩ => ?_
  subst he
  exact ⟨_, rfl, _, _, _, [], _, [], hW', trodAll_mk1 (shut_bool Try.underlying4 _), trodAll_mk0, rfl, bel.frame _, fun h => by cases h⟩

theorem FnExactNewDeque_over : Rows.fnExactNewDequeRow.holds Try.pinned (OpenSpec.ofChange Rows.fnExactNewDequeSpec) :=
  OpenClaim.holds_of_wide 3 Try.f3 rfl rfl rfl rfl rfl rfl rfl ⟨rfl, rfl, rfl, rfl, rfl⟩ rfl rfl rfl rfl rfl (by kernel_rfl) Try.func3 (by kernel_rfl)
    (of_decide_eq_true (by kernel_rfl)) (by unfold Func.isWrapper; first | (rw [if_pos (by decide +kernel)]; kernel_rfl) | (rw [if_neg (by decide +kernel)]; exact ⟨rfl, rfl⟩))
    (fun os started H enc _ => FnExactNewDeque_lifted os started H enc)

/-- The statement. -/
theorem FnExactNewDeque_holds : Rows.FnExactNewDequeSaid := FnExactNewDeque_over
#print axioms FnExactNewDeque_holds

end Go.Proofs.Ytclfocdghbmmlaa
