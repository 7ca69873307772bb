/-
  Plain laws on turns of points.
-/
import Derived.Test.YtaklcipdcnegbaaPlB
namespace Go.Proofs.Ytaklcipdcnegbaa.Pl

theorem mapOk_of {m : Mx} {p q : Pt} (hm : (scaleB m && ptB (m.e, m.f)) = true) (e : mapP m p = q) (hq : ptB q = ptB p) : mapOk m p = ptB p ∧ mapR m p = if ptB p then q else (0, 0) := by
  rw [Bool.and_eq_true] at hm
  have h1 : mapOk m p = ptB p := by
    unfold mapOk
    rw [e, hq, hm.1, hm.2]
    cases ptB p <;> rfl
  exact ⟨h1, by rw [mapR, h1, e]⟩
theorem ptB_congr {x y u v : Int} (h : (-1000 ≤ x ∧ x ≤ 1000 ∧ -1000 ≤ y ∧ y ≤ 1000) ↔ (-1000 ≤ u ∧ u ≤ 1000 ∧ -1000 ≤ v ∧ v ≤ 1000)) : ptB (x, y) = ptB (u, v) := by
  rw [Bool.eq_iff_iff, show ptB (x, y) = true ↔ _ from ptB_true, show ptB (u, v) = true ↔ _ from ptB_true]; exact h
theorem turnOk0 (x y : Int) : mapOk ⟨256, 0, 0, 256, 0, 0⟩ (x, y) = ptB (x, y) ∧ mapR ⟨256, 0, 0, 256, 0, 0⟩ (x, y) = if ptB (x, y) then (x, y) else (0, 0) := mapOk_of (by decide) (turn0 x y) rfl
theorem turnOk1 (x y : Int) : mapOk ⟨0, 256, -256, 0, 0, 0⟩ (x, y) = ptB (x, y) ∧ mapR ⟨0, 256, -256, 0, 0, 0⟩ (x, y) = if ptB (x, y) then (-y, x) else (0, 0) := mapOk_of (by decide) (turn1 x y) (ptB_congr (by omega))
theorem turnOk2 (x y : Int) : mapOk ⟨-256, 0, 0, -256, 0, 0⟩ (x, y) = ptB (x, y) ∧ mapR ⟨-256, 0, 0, -256, 0, 0⟩ (x, y) = if ptB (x, y) then (-x, -y) else (0, 0) := mapOk_of (by decide) (turn2 x y) (ptB_congr (by omega))
theorem turnOk3 (x y : Int) : mapOk ⟨0, -256, 256, 0, 0, 0⟩ (x, y) = ptB (x, y) ∧ mapR ⟨0, -256, 256, 0, 0, 0⟩ (x, y) = if ptB (x, y) then (y, -x) else (0, 0) := mapOk_of (by decide) (turn3 x y) (ptB_congr (by omega))
theorem map_origin {a b c d e f x y : Int} (h : mapOk ⟨a, b, c, d, e, f⟩ (x, y) = true) : mapOk ⟨a, b, c, d, e, f⟩ (0, 0) = true ∧ mapR ⟨a, b, c, d, e, f⟩ (0, 0) = (e, f) ∧ ptB (x, y) = true := by
  have e0 : mapP ⟨a, b, c, d, e, f⟩ (0, 0) = (e, f) := by simp only [mapP, rnd, Prod.mk.injEq, Int.mul_zero]; omega
  unfold mapOk at h
  rw [Bool.and_eq_true, Bool.and_eq_true, Bool.and_eq_true] at h
  have h1 : mapOk ⟨a, b, c, d, e, f⟩ (0, 0) = true := by
    unfold mapOk
    rw [e0, h.1.1.1]
    have h2 : ptB (e, f) = true := h.1.2
    rw [h2]; decide
  exact ⟨h1, by rw [mapR, h1, e0]; rfl, h.1.1.2⟩
theorem mapR_no {m : Mx} {p : Pt} (h : mapOk m p = false) : mapR m p = (0, 0) := by rw [mapR, h]; rfl

end Go.Proofs.Ytaklcipdcnegbaa.Pl
