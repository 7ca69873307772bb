/-
  FnTileBoxFirst holds. Whatever sizes and tile the generator gives. No condition.
-/
import Derived.Test.YtmhnebkmhblhpaaDraw2
import Derived.Test.YtmhnebkmhblhpaaTile
import Derived.Test.YtmhnebkmhblhpaaCode
import Derived.ProofKit
import Derived.OpenShut
import Derived.ShutString
import Derived.ChangeOld
import Derived.Lib.SmallJoins
namespace Go.Proofs.Ytmhnebkmhblhpaa
open Go.RowKit Pl Go.ChangeShapes Go.WideShapes Go.ChangeAt
open Go.ChangeMaps (open_string shut_string)

set_option linter.unusedSimpArgs false
set_option linter.unusedVariables false

theorem hasB_true {l t r b p q : Int} : hasB ⟨l, t, r, b⟩ p q = true ↔ (-1000 ≤ l ∧ l ≤ r ∧ r ≤ 1000 ∧ -1000 ≤ t ∧ t ≤ b ∧ b ≤ 1000) ∧ l ≤ p ∧ p < r ∧ t ≤ q ∧ q < b := by simp [hasB, validB]
theorem tile_ends {a b k : Int} (h : tileOk a b k = true) : (1 ≤ a ∧ a ≤ 12 ∧ 1 ≤ b ∧ b ≤ 12) ∧ (1 ≤ tcount a b ∧ tcount a b ≤ 9) ∧ tileOk a b 0 = true ∧ tileOk a b (tcount a b - 1) = true ∧
    hasB (tileR a b 0) 0 0 = true ∧ hasB (tileR a b (tcount a b - 1)) (a - 1) (b - 1) = true := by
  obtain ⟨h1, h2, h3⟩ := tileOk_true.1 h
  have hn := tileN_le h1
  have hc : tcount a b = tileN a b := by simp [tcount, h1]
  have h4 : tileOk a b 0 = true := tileOk_true.2 ⟨h1, by omega, by omega⟩
  have h5 : tileOk a b (tileN a b - 1) = true := tileOk_true.2 ⟨h1, by omega, by omega⟩
  have e4 : tileR a b 0 = tileB a b 0 := by simp [tileR, h4]
  have e5 : tileR a b (tileN a b - 1) = tileB a b (tileN a b - 1) := by simp [tileR, h5]
  rw [hc, e4, e5]
  refine ⟨sizedB_true.1 h1, hn, h4, h5, ?_, ?_⟩
  all_goals
    obtain ⟨a1, a2, b1, b2⟩ := sizedB_true.1 h1
    clear e4 e5 h4 h5 hn hc
    unfold tileB
    rw [hasB_true]
    try unfold tileN
    rcases acr_of a1 a2 with ⟨h2, _⟩ | ⟨h2, _⟩ | ⟨h2, _⟩ <;> rcases acr_of b1 b2 with ⟨h3, _⟩ | ⟨h3, _⟩ | ⟨h3, _⟩ <;> simp only [h2, h3] <;> omega

set_option maxHeartbeats 2000000 in
theorem FnTileBoxFirst_walk (w : World) (A : Option Addr) (n c : Nat) (h : Code w A n c) :
    Calls Try.prog 5 #[.slice A n c] w fun e w' => e = .returned (.bool true) ∧ Below w.heap.size w w' := by
  by_cases hn : 1048576 < n
  · go_enter Try.func5, Try.ntmps5
    go_wp2
    go_ret
    exact ⟨rfl, by (repeat' (first | (with_reducible exact Below.refl _ _) | (with_reducible assumption) | (with_reducible refine Below.alloc ?_ ?_ _) | (with_reducible refine below_drewN ?_ _) | (with_reducible refine Below.drew ?_) | (with_reducible refine Below.setCell ?_ ?_ _) | (with_reducible refine below_call (by assumption) ?_ ?_) | go_size))⟩
  · go_enter Try.func5, Try.ntmps5
    go_wp2_with fail
    refine (DrawTileBox_any (h.below (by (repeat' (first | (with_reducible exact Below.refl _ _) | (with_reducible assumption) | (with_reducible refine Below.alloc ?_ ?_ _) | (with_reducible refine below_drewN ?_ _) | (with_reducible refine Below.drew ?_) | (with_reducible refine Below.setCell ?_ ?_ _) | (with_reducible refine below_call (by assumption) ?_ ?_) | go_size))))).mono ?_
    rintro e wd ⟨x, y, t, rfl, _, _, _, _, _, _, hb⟩
    have hz0 := hb.size
    obtain ⟨⟨xl, xt, xr, xb⟩, hx⟩ : ∃ q, tileR x y t = q := ⟨_, rfl⟩
    rcases Bool.eq_false_or_eq_true (tileOk x y t) with h1 | h1
    · obtain ⟨hs, hcn, k1, k2, k3, k4⟩ := tile_ends h1
      obtain ⟨m, hm⟩ : ∃ m, tcount x y = m := ⟨_, rfl⟩
      rw [hm] at k2 k4 hcn
      obtain ⟨⟨fl, ft, fr, fb⟩, hf⟩ : ∃ q, tileR x y 0 = q := ⟨_, rfl⟩
      obtain ⟨⟨gl, gt, gr, gb⟩, hg⟩ : ∃ q, tileR x y (m - 1) = q := ⟨_, rfl⟩
      rw [hf] at k3
      rw [hg] at k4
      have H1 := Lib.hid h1
      have H2 := Lib.hid hx
      have H3 := Lib.hid hm
      have H4 := Lib.hid hf
      have H5 := Lib.hid hg
      have H6 := Lib.hid k1
      have H7 := Lib.hid k2
      have H8 := Lib.hid k3
      have H9 := Lib.hid k4
      clear h1 hx hm hf hg k1 k2 k3 k4
      go_wp2_with fail; (with_reducible refine (TileBox_eq (Hid.out (by with_reducible assumption)) (Hid.out (by with_reducible assumption)) _).mono ?_); rintro e wa ⟨rfl, hb⟩; have hz := hb.size; (try simp at hz)
      go_wp2_with fail; (with_reducible refine (sTileBox_eq (Hid.out (by with_reducible assumption)) (Hid.out (by with_reducible assumption)) _).mono ?_); rintro e wb ⟨rfl, hb⟩; have hz := hb.size; (try simp at hz); (try (have hk := bcl hb (wa.heap.size) (by first | omega | (simp; done) | (simp; omega)); have hc := hk.1; have hf := hk.2.1; have hk := hk.2.2))
      go_wp2_with fail; (with_reducible refine (TileBox_eq (Hid.out (by with_reducible assumption)) (Hid.out (by with_reducible assumption)) _).mono ?_); rintro e wc ⟨rfl, hb⟩; have hz := hb.size; (try simp at hz); (try (have hk := bcl hb (wa.heap.size) (by first | omega | (simp; done) | (simp; omega)); have hc := hk.1; have hf := hk.2.1; have hk := hk.2.2)); (try (have hk := bcl hb (wb.heap.size) (by first | omega | (simp; done) | (simp; omega)); have hc := hk.1; have hf := hk.2.1; have hk := hk.2.2))
      go_wp2_with fail; (with_reducible refine (TileCount_eq (Hid.out (by with_reducible assumption)) _).mono ?_); rintro e we ⟨rfl, hb⟩; have hz := hb.size; (try simp at hz); (try (have hk := bcl hb (wa.heap.size) (by first | omega | (simp; done) | (simp; omega)); have hc := hk.1; have hf := hk.2.1; have hk := hk.2.2)); (try (have hk := bcl hb (wb.heap.size) (by first | omega | (simp; done) | (simp; omega)); have hc := hk.1; have hf := hk.2.1; have hk := hk.2.2)); (try (have hk := bcl hb (wc.heap.size) (by first | omega | (simp; done) | (simp; omega)); have hc := hk.1; have hf := hk.2.1; have hk := hk.2.2))
      go_wp2_with fail; (with_reducible refine (TileBox_eq (Hid.out (by with_reducible assumption)) (Hid.out (by with_reducible assumption)) _).mono ?_); rintro e wf ⟨rfl, hb⟩; have hz := hb.size; (try simp at hz); (try (have hk := bcl hb (wa.heap.size) (by first | omega | (simp; done) | (simp; omega)); have hc := hk.1; have hf := hk.2.1; have hk := hk.2.2)); (try (have hk := bcl hb (wb.heap.size) (by first | omega | (simp; done) | (simp; omega)); have hc := hk.1; have hf := hk.2.1; have hk := hk.2.2)); (try (have hk := bcl hb (wc.heap.size) (by first | omega | (simp; done) | (simp; omega)); have hc := hk.1; have hf := hk.2.1; have hk := hk.2.2))
      go_wp2_with (go_at_call 15; (with_reducible refine (BoxHas_eq (Hid.out (by with_reducible assumption)) _).mono ?_); rintro e w1 ⟨rfl, hb⟩; have hz := hb.size; (try simp at hz); (try (have hk := bcl hb (wa.heap.size) (by first | omega | (simp; done) | (simp; omega)); have hc := hk.1; have hf := hk.2.1; have hk := hk.2.2)); (try (have hk := bcl hb (wb.heap.size) (by first | omega | (simp; done) | (simp; omega)); have hc := hk.1; have hf := hk.2.1; have hk := hk.2.2)); (try (have hk := bcl hb (wc.heap.size) (by first | omega | (simp; done) | (simp; omega)); have hc := hk.1; have hf := hk.2.1; have hk := hk.2.2)); (try (have hk := bcl hb (wf.heap.size) (by first | omega | (simp; done) | (simp; omega)); have hc := hk.1; have hf := hk.2.1; have hk := hk.2.2)))
      go_ret
      exact ⟨rfl, by (repeat' (first | (with_reducible exact Below.refl _ _) | (with_reducible assumption) | (with_reducible refine Below.alloc ?_ ?_ _) | (with_reducible refine below_drewN ?_ _) | (with_reducible refine Below.drew ?_) | (with_reducible refine Below.setCell ?_ ?_ _) | (with_reducible refine below_call (by assumption) ?_ ?_) | (with_reducible refine below_grown (by assumption) ?_ ?_ ?_) | omega | (simp; done) | (simp; omega)))⟩
    · have hx' : tileR x y t = zero := by simp [tileR, h1]
      rw [hx'] at hx
      have H1 := Lib.hid h1
      have H2 := Lib.hid hx'
      clear h1 hx hx'
      go_wp2_with fail; (with_reducible refine (TileBox_eq (x := zero) (Hid.out (by with_reducible assumption)) (Hid.out (by with_reducible assumption)) _).mono ?_); rintro e wa ⟨rfl, hb⟩; have hz := hb.size; (try simp at hz)
      go_wp2_with fail; (with_reducible refine (sTileBox_eq (x := zero) (Hid.out (by with_reducible assumption)) (Hid.out (by with_reducible assumption)) _).mono ?_); rintro e wb ⟨rfl, hb⟩; have hz := hb.size; (try simp at hz); (try (have hk := bcl hb (wa.heap.size) (by first | omega | (simp; done) | (simp; omega)); have hc := hk.1; have hf := hk.2.1; have hk := hk.2.2))
      go_wp2
      go_ret
      exact ⟨rfl, by (repeat' (first | (with_reducible exact Below.refl _ _) | (with_reducible assumption) | (with_reducible refine Below.alloc ?_ ?_ _) | (with_reducible refine below_drewN ?_ _) | (with_reducible refine Below.drew ?_) | (with_reducible refine Below.setCell ?_ ?_ _) | (with_reducible refine below_call (by assumption) ?_ ?_) | (with_reducible refine below_grown (by assumption) ?_ ?_ ?_) | omega | (simp; done) | (simp; omega)))⟩

theorem FnTileBoxFirst_own : ownKnob Try.prog.godebug = none := by kernel_rfl
theorem FnTileBoxFirst_laid : laidOutB Try.prog = true := by kernel_rfl

set_option maxRecDepth 100000 in
theorem FnTileBoxFirst_lifted (os : Os) (started : os.Started) (H : Type) (enc : TypeId × Value → H) :
    ReturnsInHanded {} Try.checked os 5 .any (Rows.fnTileBoxFirstSpec.pre6 enc Try.prog Try.f5 Rows.fnTileBoxFirstRow.domain false) (Rows.fnTileBoxFirstSpec.post enc Try.prog Try.f5 false true false false) := by
  refine returnsInHanded_of_change (C := Try.checked) FnTileBoxFirst_own started (by kernel_rfl) Try.func5
    (ChangeSpec.witness6 (enc := enc) (C := Try.checked) false ⟨#[], #[.slice none 0 0], []⟩ 8 (by kernel_rfl) (by kernel_rfl) (by kernel_rfl) (by kernel_rfl)) ?_
  intro W base args ds gs before hval0 hW hcnd _
  have hval : ∀ (j : Nat) t v, Try.f5.params[j]? = some t → args[j]? = some v → Value.okWide Try.prog W .any base t v := hval0
  have hW' := hW
  obtain ⟨p, q, hA0, hV, rfl, hfz, hnd⟩ := hW
  have hA : DataW.TrodAll enc Try.prog W 0 (fun _ => true) true Try.f5.params.toList args.toList ds p := hA0
  rw [Try.params5] at hA hval
  obtain ⟨v0, vs0, d0, ds0, p0, q0, hargs, rfl, rfl, h0, r0⟩ := trodAll_cons hA
  obtain ⟨rfl, rfl, rfl⟩ := trodAll_nil r0
  obtain rfl : args = #[v0] := by cases args; simp_all
  obtain ⟨rfl, rfl⟩ := trodVars_none hV
  have k0 := h0
  have lt0 : ∀ x ∈ p0, x.block < W.heap.size := by obtain ⟨m, hm⟩ := k0; exact DataW.trod_lt m _ _ _ hm
  obtain ⟨a0, len0, cap0, rfl⟩ := okWide_slice Try.underlying22 (hval 0 22 v0 rfl rfl)
  have w0 := code_of Try.underlying22 Try.underlying5 (by kernel_rfl) h0
  clear hA0 hval0
  refine (FnTileBoxFirst_walk W _ _ _ w0).mono fun e W' ⟨he, bel⟩ => ?_
  subst he
  exact ⟨_, rfl, _, _, _, [], _, [], hW', trodAll_mk1 (shut_bool Try.underlying4 _), (trodAll_cons_mk (Below.trod FnTileBoxFirst_laid (by kernel_rfl) (of_decide_eq_true (by kernel_rfl)) k0 bel lt0) trodAll_mk0), rfl, bel.frame _, fun h => by cases h⟩

theorem FnTileBoxFirst_over : Rows.fnTileBoxFirstRow.holds Try.pinned (OpenSpec.ofChange Rows.fnTileBoxFirstSpec) :=
  OpenClaim.holds_of_wide 5 Try.f5 rfl rfl rfl rfl rfl rfl rfl ⟨rfl, rfl, rfl, rfl, rfl⟩ rfl rfl rfl rfl rfl (by kernel_rfl) Try.func5 (by kernel_rfl)
    (of_decide_eq_true (by kernel_rfl)) (by unfold Func.isWrapper; first | (rw [if_pos (by decide +kernel)]; kernel_rfl) | (rw [if_neg (by decide +kernel)]; exact ⟨rfl, rfl⟩))
    (fun os started H enc _ => FnTileBoxFirst_lifted os started H enc)

/-- The statement. -/
theorem FnTileBoxFirst_holds : Rows.FnTileBoxFirstSaid := FnTileBoxFirst_over
#print axioms FnTileBoxFirst_holds

end Go.Proofs.Ytmhnebkmhblhpaa
