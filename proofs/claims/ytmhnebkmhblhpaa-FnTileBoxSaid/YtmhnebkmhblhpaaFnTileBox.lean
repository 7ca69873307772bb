/-
  FnTileBox holds. Whatever sizes and tile the generator gives. No condition.
-/
import Derived.Test.YtmhnebkmhblhpaaDraw2
import Derived.Test.YtmhnebkmhblhpaaTile
import Derived.Test.YtmhnebkmhblhpaaBox
import Derived.Test.YtmhnebkmhblhpaaCode
import Derived.ProofKit
import Derived.OpenShut
import Derived.ShutString
import Derived.ChangeOld
import Derived.Lib.SmallJoins
namespace Go.Proofs.Ytmhnebkmhblhpaa
open Go.RowKit Pl Go.ChangeShapes Go.WideShapes Go.ChangeAt
open Go.ChangeMaps (open_string shut_string)

set_option linter.unusedSimpArgs false
set_option linter.unusedVariables false

theorem tile_sides {a b k : Int} (h : tileOk a b k = true) : ∃ l t r m : Int, tileR a b k = ⟨l, t, r, m⟩ ∧ (0 ≤ l ∧ l < r ∧ r - l ≤ 4 ∧ 0 ≤ t ∧ t < m ∧ m - t ≤ 4 ∧ r ≤ a ∧ m ≤ b) ∧ a ≤ 12 ∧ b ≤ 12 := by
  obtain ⟨h1, h2, h3⟩ := tileOk_true.1 h
  have e4 : tileR a b k = tileB a b k := by simp [tileR, h]
  obtain ⟨a1, a2, b1, b2⟩ := sizedB_true.1 h1
  rw [e4]
  refine ⟨_, _, _, _, rfl, ?_, a2, b2⟩
  unfold tileN at h3
  rcases acr_of a1 a2 with ⟨h2, _⟩ | ⟨h2, _⟩ | ⟨h2, _⟩ <;> rcases acr_of b1 b2 with ⟨h3, _⟩ | ⟨h3, _⟩ | ⟨h3, _⟩ <;> simp only [h2, h3] at * <;> omega
theorem tile_apart {a b k j : Int} (h : tileOk a b k = true) (h' : tileOk a b j = true) (hne : j ≠ k) : cutB (tileR a b k) (tileR a b j) = zero := by
  obtain ⟨l, t, r, m, e, s, s1, s2⟩ := tile_sides h
  obtain ⟨l', t', r', m', e', s', _⟩ := tile_sides h'
  have k1 : r ≤ l' ∨ r' ≤ l ∨ m ≤ t' ∨ m' ≤ t := by
    obtain ⟨h1, h2, h3⟩ := tileOk_true.1 h
    obtain ⟨_, h2', h3'⟩ := tileOk_true.1 h'
    have e4 : tileR a b k = tileB a b k := by simp [tileR, h]
    have e5 : tileR a b j = tileB a b j := by simp [tileR, h']
    obtain ⟨a1, a2, b1, b2⟩ := sizedB_true.1 h1
    rw [e4, tileB, Bx.mk.injEq] at e
    rw [e5, tileB, Bx.mk.injEq] at e'
    unfold tileN at h3 h3'
    rcases acr_of a1 a2 with ⟨h2, _⟩ | ⟨h2, _⟩ | ⟨h2, _⟩ <;> rcases acr_of b1 b2 with ⟨h3, _⟩ | ⟨h3, _⟩ | ⟨h3, _⟩ <;> simp only [h2, h3] at * <;> omega
  rw [e, e', cutB_in (validB_true.2 (by omega)) (validB_true.2 (by omega))]
  exact meet_yes (by omega)

set_option maxHeartbeats 2000000 in
theorem FnTileBox_walk (w : World) (A : Option Addr) (n c : Nat) (h : Code w A n c) :
    Calls Try.prog 7 #[.slice A n c] w fun e w' => e = .returned (.bool true) ∧ Below w.heap.size w w' := by
  by_cases hn : 1048576 < n
  · go_enter Try.func7, Try.ntmps7
    go_wp2
    go_ret
    exact ⟨rfl, by (repeat' (first | (with_reducible exact Below.refl _ _) | (with_reducible assumption) | (with_reducible refine Below.alloc ?_ ?_ _) | (with_reducible refine below_drewN ?_ _) | (with_reducible refine Below.drew ?_) | (with_reducible refine Below.setCell ?_ ?_ _) | (with_reducible refine below_call (by assumption) ?_ ?_) | go_size))⟩
  · go_enter Try.func7, Try.ntmps7
    go_wp2_with fail
    refine (DrawTileBox_any (h.below (by (repeat' (first | (with_reducible exact Below.refl _ _) | (with_reducible assumption) | (with_reducible refine Below.alloc ?_ ?_ _) | (with_reducible refine below_drewN ?_ _) | (with_reducible refine Below.drew ?_) | (with_reducible refine Below.setCell ?_ ?_ _) | (with_reducible refine below_call (by assumption) ?_ ?_) | go_size))))).mono ?_
    rintro e wd ⟨x, y, t, rfl, _, _, _, _, _, _, hb⟩
    have hz0 := hb.size
    rcases Bool.eq_false_or_eq_true (tileOk x y t) with h1 | h1
    · obtain ⟨m, hm⟩ : ∃ m, tcount x y = m := ⟨_, rfl⟩
      have hm9 := tcount_le x y
      have hm1 := tileOk_in (a := x) (b := y) (k := t)
      rw [hm, h1, inB_true] at hm1
      rw [hm] at hm9
      obtain ⟨xl, xt, xr, xb, hx, hs, hs1, hs2⟩ := tile_sides h1
      have F := Lib.hid (fun j (hj : tileOk x y j = true) (hne : j ≠ t) => tile_apart h1 hj hne)
      have G := Lib.hid (fun j => tileOk_in (a := x) (b := y) (k := j))
      have H1 := Lib.hid h1
      have H2 := Lib.hid hx
      have H3 := Lib.hid hm
      clear h1 hx hm
      go_wp2_with fail; (with_reducible refine (TileBox_eq (Hid.out (by with_reducible assumption)) (Hid.out (by with_reducible assumption)) _).mono ?_); rintro e wa ⟨rfl, hb⟩; have hz := hb.size; (try simp at hz)
      go_wp2_with fail; (with_reducible refine (sTileBox_eq (Hid.out (by with_reducible assumption)) (Hid.out (by with_reducible assumption)) _).mono ?_); rintro e wb ⟨rfl, hb⟩; have hz := hb.size; (try simp at hz); (try (have hk := bcl hb (wa.heap.size) (by first | omega | (simp; done) | (simp; omega)); have hc := hk.1; have hf := hk.2.1; have hk := hk.2.2))
      go_wp2
      have q0 : wb.heap[wa.heap.size]? = some (.cells #[.int .i64 xl, .int .i64 xt, .int .i64 xr, .int .i64 xb] 24 (0, 0)) := by (repeat' (first | (with_reducible assumption) | (with_reducible exact blk_new _ _) | (with_reducible exact blk_new1 _ _ _) | (with_reducible exact blk_new2 _ _ _ _) | (with_reducible refine blk_alloc ?_ _) | (with_reducible refine blk_drewN ?_ _) | (with_reducible refine blk_down (by assumption) ?_) | (with_reducible refine blk_up (by assumption) (by omega) ?_) | (with_reducible refine blk_far ?_ _ (by simp; omega))))
      clear hc hf hk
      go_loopw [10] (fun i wr => ∃ k : Nat, (k : Int) ≤ m ∧ i = .int .i64 k ∧ wr.heap[wa.heap.size]? = some (.cells #[.int .i64 xl, .int .i64 xt, .int .i64 xr, .int .i64 xb] 24 (0, 0)) ∧ Below w.heap.size w wr) (fun i _ => m.toNat - (intOf i).toNat)
      case atStart => exact ⟨0, by omega, by simp, by (repeat' (first | (with_reducible assumption) | (with_reducible exact blk_new _ _) | (with_reducible exact blk_new1 _ _ _) | (with_reducible exact blk_new2 _ _ _ _) | (with_reducible refine blk_alloc ?_ _) | (with_reducible refine blk_drewN ?_ _) | (with_reducible refine blk_down (by assumption) ?_) | (with_reducible refine blk_up (by assumption) (by omega) ?_) | (with_reducible refine blk_far ?_ _ (by simp; omega)))), by (repeat' (first | (with_reducible exact Below.refl _ _) | (with_reducible assumption) | (with_reducible refine Below.alloc ?_ ?_ _) | (with_reducible refine below_drewN ?_ _) | (with_reducible refine Below.drew ?_) | (with_reducible refine Below.setCell ?_ ?_ _) | (with_reducible refine below_call (by assumption) ?_ ?_) | (with_reducible refine below_grown (by assumption) ?_ ?_ ?_) | omega | (simp; done) | (simp; omega)))⟩
      case round =>
        obtain ⟨k, hk, rfl, hb1, hbel⟩ := hrel
        have hcb := blk_cell hb1
        have hl1 := blk_lt hb1
        have Hb1 := Lib.hid hb1
        clear hb1 q0
        by_cases hlt : (k : Int) < m
        · have hk1 : tileOk x y k = true := by rw [← tileOk_in, H3.out, inB_true]; omega
          obtain ⟨⟨cl, ct, cr, cb⟩, hc⟩ : ∃ q, tileR x y k = q := ⟨_, rfl⟩
          by_cases hkt : (k : Int) = t
          · subst hkt
            clear hc
            go_wp2_with (first | (go_at_call 24; (with_reducible refine (TileCount_eq (Hid.out (by with_reducible assumption)) _).mono ?_); rintro e w1 ⟨rfl, hb⟩; have hz := hb.size; (try simp at hz); (try (have hk := bcl hb (wa.heap.size) (by first | omega | (simp; done) | (simp; omega)); have hc := hk.1; have hf := hk.2.1; have hk := hk.2.2))) | (go_at_call 22; (with_reducible refine (TileBox_eq (Hid.out (by with_reducible assumption)) (Hid.out (by with_reducible assumption)) _).mono ?_); rintro e w1 ⟨rfl, hb⟩; have hz := hb.size; (try simp at hz); (try (have hk := bcl hb (wa.heap.size) (by first | omega | (simp; done) | (simp; omega)); have hc := hk.1; have hf := hk.2.1; have hk := hk.2.2))))
            go_roundw
            case rel => exact ⟨k + 1, by omega, by go_num, (by have hq := Hb1.out; (repeat' (first | (with_reducible assumption) | (with_reducible exact blk_new _ _) | (with_reducible exact blk_new1 _ _ _) | (with_reducible exact blk_new2 _ _ _ _) | (with_reducible refine blk_alloc ?_ _) | (with_reducible refine blk_drewN ?_ _) | (with_reducible refine blk_down (by assumption) ?_) | (with_reducible refine blk_up (by assumption) (by omega) ?_) | (with_reducible refine blk_far ?_ _ (by simp; omega))))), by (repeat' (first | (with_reducible exact Below.refl _ _) | (with_reducible assumption) | (with_reducible refine Below.alloc ?_ ?_ _) | (with_reducible refine below_drewN ?_ _) | (with_reducible refine Below.drew ?_) | (with_reducible refine Below.setCell ?_ ?_ _) | (with_reducible refine below_call (by assumption) ?_ ?_) | (with_reducible refine below_grown (by assumption) ?_ ?_ ?_) | omega | (simp; done) | (simp; omega)))⟩
            case measure => simp [intOf]; omega
          · have hf := F.out k hk1 hkt
            rw [H2.out, hc] at hf
            have H4 := Lib.hid hc
            have H5 := Lib.hid hk1
            have H6 := Lib.hid hf
            have e1 : ((k : Int) != t) = true := by simp; omega
            have e2 : ((k : Int) == t) = false := by simp; omega
            clear hc hk1 hf
            go_wp2_with (first | (go_at_call 24; (with_reducible refine (TileCount_eq (Hid.out (by with_reducible assumption)) _).mono ?_); rintro e wc ⟨rfl, hb⟩; have hz := hb.size; (try simp at hz); (try (have hk := bcl hb (wa.heap.size) (by first | omega | (simp; done) | (simp; omega)); have hc := hk.1; have hf := hk.2.1; have hk := hk.2.2))) | (go_at_call 22; (with_reducible refine (TileBox_eq (Hid.out (by with_reducible assumption)) (Hid.out (by with_reducible assumption)) _).mono ?_); rintro e we ⟨rfl, hb⟩; have hz := hb.size; (try simp at hz); (try (have hk := bcl hb (wa.heap.size) (by first | omega | (simp; done) | (simp; omega)); have hc := hk.1; have hf := hk.2.1; have hk := hk.2.2))) | (go_at_call 26; (with_reducible refine (CutBox_eq (x := zero) (Hid.out (by with_reducible assumption)) _).mono ?_); rintro e w1 ⟨rfl, hb⟩; have hz := hb.size; (try simp at hz); (try (have hk := bcl hb (wa.heap.size) (by first | omega | (simp; done) | (simp; omega)); have hc := hk.1; have hf := hk.2.1; have hk := hk.2.2))))
            go_roundw
            case rel => exact ⟨k + 1, by omega, by go_num, (by have hq := Hb1.out; (repeat' (first | (with_reducible assumption) | (with_reducible exact blk_new _ _) | (with_reducible exact blk_new1 _ _ _) | (with_reducible exact blk_new2 _ _ _ _) | (with_reducible refine blk_alloc ?_ _) | (with_reducible refine blk_drewN ?_ _) | (with_reducible refine blk_down (by assumption) ?_) | (with_reducible refine blk_up (by assumption) (by omega) ?_) | (with_reducible refine blk_far ?_ _ (by simp; omega))))), by (repeat' (first | (with_reducible exact Below.refl _ _) | (with_reducible assumption) | (with_reducible refine Below.alloc ?_ ?_ _) | (with_reducible refine below_drewN ?_ _) | (with_reducible refine Below.drew ?_) | (with_reducible refine Below.setCell ?_ ?_ _) | (with_reducible refine below_call (by assumption) ?_ ?_) | (with_reducible refine below_grown (by assumption) ?_ ?_ ?_) | omega | (simp; done) | (simp; omega)))⟩
            case measure => simp [intOf]; omega
        · obtain rfl : m = k := by omega
          go_wp2_with (first | (go_at_call 24; (with_reducible refine (TileCount_eq (Hid.out (by with_reducible assumption)) _).mono ?_); rintro e w1 ⟨rfl, hb⟩; have hz := hb.size; (try simp at hz); (try (have hk := bcl hb (wa.heap.size) (by first | omega | (simp; done) | (simp; omega)); have hc := hk.1; have hf := hk.2.1; have hk := hk.2.2))))
          go_ret
          exact ⟨rfl, by (repeat' (first | (with_reducible exact Below.refl _ _) | (with_reducible assumption) | (with_reducible refine Below.alloc ?_ ?_ _) | (with_reducible refine below_drewN ?_ _) | (with_reducible refine Below.drew ?_) | (with_reducible refine Below.setCell ?_ ?_ _) | (with_reducible refine below_call (by assumption) ?_ ?_) | (with_reducible refine below_grown (by assumption) ?_ ?_ ?_) | omega | (simp; done) | (simp; omega)))⟩
    · have hx' : tileR x y t = zero := by simp [tileR, h1]
      have H1 := Lib.hid h1
      have H2 := Lib.hid hx'
      clear h1 hx'
      go_wp2_with fail; (with_reducible refine (TileBox_eq (x := zero) (Hid.out (by with_reducible assumption)) (Hid.out (by with_reducible assumption)) _).mono ?_); rintro e wa ⟨rfl, hb⟩; have hz := hb.size; (try simp at hz)
      go_wp2_with fail; (with_reducible refine (sTileBox_eq (x := zero) (Hid.out (by with_reducible assumption)) (Hid.out (by with_reducible assumption)) _).mono ?_); rintro e wb ⟨rfl, hb⟩; have hz := hb.size; (try simp at hz); (try (have hk := bcl hb (wa.heap.size) (by first | omega | (simp; done) | (simp; omega)); have hc := hk.1; have hf := hk.2.1; have hk := hk.2.2))
      go_wp2
      go_ret
      exact ⟨rfl, by (repeat' (first | (with_reducible exact Below.refl _ _) | (with_reducible assumption) | (with_reducible refine Below.alloc ?_ ?_ _) | (with_reducible refine below_drewN ?_ _) | (with_reducible refine Below.drew ?_) | (with_reducible refine Below.setCell ?_ ?_ _) | (with_reducible refine below_call (by assumption) ?_ ?_) | (with_reducible refine below_grown (by assumption) ?_ ?_ ?_) | omega | (simp; done) | (simp; omega)))⟩

theorem FnTileBox_own : ownKnob Try.prog.godebug = none := by kernel_rfl
theorem FnTileBox_laid : laidOutB Try.prog = true := by kernel_rfl

set_option maxRecDepth 100000 in
theorem FnTileBox_lifted (os : Os) (started : os.Started) (H : Type) (enc : TypeId × Value → H) :
    ReturnsInHanded {} Try.checked os 7 .any (Rows.fnTileBoxSpec.pre6 enc Try.prog Try.f7 Rows.fnTileBoxRow.domain false) (Rows.fnTileBoxSpec.post enc Try.prog Try.f7 false true false false) := by
  refine returnsInHanded_of_change (C := Try.checked) FnTileBox_own started (by kernel_rfl) Try.func7
    (ChangeSpec.witness6 (enc := enc) (C := Try.checked) false ⟨#[], #[.slice none 0 0], []⟩ 8 (by kernel_rfl) (by kernel_rfl) (by kernel_rfl) (by kernel_rfl)) ?_
  intro W base args ds gs before hval0 hW hcnd _
  have hval : ∀ (j : Nat) t v, Try.f7.params[j]? = some t → args[j]? = some v → Value.okWide Try.prog W .any base t v := hval0
  have hW' := hW
  obtain ⟨p, q, hA0, hV, rfl, hfz, hnd⟩ := hW
  have hA : DataW.TrodAll enc Try.prog W 0 (fun _ => true) true Try.f7.params.toList args.toList ds p := hA0
  rw [Try.params7] at hA hval
  obtain ⟨v0, vs0, d0, ds0, p0, q0, hargs, rfl, rfl, h0, r0⟩ := trodAll_cons hA
  obtain ⟨rfl, rfl, rfl⟩ := trodAll_nil r0
  obtain rfl : args = #[v0] := by cases args; simp_all
  obtain ⟨rfl, rfl⟩ := trodVars_none hV
  have k0 := h0
  have lt0 : ∀ x ∈ p0, x.block < W.heap.size := by obtain ⟨m, hm⟩ := k0; exact DataW.trod_lt m _ _ _ hm
  obtain ⟨a0, len0, cap0, rfl⟩ := okWide_slice Try.underlying22 (hval 0 22 v0 rfl rfl)
  have w0 := code_of Try.underlying22 Try.underlying5 (by kernel_rfl) h0
  clear hA0 hval0
  refine (FnTileBox_walk W _ _ _ w0).mono fun e W' ⟨he, bel⟩ => ?_
  subst he
  exact ⟨_, rfl, _, _, _, [], _, [], hW', trodAll_mk1 (shut_bool Try.underlying4 _), (trodAll_cons_mk (Below.trod FnTileBox_laid (by kernel_rfl) (of_decide_eq_true (by kernel_rfl)) k0 bel lt0) trodAll_mk0), rfl, bel.frame _, fun h => by cases h⟩

theorem FnTileBox_over : Rows.fnTileBoxRow.holds Try.pinned (OpenSpec.ofChange Rows.fnTileBoxSpec) :=
  OpenClaim.holds_of_wide 7 Try.f7 rfl rfl rfl rfl rfl rfl rfl ⟨rfl, rfl, rfl, rfl, rfl⟩ rfl rfl rfl rfl rfl (by kernel_rfl) Try.func7 (by kernel_rfl)
    (of_decide_eq_true (by kernel_rfl)) (by unfold Func.isWrapper; first | (rw [if_pos (by decide +kernel)]; kernel_rfl) | (rw [if_neg (by decide +kernel)]; exact ⟨rfl, rfl⟩))
    (fun os started H enc _ => FnTileBox_lifted os started H enc)

/-- The statement. -/
theorem FnTileBox_holds : Rows.FnTileBoxSaid := FnTileBox_over
#print axioms FnTileBox_holds

end Go.Proofs.Ytmhnebkmhblhpaa
