/-
  A box, a width and a height, drawn.
-/
import Derived.Test.YtikpaebemiobpaaDraw2
import Derived.Test.YtikpaebemiobpaaPix
namespace Go.Proofs.Ytikpaebemiobpaa
open Go.RowKit Pl

set_option linter.unusedSimpArgs false
set_option linter.unusedVariables false

def BxWH (w : World) (e : Ending) (w' : World) : Prop :=
  ∃ l t r b x y : Int, e = .returned (.tuple #[.agg #[.int .i64 l, .int .i64 t, .int .i64 r, .int .i64 b], .int .i64 x, .int .i64 y]) ∧ 0 ≤ x ∧ x ≤ 13 ∧ 0 ≤ y ∧ y ≤ 13 ∧ Below w.heap.size w w'

set_option maxHeartbeats 1000000 in
theorem DrawTilesIn_any {A : Option Addr} {n c : Nat} {w : World} (h : Code w A n c) : Calls Try.prog 12 #[.slice A n c] w (BxWH w) := by
  go_enter Try.func12, Try.ntmps12
  go_wp2_with fail
  refine (newReader_any (h.below (by (repeat' (first | (with_reducible exact Below.refl _ _) | (with_reducible assumption) | (with_reducible refine Below.alloc ?_ ?_ _) | (with_reducible refine below_drewN ?_ _) | (with_reducible refine Below.drew ?_) | (with_reducible refine Below.setCell ?_ ?_ _) | (with_reducible refine below_call (by assumption) ?_ ?_) | go_size))))).mono ?_
  rintro e w1 ⟨g, A', n', c', z, rfl, hg0, hr, hb⟩
  simp at hg0
  have hz1 := hb.size
  (try simp at hz1)
  have hk1 := blk_below (blk_new w (.cells #[.int .i64 0, .int .i64 0, .int .i64 0, .int .i64 0] 26)) hb
  have hgl1 := hr.lt
  go_wp2_with fail
  refine (anyBox_any hr (by omega)).mono ?_
  rintro e w2 ⟨l, t, r, b, rfl, hr, hg⟩
  have hz2 := hg.size
  have hgl2 := hr.lt
  have hk2 := blk_grown hk1 hg (by omega)
  go_wp2_with fail
  refine (pick_any (hr.alloc _) (by omega) _).mono ?_
  rintro e w3 ⟨x, rfl, hx0, hx1, hr, hg⟩
  have hz3 := hg.size
  simp at hz3
  have hgl3 := hr.lt
  have hk3 := blk_grown (blk_alloc hk2 (.cells #[.int .i64 l, .int .i64 t, .int .i64 r, .int .i64 b] 26)) hg (by omega)
  have hq3 := blk_grown (blk_new w2 (.cells #[.int .i64 l, .int .i64 t, .int .i64 r, .int .i64 b] 26)) hg (by omega)
  by_cases hx : 0 < x
  · have ex : decide (0 < x) = true := decide_eq_true hx
    obtain ⟨⟨l', t', r', b'⟩, hp⟩ : ∃ y, pixB ⟨l, t, r, b⟩ = y := ⟨_, rfl⟩
    have HP := Lib.hid hp
    have hq3c := blk_cell hq3
    have hq3l := blk_lt hq3
    clear hp
    go_wp2_with fail
    refine (sPixelBox_eq HP.out _).mono ?_
    rintro e w4 ⟨rfl, hb4⟩
    have hz4 := hb4.size
    have hk4 := blk_below hk3 hb4
    have hq4 := blk_below hq3 hb4
    have hq4c := blk_cell hq4
    have hq4f := blk_free hq4
    have hq4l := blk_lt hq4
    have hr := hr.below hb4
    have hkS := blk_far4 (i := 0) (j := 1) (k := 2) (m := 3) hk4 (show w.heap.size ≠ w2.heap.size by omega) (.int .i64 l') (.int .i64 t') (.int .i64 r') (.int .i64 b')
    have hqS := blk_set4 hq4 (.int .i64 l') (.int .i64 t') (.int .i64 r') (.int .i64 b')
    have hr := (((hr.setFar (p := ⟨w2.heap.size, 0, none⟩) (u := .int .i64 l') (by simp; omega)).setFar (p := ⟨w2.heap.size, 1, none⟩) (u := .int .i64 t') (by simp; omega)).setFar (p := ⟨w2.heap.size, 2, none⟩) (u := .int .i64 r') (by simp; omega)).setFar (p := ⟨w2.heap.size, 3, none⟩) (u := .int .i64 b') (by simp; omega)
    clear hq3c hq3l
    go_wp2_with fail
    refine (anySide_any hr (by omega)).mono ?_
    rintro e w5 ⟨x5, rfl, ⟨hx50, hx51⟩, hr, hg⟩
    have hz5 := hg.size
    have hgl5 := hr.lt
    have hk5 := blk_grown hkS hg (by omega)
    have hq5 := blk_grown hqS hg (by omega)
    have hq5c := blk_cell hq5
    have hq5f := blk_free hq5
    have hq5l := blk_lt hq5
    go_wp2_with fail
    apply wp_region_rdr (by kernel_rfl) ([] :: [] :: [] :: [2] :: []) (RS.det [] _ :: RS.det [] _ :: RS.det [] _ :: RS.p [2] (fun v => ∃ y, v = .int .i64 y ∧ 0 ≤ y ∧ y ≤ 13) :: []) [1] rfl (by kernel_rfl) (by intro _ c a d v w h; cases d <;> exact h) (by kernel_rfl) (by kernel_rfl) (st_det (st_det (st_det (st_p st_nil)))) _ (fun v => by simp; rfl)
    case hr => exact (by repeat' (first | (with_reducible assumption) | (with_reducible apply Rd.alloc) | (with_reducible apply Rd.drewN) | (with_reducible apply rd_below (by assumption)) | (with_reducible apply Rd.setFar) | omega | (simp; omega)))
    case hop =>
      simp only [OblsR]
      refine ⟨?_, ?_, ?_, ?_, trivial⟩
      · (intro v j w1 Kc hj hr hg hF hK; (try simp at hj); (try simp at hF); simp at hK; (try simp only [hF] at hK); have hz := hg.size; (try simp at hz); have hgl := Rd.lt hr; (try (have hk := gcl hg (w.heap.size) (by first | omega | (simp; done) | (simp; omega)) (by omega); have hc := hk.1; have hf := hk.2.1; have hk := hk.2.2)); (try (have hk := gcl hg (w2.heap.size) (by first | omega | (simp; done) | (simp; omega)) (by omega); have hc := hk.1; have hf := hk.2.1; have hk := hk.2.2)))
        go_simp
        (try simp only [])
        exact hK _ _ rfl (by (repeat' (first | (with_reducible exact World.grownBy.refl _ _) | (with_reducible assumption) | (with_reducible refine only_alloc ?_ _) | (with_reducible refine only_drewN ?_ _) | (with_reducible refine only_setCell ?_ (by first | exact .inl rfl | exact .inr (Nat.le_refl _) | (right; simp; done) | (right; simp; omega)) _) | (with_reducible refine grown_call (by assumption) ?_) | (with_reducible refine grown_below (by assumption) ?_ (by first | omega | (simp; done) | (simp; omega)))))) (Rd.more (by repeat' (first | (with_reducible assumption) | (with_reducible apply Rd.alloc) | (with_reducible apply Rd.drewN) | (with_reducible apply rd_below (by assumption)) | (with_reducible apply Rd.setFar) | omega | (simp; omega))) (by omega))
      · (intro v j w1 Kc hj hr hg hF hK; (try simp at hj); (try simp at hF); simp at hK; (try simp only [hF] at hK); have hz := hg.size; (try simp at hz); have hgl := Rd.lt hr)
        go_simp
        (try simp only [])
        exact hK _ _ rfl (by (repeat' (first | (with_reducible exact World.grownBy.refl _ _) | (with_reducible assumption) | (with_reducible refine only_alloc ?_ _) | (with_reducible refine only_drewN ?_ _) | (with_reducible refine only_setCell ?_ (by first | exact .inl rfl | exact .inr (Nat.le_refl _) | (right; simp; done) | (right; simp; omega)) _) | (with_reducible refine grown_call (by assumption) ?_) | (with_reducible refine grown_below (by assumption) ?_ (by first | omega | (simp; done) | (simp; omega)))))) (Rd.more (by repeat' (first | (with_reducible assumption) | (with_reducible apply Rd.alloc) | (with_reducible apply Rd.drewN) | (with_reducible apply rd_below (by assumption)) | (with_reducible apply Rd.setFar) | omega | (simp; omega))) (by omega))
      · (intro v j w1 Kc hj hr hg hF hK; (try simp at hj); (try simp at hF); simp at hK; (try simp only [hF] at hK); have hz := hg.size; (try simp at hz); have hgl := Rd.lt hr)
        go_simp
        (try simp only [])
        exact hK _ _ rfl (by (repeat' (first | (with_reducible exact World.grownBy.refl _ _) | (with_reducible assumption) | (with_reducible refine only_alloc ?_ _) | (with_reducible refine only_drewN ?_ _) | (with_reducible refine only_setCell ?_ (by first | exact .inl rfl | exact .inr (Nat.le_refl _) | (right; simp; done) | (right; simp; omega)) _) | (with_reducible refine grown_call (by assumption) ?_) | (with_reducible refine grown_below (by assumption) ?_ (by first | omega | (simp; done) | (simp; omega)))))) (Rd.more (by repeat' (first | (with_reducible assumption) | (with_reducible apply Rd.alloc) | (with_reducible apply Rd.drewN) | (with_reducible apply rd_below (by assumption)) | (with_reducible apply Rd.setFar) | omega | (simp; omega))) (by omega))
      · (intro v j w1 Kc hj hr hg hF hK; (try simp at hj); (try simp at hF); simp at hK; (try simp only [hF] at hK); have hz := hg.size; (try simp at hz); have hgl := Rd.lt hr; (try (have hk := gcl hg (w.heap.size) (by first | omega | (simp; done) | (simp; omega)) (by omega); have hc := hk.1; have hf := hk.2.1; have hk := hk.2.2)); (try (have hk := gcl hg (w2.heap.size) (by first | omega | (simp; done) | (simp; omega)) (by omega); have hc := hk.1; have hf := hk.2.1; have hk := hk.2.2)))
        go_simp
        (first | (go_at_call 28; refine (anySide_any hr (by omega)).mono ?_; rintro e w6 ⟨x6, rfl, ⟨hx60, hx61⟩, hr, hg⟩))
        (try simp only [])
        exact hK _ _ (⟨_, rfl, hx60, hx61⟩) (by (repeat' (first | (with_reducible exact World.grownBy.refl _ _) | (with_reducible assumption) | (with_reducible refine only_alloc ?_ _) | (with_reducible refine only_drewN ?_ _) | (with_reducible refine only_setCell ?_ (by first | exact .inl rfl | exact .inr (Nat.le_refl _) | (right; simp; done) | (right; simp; omega)) _) | (with_reducible refine grown_call (by assumption) ?_) | (with_reducible refine grown_below (by assumption) ?_ (by first | omega | (simp; done) | (simp; omega)))))) (Rd.more (by repeat' (first | (with_reducible assumption) | (with_reducible apply Rd.alloc) | (with_reducible apply Rd.drewN) | (with_reducible apply rd_below (by assumption)) | (with_reducible apply Rd.setFar) | omega | (simp; omega))) (by omega))
    case hfo => exact ⟨fun _ => rfl, trivial⟩
    (intro v w1 hr hg hF; simp [List.range, List.range.loop] at hF; have hz := hg.size; (try simp at hz); have hgl := Rd.lt hr; (try (have hk := gcl hg (w.heap.size) (by first | omega | (simp; done) | (simp; omega)) (by omega); have hc := hk.1; have hf := hk.2.1; have hk := hk.2.2)); (try (have hk := gcl hg (w2.heap.size) (by first | omega | (simp; done) | (simp; omega)) (by omega); have hc := hk.1; have hf := hk.2.1; have hk := hk.2.2)))
    obtain ⟨e0, e1, e2, y3, e3, hy0, hy1⟩ := hF
    simp only [List.length_cons, List.length_nil, List.drop_succ_cons, List.drop_zero, e0, e1, e2, e3]
    clear e0 e1 e2 e3 v
    have hkc := blk_cell hk5
    have hkf := blk_free hk5
    have hkl := blk_lt hk5
    have r0 := blk_cell (blk_set4 (blk_grown hk5 hg (by omega)) (.int .i64 l') (.int .i64 t') (.int .i64 r') (.int .i64 b'))
    go_wp2
    ((try simp only [Exit.inBlock, Exit.then]); refine bodyPost_ret (by simp [results, Try.results12, go_sem, *]; try rfl) rfl ?_)
    exact ⟨_, _, _, _, _, _, rfl, by omega, by omega, by omega, by omega, by (repeat' (first | (with_reducible exact Below.refl _ _) | (with_reducible assumption) | (with_reducible refine Below.alloc ?_ ?_ _) | (with_reducible refine below_drewN ?_ _) | (with_reducible refine Below.drew ?_) | (with_reducible refine Below.setCell ?_ ?_ _) | (with_reducible refine below_call (by assumption) ?_ ?_) | (with_reducible refine below_grown (by assumption) ?_ ?_ ?_) | omega | (simp; done) | (simp; omega)))⟩
  · have ex : decide (0 < x) = false := decide_eq_false hx
    go_wp2_with fail
    refine (anySide_any hr (by omega)).mono ?_
    rintro e w5 ⟨x5, rfl, ⟨hx50, hx51⟩, hr, hg⟩
    have hz5 := hg.size
    have hgl5 := hr.lt
    have hk5 := blk_grown hk3 hg (by omega)
    have hq5 := blk_grown hq3 hg (by omega)
    have hq5c := blk_cell hq5
    have hq5f := blk_free hq5
    have hq5l := blk_lt hq5
    go_wp2_with fail
    apply wp_region_rdr (by kernel_rfl) ([] :: [] :: [] :: [2] :: []) (RS.det [] _ :: RS.det [] _ :: RS.det [] _ :: RS.p [2] (fun v => ∃ y, v = .int .i64 y ∧ 0 ≤ y ∧ y ≤ 13) :: []) [1] rfl (by kernel_rfl) (by intro _ c a d v w h; cases d <;> exact h) (by kernel_rfl) (by kernel_rfl) (st_det (st_det (st_det (st_p st_nil)))) _ (fun v => by simp; rfl)
    case hr => exact (by repeat' (first | (with_reducible assumption) | (with_reducible apply Rd.alloc) | (with_reducible apply Rd.drewN) | (with_reducible apply rd_below (by assumption)) | (with_reducible apply Rd.setFar) | omega | (simp; omega)))
    case hop =>
      simp only [OblsR]
      refine ⟨?_, ?_, ?_, ?_, trivial⟩
      · (intro v j w1 Kc hj hr hg hF hK; (try simp at hj); (try simp at hF); simp at hK; (try simp only [hF] at hK); have hz := hg.size; (try simp at hz); have hgl := Rd.lt hr; (try (have hk := gcl hg (w.heap.size) (by first | omega | (simp; done) | (simp; omega)) (by omega); have hc := hk.1; have hf := hk.2.1; have hk := hk.2.2)); (try (have hk := gcl hg (w2.heap.size) (by first | omega | (simp; done) | (simp; omega)) (by omega); have hc := hk.1; have hf := hk.2.1; have hk := hk.2.2)))
        go_simp
        (try simp only [])
        exact hK _ _ rfl (by (repeat' (first | (with_reducible exact World.grownBy.refl _ _) | (with_reducible assumption) | (with_reducible refine only_alloc ?_ _) | (with_reducible refine only_drewN ?_ _) | (with_reducible refine only_setCell ?_ (by first | exact .inl rfl | exact .inr (Nat.le_refl _) | (right; simp; done) | (right; simp; omega)) _) | (with_reducible refine grown_call (by assumption) ?_) | (with_reducible refine grown_below (by assumption) ?_ (by first | omega | (simp; done) | (simp; omega)))))) (Rd.more (by repeat' (first | (with_reducible assumption) | (with_reducible apply Rd.alloc) | (with_reducible apply Rd.drewN) | (with_reducible apply rd_below (by assumption)) | (with_reducible apply Rd.setFar) | omega | (simp; omega))) (by omega))
      · (intro v j w1 Kc hj hr hg hF hK; (try simp at hj); (try simp at hF); simp at hK; (try simp only [hF] at hK); have hz := hg.size; (try simp at hz); have hgl := Rd.lt hr)
        go_simp
        (try simp only [])
        exact hK _ _ rfl (by (repeat' (first | (with_reducible exact World.grownBy.refl _ _) | (with_reducible assumption) | (with_reducible refine only_alloc ?_ _) | (with_reducible refine only_drewN ?_ _) | (with_reducible refine only_setCell ?_ (by first | exact .inl rfl | exact .inr (Nat.le_refl _) | (right; simp; done) | (right; simp; omega)) _) | (with_reducible refine grown_call (by assumption) ?_) | (with_reducible refine grown_below (by assumption) ?_ (by first | omega | (simp; done) | (simp; omega)))))) (Rd.more (by repeat' (first | (with_reducible assumption) | (with_reducible apply Rd.alloc) | (with_reducible apply Rd.drewN) | (with_reducible apply rd_below (by assumption)) | (with_reducible apply Rd.setFar) | omega | (simp; omega))) (by omega))
      · (intro v j w1 Kc hj hr hg hF hK; (try simp at hj); (try simp at hF); simp at hK; (try simp only [hF] at hK); have hz := hg.size; (try simp at hz); have hgl := Rd.lt hr)
        go_simp
        (try simp only [])
        exact hK _ _ rfl (by (repeat' (first | (with_reducible exact World.grownBy.refl _ _) | (with_reducible assumption) | (with_reducible refine only_alloc ?_ _) | (with_reducible refine only_drewN ?_ _) | (with_reducible refine only_setCell ?_ (by first | exact .inl rfl | exact .inr (Nat.le_refl _) | (right; simp; done) | (right; simp; omega)) _) | (with_reducible refine grown_call (by assumption) ?_) | (with_reducible refine grown_below (by assumption) ?_ (by first | omega | (simp; done) | (simp; omega)))))) (Rd.more (by repeat' (first | (with_reducible assumption) | (with_reducible apply Rd.alloc) | (with_reducible apply Rd.drewN) | (with_reducible apply rd_below (by assumption)) | (with_reducible apply Rd.setFar) | omega | (simp; omega))) (by omega))
      · (intro v j w1 Kc hj hr hg hF hK; (try simp at hj); (try simp at hF); simp at hK; (try simp only [hF] at hK); have hz := hg.size; (try simp at hz); have hgl := Rd.lt hr; (try (have hk := gcl hg (w.heap.size) (by first | omega | (simp; done) | (simp; omega)) (by omega); have hc := hk.1; have hf := hk.2.1; have hk := hk.2.2)); (try (have hk := gcl hg (w2.heap.size) (by first | omega | (simp; done) | (simp; omega)) (by omega); have hc := hk.1; have hf := hk.2.1; have hk := hk.2.2)))
        go_simp
        (first | (go_at_call 28; refine (anySide_any hr (by omega)).mono ?_; rintro e w6 ⟨x6, rfl, ⟨hx60, hx61⟩, hr, hg⟩))
        (try simp only [])
        exact hK _ _ (⟨_, rfl, hx60, hx61⟩) (by (repeat' (first | (with_reducible exact World.grownBy.refl _ _) | (with_reducible assumption) | (with_reducible refine only_alloc ?_ _) | (with_reducible refine only_drewN ?_ _) | (with_reducible refine only_setCell ?_ (by first | exact .inl rfl | exact .inr (Nat.le_refl _) | (right; simp; done) | (right; simp; omega)) _) | (with_reducible refine grown_call (by assumption) ?_) | (with_reducible refine grown_below (by assumption) ?_ (by first | omega | (simp; done) | (simp; omega)))))) (Rd.more (by repeat' (first | (with_reducible assumption) | (with_reducible apply Rd.alloc) | (with_reducible apply Rd.drewN) | (with_reducible apply rd_below (by assumption)) | (with_reducible apply Rd.setFar) | omega | (simp; omega))) (by omega))
    case hfo => exact ⟨fun _ => rfl, trivial⟩
    (intro v w1 hr hg hF; simp [List.range, List.range.loop] at hF; have hz := hg.size; (try simp at hz); have hgl := Rd.lt hr; (try (have hk := gcl hg (w.heap.size) (by first | omega | (simp; done) | (simp; omega)) (by omega); have hc := hk.1; have hf := hk.2.1; have hk := hk.2.2)); (try (have hk := gcl hg (w2.heap.size) (by first | omega | (simp; done) | (simp; omega)) (by omega); have hc := hk.1; have hf := hk.2.1; have hk := hk.2.2)))
    obtain ⟨e0, e1, e2, y3, e3, hy0, hy1⟩ := hF
    simp only [List.length_cons, List.length_nil, List.drop_succ_cons, List.drop_zero, e0, e1, e2, e3]
    clear e0 e1 e2 e3 v
    have hkc := blk_cell hk5
    have hkf := blk_free hk5
    have hkl := blk_lt hk5
    have r0 := blk_cell (blk_set4 (blk_grown hk5 hg (by omega)) (.int .i64 l) (.int .i64 t) (.int .i64 r) (.int .i64 b))
    go_wp2
    ((try simp only [Exit.inBlock, Exit.then]); refine bodyPost_ret (by simp [results, Try.results12, go_sem, *]; try rfl) rfl ?_)
    exact ⟨_, _, _, _, _, _, rfl, by omega, by omega, by omega, by omega, by (repeat' (first | (with_reducible exact Below.refl _ _) | (with_reducible assumption) | (with_reducible refine Below.alloc ?_ ?_ _) | (with_reducible refine below_drewN ?_ _) | (with_reducible refine Below.drew ?_) | (with_reducible refine Below.setCell ?_ ?_ _) | (with_reducible refine below_call (by assumption) ?_ ?_) | (with_reducible refine below_grown (by assumption) ?_ ?_ ?_) | omega | (simp; done) | (simp; omega)))⟩

end Go.Proofs.Ytikpaebemiobpaa
