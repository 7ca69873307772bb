/-
  The polygon of one line: the reference's normal and bar.
-/
import Derived.Test.YtbiddmimcdmnoaaStr
import Derived.Test.YtbiddmimcdmnoaaPlS2
import Derived.Test.YtbiddmimcdmnoaaLen
namespace Go.Proofs.Ytbiddmimcdmnoaa
open Go.RowKit Pl

set_option linter.unusedSimpArgs false
set_option linter.unusedVariables false

set_option maxHeartbeats 1000000 in
theorem normal_eq {x y u v half X Y : Int} (hp : ptB (x, y) = true) (hq : ptB (u, v) = true) (hne : ((x, y) : Pt) ≠ (u, v)) (h3 : 1 ≤ half) (h4 : half ≤ 100)
    (hX : barX (x, y) (u, v) half = X) (hY : barY (x, y) (u, v) half = Y) (w : World) :
    Calls Try.prog 36 #[.agg #[.int .i64 x, .int .i64 y], .agg #[.int .i64 u, .int .i64 v], .int .i64 half] w fun e w' => e = .returned (.agg #[.int .i64 X, .int .i64 Y]) ∧ Below w.heap.size w w' := by
  have hd0 := dist2_nonneg (x, y) (u, v)
  have hd1 := dist2_le hp hq
  have hr := rootI_is hd0
  have hr1 := rootI_pos (dist2_pos hne)
  have hr2 := hr.le (M := 3000) (by omega) (by omega)
  obtain ⟨_, _, _, _⟩ := ptB_true.1 hp
  obtain ⟨_, _, _, _⟩ := ptB_true.1 hq
  have hx := sq_bound (a := u - x) (M := 2000) (by omega) (by omega) (by omega)
  have hy := sq_bound (a := v - y) (M := 2000) (by omega) (by omega) (by omega)
  have hx0 := sq_nonneg (u - x)
  have hy0 := sq_nonneg (v - y)
  simp only [Int.reduceMul] at hx hy
  obtain ⟨m1, m2⟩ := mul_bar (a := -(v - y)) (b := half) (by omega) (by omega) h3 h4
  obtain ⟨m3, m4⟩ := mul_bar (a := u - x) (b := half) (by omega) (by omega) h3 h4
  unfold barX at hX
  unfold barY at hY
  simp only at hX hY
  rw [show y - v = -(v - y) by omega] at hX
  obtain ⟨r, hrr⟩ : ∃ r, rootI (dist2 (x, y) (u, v)) = r := ⟨_, rfl⟩
  rw [hrr] at hX hY hr hr1 hr2
  have H : Hid (IsRoot ((u - x) * (u - x) + (v - y) * (v - y)) r) := Lib.hid hr
  have HX := Lib.hid hX
  have HY := Lib.hid hY
  have hmax : max 1 r = r := by omega
  clear hp hq hr hd0 hd1 hX hY hrr hne
  go_enter Try.func36, Try.ntmps36
  go_wp2_with ((go_at_call 43; (with_reducible refine (rootOf_eq (Hid.out (by with_reducible assumption)) (by omega) (by omega) _).mono ?_); rintro e w1 ⟨rfl, rfl⟩))
  (with_reducible refine (nearest_eq (by omega) (by omega) (by omega) (by omega) HX.out _).mono ?_)
  rintro e w1 ⟨rfl, rfl⟩
  go_wp2_with fail
  (with_reducible refine (nearest_eq (by omega) (by omega) (by omega) (by omega) HY.out _).mono ?_)
  rintro e w1 ⟨rfl, rfl⟩
  go_wp2
  ((try simp only [Exit.inBlock, Exit.then]); refine bodyPost_ret (by simp [results, Try.results36, go_sem, *]; try rfl) rfl ?_)
  exact ⟨rfl, by (repeat' (first | (with_reducible exact Below.refl _ _) | (with_reducible assumption) | (with_reducible refine Below.alloc ?_ ?_ _) | (with_reducible refine below_drewN ?_ _) | (with_reducible refine Below.drew ?_) | (with_reducible refine Below.setCell ?_ ?_ _) | (with_reducible refine below_call (by assumption) ?_ ?_) | go_size))⟩

set_option maxHeartbeats 1000000 in
theorem bar_eq {x y u v half : Int} {r : List Pt} (hp : ptB (x, y) = true) (hq : ptB (u, v) = true) (hne : ((x, y) : Pt) ≠ (u, v)) (h3 : 1 ≤ half) (h4 : half ≤ 100) (hr : barL (x, y) (u, v) half = r) (w : World) :
    Calls Try.prog 19 #[.agg #[.int .i64 x, .int .i64 y], .agg #[.int .i64 u, .int .i64 v], .int .i64 half] w (RetP r w) := by
  obtain ⟨b1, b2, b3, b4⟩ := barX_small hp hq hne h3 h4
  obtain ⟨_, _, _, _⟩ := ptB_true.1 hp
  obtain ⟨_, _, _, _⟩ := ptB_true.1 hq
  unfold barL at hr
  simp only at hr
  obtain ⟨X, hX⟩ : ∃ X, barX (x, y) (u, v) half = X := ⟨_, rfl⟩
  obtain ⟨Y, hY⟩ : ∃ X, barY (x, y) (u, v) half = X := ⟨_, rfl⟩
  rw [hX] at b1 b2 hr
  rw [hY] at b3 b4 hr
  have HX := Lib.hid hX
  have HY := Lib.hid hY
  have HR := Lib.hid hr
  have HP := Lib.hid hp
  have HQ := Lib.hid hq
  have HN := Lib.hid hne
  clear hX hY hr hp hq hne
  go_enter Try.func19, Try.ntmps19
  go_wp2_with ((go_at_call 36; (with_reducible refine (normal_eq HP.out HQ.out HN.out h3 h4 HX.out HY.out _).mono ?_); rintro e w1 ⟨rfl, hb⟩; have hz := hb.size; (try simp at hz); (try (have hk := bcl hb (w.heap.size) (by first | omega | (simp; done) | (simp; omega)); have hc := hk.1; have hf := hk.2.1; have hk := hk.2.2)); (try (have hk := bcl hb (w.heap.size + 1) (by first | omega | (simp; done) | (simp; omega)); have hc := hk.1; have hf := hk.2.1; have hk := hk.2.2))))
  go_ret
  rw [← HR.out]
  refine ⟨.slice (some ⟨w1.heap.size + 1, 0, .none⟩) 4 4, rfl, ?_, by (repeat' (first | (with_reducible exact Below.refl _ _) | (with_reducible assumption) | (with_reducible refine Below.alloc ?_ ?_ _) | (with_reducible refine below_drewN ?_ _) | (with_reducible refine Below.drew ?_) | (with_reducible refine Below.setCell ?_ ?_ _) | (with_reducible refine below_call (by assumption) ?_ ?_) | (with_reducible refine below_grown (by assumption) ?_ ?_ ?_) | omega | (simp; done) | (simp; omega)))⟩
  exact made4 rfl (by omega) (by (repeat' (first | (with_reducible assumption) | (with_reducible exact blk_new _ _) | (with_reducible exact blk_new1 _ _ _) | (with_reducible exact blk_new2 _ _ _ _) | (with_reducible refine blk_alloc ?_ _) | (with_reducible refine blk_drewN ?_ _) | (with_reducible refine blk_down (by assumption) ?_) | (with_reducible refine blk_up (by assumption) (by omega) ?_) | (with_reducible refine blk_far ?_ _ (by simp; omega)))))

end Go.Proofs.Ytbiddmimcdmnoaa
