/-
  The generators of the laws on boxes and tiles.
-/
import Derived.Test.YtmhnebkmhblhpaaDraw
import Derived.Test.YtmhnebkmhblhpaaHas
namespace Go.Proofs.Ytmhnebkmhblhpaa
open Go.RowKit Pl

set_option maxHeartbeats 400000 in
theorem anySide_any {g : Nat} {A : Option Addr} {n c : Nat} {z : Nat → Int} {w : World} {k : Nat} (h : Rd g A n c z w k) (hk : k ≤ 999000) :
    Calls Try.prog 50 #[.pointer (some ⟨g, 0, none⟩)] w (One g A n c z w k fun x => 0 ≤ x ∧ x ≤ 13) := by
  have hgl := h.lt
  go_enter Try.func50, Try.ntmps50
  go_wp2_with ((go_at_call 43; refine (one_lit (l := [4, 5, 8, 3, 12, 1, 9, 0, 13]) (by repeat' (first | (with_reducible assumption) | (with_reducible apply Rd.alloc) | (with_reducible apply Rd.drewN) | (with_reducible apply rd_below (by assumption)) | (with_reducible apply Rd.setFar) | omega | (simp; omega))) (by omega) (by simp) rfl (by simp) (by simp) _).mono ?_; rintro e w1 ⟨x2, rfl, hx, hr, hg⟩; have hz := hg.size; (try simp at hz); have hgl := Rd.lt hr))
  go_ret
  simp only [List.mem_cons, List.not_mem_nil, or_false] at hx
  exact ⟨_, rfl, by omega, (by repeat' (first | (with_reducible assumption) | (with_reducible apply Rd.alloc) | (with_reducible apply Rd.drewN) | (with_reducible apply rd_below (by assumption)) | (with_reducible apply Rd.setFar) | omega | (simp; omega))), by (repeat' (first | (with_reducible exact World.grownBy.refl _ _) | (with_reducible assumption) | (with_reducible refine only_alloc ?_ _) | (with_reducible refine only_drewN ?_ _) | (with_reducible refine only_setCell ?_ (by first | exact .inl rfl | exact .inr (Nat.le_refl _) | (right; simp; done) | (right; simp; omega)) _) | (with_reducible refine grown_call (by assumption) ?_) | (with_reducible refine grown_below (by assumption) ?_ (by first | omega | (simp; done) | (simp; omega)))))⟩

set_option maxHeartbeats 400000 in
theorem someTile_any {g : Nat} {A : Option Addr} {n c : Nat} {z : Nat → Int} {w : World} {k : Nat} (h : Rd g A n c z w k) (hk : k ≤ 999000) :
    Calls Try.prog 51 #[.pointer (some ⟨g, 0, none⟩)] w (One g A n c z w k fun x => -1 ≤ x ∧ x ≤ 9) := by
  have hgl := h.lt
  go_enter Try.func51, Try.ntmps51
  go_wp2_with ((go_at_call 43; refine (one_lit (l := [0, 1, 2, 3, 0, 1, 5, 8, 9, -1]) (by repeat' (first | (with_reducible assumption) | (with_reducible apply Rd.alloc) | (with_reducible apply Rd.drewN) | (with_reducible apply rd_below (by assumption)) | (with_reducible apply Rd.setFar) | omega | (simp; omega))) (by omega) (by simp) rfl (by simp) (by simp) _).mono ?_; rintro e w1 ⟨x2, rfl, hx, hr, hg⟩; have hz := hg.size; (try simp at hz); have hgl := Rd.lt hr))
  go_ret
  simp only [List.mem_cons, List.not_mem_nil, or_false] at hx
  exact ⟨_, rfl, by omega, (by repeat' (first | (with_reducible assumption) | (with_reducible apply Rd.alloc) | (with_reducible apply Rd.drewN) | (with_reducible apply rd_below (by assumption)) | (with_reducible apply Rd.setFar) | omega | (simp; omega))), by (repeat' (first | (with_reducible exact World.grownBy.refl _ _) | (with_reducible assumption) | (with_reducible refine only_alloc ?_ _) | (with_reducible refine only_drewN ?_ _) | (with_reducible refine only_setCell ?_ (by first | exact .inl rfl | exact .inr (Nat.le_refl _) | (right; simp; done) | (right; simp; omega)) _) | (with_reducible refine grown_call (by assumption) ?_) | (with_reducible refine grown_below (by assumption) ?_ (by first | omega | (simp; done) | (simp; omega)))))⟩

/-- Three numbers: a width, a height, a tile. -/
def WHT (w : World) (e : Ending) (w' : World) : Prop :=
  ∃ x y t : Int, e = .returned (.tuple #[.int .i64 x, .int .i64 y, .int .i64 t]) ∧ 0 ≤ x ∧ x ≤ 13 ∧ 0 ≤ y ∧ y ≤ 13 ∧ -1 ≤ t ∧ t ≤ 9 ∧ Below w.heap.size w w'

set_option maxHeartbeats 400000 in
theorem DrawTileBox_any {A : Option Addr} {n c : Nat} {w : World} (h : Code w A n c) : Calls Try.prog 21 #[.slice A n c] w (WHT w) := by
  go_enter Try.func21, Try.ntmps21
  go_wp2_with fail
  refine (newReader_any h).mono ?_
  rintro e w1 ⟨g, A', n', c', z, rfl, hg0, hr, hb⟩
  have hz0 := hb.size
  go_wp2_with (first | (go_at_call 50; refine (anySide_any (by repeat' (first | (with_reducible assumption) | (with_reducible apply Rd.alloc) | (with_reducible apply Rd.drewN) | (with_reducible apply rd_below (by assumption)) | (with_reducible apply Rd.setFar) | omega | (simp; omega))) (by omega)).mono ?_; rintro e w1 ⟨x, rfl, ⟨hx0, hx1⟩, hr, hg⟩; have hz := hg.size; (try simp at hz); have hgl := Rd.lt hr) | (go_at_call 51; refine (someTile_any (by repeat' (first | (with_reducible assumption) | (with_reducible apply Rd.alloc) | (with_reducible apply Rd.drewN) | (with_reducible apply rd_below (by assumption)) | (with_reducible apply Rd.setFar) | omega | (simp; omega))) (by omega)).mono ?_; rintro e w1 ⟨t, rfl, ⟨ht0, ht1⟩, hr, hg⟩; have hz := hg.size; (try simp at hz); have hgl := Rd.lt hr))
  ((try simp only [Exit.inBlock, Exit.then]); refine bodyPost_ret (by simp [results, Try.results21, go_sem, *]; try rfl) rfl ?_)
  exact ⟨_, _, _, rfl, by omega, by omega, by omega, by omega, by omega, by omega, by (repeat' (first | (with_reducible exact Below.refl _ _) | (with_reducible assumption) | (with_reducible refine Below.alloc ?_ ?_ _) | (with_reducible refine below_drewN ?_ _) | (with_reducible refine Below.drew ?_) | (with_reducible refine Below.setCell ?_ ?_ _) | (with_reducible refine below_call (by assumption) ?_ ?_) | (with_reducible refine below_grown (by assumption) ?_ ?_ ?_) | omega | (simp; done) | (simp; omega)))⟩

/-- Two boxes. -/
def Boxes2 (w : World) (e : Ending) (w' : World) : Prop :=
  ∃ l t r b l' t' r' b' : Int, e = .returned (.tuple #[.agg #[.int .i64 l, .int .i64 t, .int .i64 r, .int .i64 b], .agg #[.int .i64 l', .int .i64 t', .int .i64 r', .int .i64 b']]) ∧ Below w.heap.size w w'

set_option maxHeartbeats 1000000 in
theorem DrawCutBox_any {A : Option Addr} {n c : Nat} {w : World} (h : Code w A n c) : Calls Try.prog 25 #[.slice A n c] w (Boxes2 w) := by
  go_enter Try.func25, Try.ntmps25
  go_wp2_with fail
  refine (newReader_any (h.below (by (repeat' (first | (with_reducible exact Below.refl _ _) | (with_reducible assumption) | (with_reducible refine Below.alloc ?_ ?_ _) | (with_reducible refine below_drewN ?_ _) | (with_reducible refine Below.drew ?_) | (with_reducible refine Below.setCell ?_ ?_ _) | (with_reducible refine below_call (by assumption) ?_ ?_) | go_size))))).mono ?_
  rintro e w1 ⟨g, A', n', c', z, rfl, hg0, hr, hb⟩
  simp at hg0
  (have hz := hb.size; (try simp at hz); (try (have hk := bcl hb (w.heap.size) (by first | omega | (simp; done) | (simp; omega)); have hc := hk.1; have hf := hk.2.1; have hk := hk.2.2)); (try (have hk := bcl hb (w.heap.size + 1) (by first | omega | (simp; done) | (simp; omega)); have hc := hk.1; have hf := hk.2.1; have hk := hk.2.2)))
  go_wp2_with (first | (go_at_call 42; refine (anyBox_any (by repeat' (first | (with_reducible assumption) | (with_reducible apply Rd.alloc) | (with_reducible apply Rd.drewN) | (with_reducible apply rd_below (by assumption)) | (with_reducible apply Rd.setFar) | omega | (simp; omega))) (by omega)).mono ?_; rintro e wb ⟨l, t, r, b, rfl, hr, hg⟩; have hz := hg.size; (try simp at hz); have hgl := Rd.lt hr; (try (have hk := gcl hg (w.heap.size) (by first | omega | (simp; done) | (simp; omega)) (by omega); have hc := hk.1; have hf := hk.2.1; have hk := hk.2.2)); (try (have hk := gcl hg (w.heap.size + 1) (by first | omega | (simp; done) | (simp; omega)) (by omega); have hc := hk.1; have hf := hk.2.1; have hk := hk.2.2))))
  apply wp_region_rdr (by kernel_rfl) ([] :: [] :: [1] :: []) (RS.det [] _ :: RS.det [] _ :: RS.p [1] (fun v => ∃ l t r b, v = .agg #[.int .i64 l, .int .i64 t, .int .i64 r, .int .i64 b]) :: []) [] rfl (by kernel_rfl) (fun h => absurd rfl h) (by kernel_rfl) (by kernel_rfl) (st_det (st_det (st_p st_nil))) _ (fun v => by simp; rfl)
  case hr => exact (by repeat' (first | (with_reducible assumption) | (with_reducible apply Rd.alloc) | (with_reducible apply Rd.drewN) | (with_reducible apply rd_below (by assumption)) | (with_reducible apply Rd.setFar) | omega | (simp; omega)))
  case hop =>
    simp only [OblsR]
    refine ⟨?_, ?_, ?_, trivial⟩
    · (intro v j w1 Kc hj hr hg hF hK; (try simp at hj); (try simp at hF); simp at hK; (try simp only [hF] at hK); have hz := hg.size; (try simp at hz); have hgl := Rd.lt hr; (try (have hk := gcl hg (w.heap.size) (by first | omega | (simp; done) | (simp; omega)) (by omega); have hc := hk.1; have hf := hk.2.1; have hk := hk.2.2)); (try (have hk := gcl hg (w.heap.size + 1) (by first | omega | (simp; done) | (simp; omega)) (by omega); have hc := hk.1; have hf := hk.2.1; have hk := hk.2.2)); (try (have hk := gcl hg (wb.heap.size) (by first | omega | (simp; done) | (simp; omega)) (by omega); have hc := hk.1; have hf := hk.2.1; have hk := hk.2.2)))
      go_simp
      (try simp only [])
      exact hK _ _ rfl (by (repeat' (first | (with_reducible exact World.grownBy.refl _ _) | (with_reducible assumption) | (with_reducible refine only_alloc ?_ _) | (with_reducible refine only_drewN ?_ _) | (with_reducible refine only_setCell ?_ (by first | exact .inl rfl | exact .inr (Nat.le_refl _) | (right; simp; done) | (right; simp; omega)) _) | (with_reducible refine grown_call (by assumption) ?_) | (with_reducible refine grown_below (by assumption) ?_ (by first | omega | (simp; done) | (simp; omega)))))) (Rd.more (by repeat' (first | (with_reducible assumption) | (with_reducible apply Rd.alloc) | (with_reducible apply Rd.drewN) | (with_reducible apply rd_below (by assumption)) | (with_reducible apply Rd.setFar) | omega | (simp; omega))) (by omega))
    · (intro v j w1 Kc hj hr hg hF hK; (try simp at hj); (try simp at hF); simp at hK; (try simp only [hF] at hK); have hz := hg.size; (try simp at hz); have hgl := Rd.lt hr)
      go_simp
      (try simp only [])
      exact hK _ _ rfl (by (repeat' (first | (with_reducible exact World.grownBy.refl _ _) | (with_reducible assumption) | (with_reducible refine only_alloc ?_ _) | (with_reducible refine only_drewN ?_ _) | (with_reducible refine only_setCell ?_ (by first | exact .inl rfl | exact .inr (Nat.le_refl _) | (right; simp; done) | (right; simp; omega)) _) | (with_reducible refine grown_call (by assumption) ?_) | (with_reducible refine grown_below (by assumption) ?_ (by first | omega | (simp; done) | (simp; omega)))))) (Rd.more (by repeat' (first | (with_reducible assumption) | (with_reducible apply Rd.alloc) | (with_reducible apply Rd.drewN) | (with_reducible apply rd_below (by assumption)) | (with_reducible apply Rd.setFar) | omega | (simp; omega))) (by omega))
    · (intro v j w1 Kc hj hr hg hF hK; (try simp at hj); (try simp at hF); simp at hK; (try simp only [hF] at hK); have hz := hg.size; (try simp at hz); have hgl := Rd.lt hr; (try (have hk := gcl hg (w.heap.size) (by first | omega | (simp; done) | (simp; omega)) (by omega); have hc := hk.1; have hf := hk.2.1; have hk := hk.2.2)); (try (have hk := gcl hg (w.heap.size + 1) (by first | omega | (simp; done) | (simp; omega)) (by omega); have hc := hk.1; have hf := hk.2.1; have hk := hk.2.2)); (try (have hk := gcl hg (wb.heap.size) (by first | omega | (simp; done) | (simp; omega)) (by omega); have hc := hk.1; have hf := hk.2.1; have hk := hk.2.2)))
      go_simp
      (first | (go_at_call 42; refine (anyBox_any hr (by omega)).mono ?_; rintro e w2 ⟨l2, t2, r2, b2, rfl, hr, hg⟩))
      (try simp only [])
      exact hK _ _ (⟨_, _, _, _, rfl⟩) (by (repeat' (first | (with_reducible exact World.grownBy.refl _ _) | (with_reducible assumption) | (with_reducible refine only_alloc ?_ _) | (with_reducible refine only_drewN ?_ _) | (with_reducible refine only_setCell ?_ (by first | exact .inl rfl | exact .inr (Nat.le_refl _) | (right; simp; done) | (right; simp; omega)) _) | (with_reducible refine grown_call (by assumption) ?_) | (with_reducible refine grown_below (by assumption) ?_ (by first | omega | (simp; done) | (simp; omega)))))) (Rd.more (by repeat' (first | (with_reducible assumption) | (with_reducible apply Rd.alloc) | (with_reducible apply Rd.drewN) | (with_reducible apply rd_below (by assumption)) | (with_reducible apply Rd.setFar) | omega | (simp; omega))) (by omega))
  case hfo => exact trivial
  (intro v w1 hr hg hF; simp [List.range, List.range.loop] at hF; have hz := hg.size; (try simp at hz); have hgl := Rd.lt hr; (try (have hk := gcl hg (w.heap.size) (by first | omega | (simp; done) | (simp; omega)) (by omega); have hc := hk.1; have hf := hk.2.1; have hk := hk.2.2)); (try (have hk := gcl hg (w.heap.size + 1) (by first | omega | (simp; done) | (simp; omega)) (by omega); have hc := hk.1; have hf := hk.2.1; have hk := hk.2.2)); (try (have hk := gcl hg (wb.heap.size) (by first | omega | (simp; done) | (simp; omega)) (by omega); have hc := hk.1; have hf := hk.2.1; have hk := hk.2.2)))
  obtain ⟨e0, e1, l3, t3, r3, b3, e2⟩ := hF
  simp only [List.length_cons, List.length_nil, List.drop_succ_cons, List.drop_zero, e0, e1, e2]
  clear e0 e1 e2 v
  have q0 : w1.heap[w.heap.size]? = some (.cells #[.int .i64 0, .int .i64 0, .int .i64 0, .int .i64 0] 24 (0, 0)) := by (repeat' (first | (with_reducible assumption) | (with_reducible exact blk_new _ _) | (with_reducible exact blk_new1 _ _ _) | (with_reducible exact blk_new2 _ _ _ _) | (with_reducible refine blk_alloc ?_ _) | (with_reducible refine blk_drewN ?_ _) | (with_reducible refine blk_down (by assumption) ?_) | (with_reducible refine blk_up (by assumption) (by omega) ?_) | (with_reducible refine blk_far ?_ _ (by simp; omega))))
  have q1 : w1.heap[w.heap.size + 1]? = some (.cells #[.int .i64 0, .int .i64 0, .int .i64 0, .int .i64 0] 24 (0, 0)) := by (repeat' (first | (with_reducible assumption) | (with_reducible exact blk_new _ _) | (with_reducible exact blk_new1 _ _ _) | (with_reducible exact blk_new2 _ _ _ _) | (with_reducible refine blk_alloc ?_ _) | (with_reducible refine blk_drewN ?_ _) | (with_reducible refine blk_down (by assumption) ?_) | (with_reducible refine blk_up (by assumption) (by omega) ?_) | (with_reducible refine blk_far ?_ _ (by simp; omega))))
  have r0 := blk_cell (blk_far04 (blk_set4 q0 (.int .i64 l) (.int .i64 t) (.int .i64 r) (.int .i64 b)) (by omega : w.heap.size ≠ w.heap.size + 1) (.int .i64 l3) (.int .i64 t3) (.int .i64 r3) (.int .i64 b3))
  have r1 := blk_cell (blk_set4 (blk_far04 q1 (by omega : w.heap.size + 1 ≠ w.heap.size) (.int .i64 l) (.int .i64 t) (.int .i64 r) (.int .i64 b)) (.int .i64 l3) (.int .i64 t3) (.int .i64 r3) (.int .i64 b3))
  go_wp2
  ((try simp only [Exit.inBlock, Exit.then]); refine bodyPost_ret (by simp [results, Try.results25, go_sem, *]; try rfl) rfl ?_)
  exact ⟨_, _, _, _, _, _, _, _, rfl, by (repeat' (first | (with_reducible exact Below.refl _ _) | (with_reducible assumption) | (with_reducible refine Below.alloc ?_ ?_ _) | (with_reducible refine below_drewN ?_ _) | (with_reducible refine Below.drew ?_) | (with_reducible refine Below.setCell ?_ ?_ _) | (with_reducible refine below_call (by assumption) ?_ ?_) | (with_reducible refine below_grown (by assumption) ?_ ?_ ?_) | omega | (simp; done) | (simp; omega)))⟩

set_option maxHeartbeats 1000000 in
theorem DrawJoinBox_any {A : Option Addr} {n c : Nat} {w : World} (h : Code w A n c) : Calls Try.prog 37 #[.slice A n c] w (Boxes2 w) := by
  go_enter Try.func37, Try.ntmps37
  go_wp2_with fail
  refine (DrawCutBox_any (h.below (by (repeat' (first | (with_reducible exact Below.refl _ _) | (with_reducible assumption) | (with_reducible refine Below.alloc ?_ ?_ _) | (with_reducible refine below_drewN ?_ _) | (with_reducible refine Below.drew ?_) | (with_reducible refine Below.setCell ?_ ?_ _) | (with_reducible refine below_call (by assumption) ?_ ?_) | go_size))))).mono ?_
  rintro e w1 ⟨l, t, r, b, l3, t3, r3, b3, rfl, hb⟩
  have hz0 := hb.size
  simp at hz0
  have q0 : w1.heap[w.heap.size]? = some (.cells #[.int .i64 0, .int .i64 0, .int .i64 0, .int .i64 0] 24 (0, 0)) := by (repeat' (first | (with_reducible assumption) | (with_reducible exact blk_new _ _) | (with_reducible exact blk_new1 _ _ _) | (with_reducible exact blk_new2 _ _ _ _) | (with_reducible refine blk_alloc ?_ _) | (with_reducible refine blk_drewN ?_ _) | (with_reducible refine blk_down (by assumption) ?_) | (with_reducible refine blk_up (by assumption) (by omega) ?_) | (with_reducible refine blk_far ?_ _ (by simp; omega))))
  have q1 : w1.heap[w.heap.size + 1]? = some (.cells #[.int .i64 0, .int .i64 0, .int .i64 0, .int .i64 0] 24 (0, 0)) := by (repeat' (first | (with_reducible assumption) | (with_reducible exact blk_new _ _) | (with_reducible exact blk_new1 _ _ _) | (with_reducible exact blk_new2 _ _ _ _) | (with_reducible refine blk_alloc ?_ _) | (with_reducible refine blk_drewN ?_ _) | (with_reducible refine blk_down (by assumption) ?_) | (with_reducible refine blk_up (by assumption) (by omega) ?_) | (with_reducible refine blk_far ?_ _ (by simp; omega))))
  have s0 := blk_cell q0
  have s1 := blk_cell q1
  have r0 := blk_cell (blk_far04 (blk_set4 q0 (.int .i64 l) (.int .i64 t) (.int .i64 r) (.int .i64 b)) (by omega : w.heap.size ≠ w.heap.size + 1) (.int .i64 l3) (.int .i64 t3) (.int .i64 r3) (.int .i64 b3))
  have r1 := blk_cell (blk_set4 (blk_far04 q1 (by omega : w.heap.size + 1 ≠ w.heap.size) (.int .i64 l) (.int .i64 t) (.int .i64 r) (.int .i64 b)) (.int .i64 l3) (.int .i64 t3) (.int .i64 r3) (.int .i64 b3))
  have f0 := blk_free q0
  have f1 := blk_free q1
  go_wp2
  ((try simp only [Exit.inBlock, Exit.then]); refine bodyPost_ret (by simp [results, Try.results37, go_sem, *]; try rfl) rfl ?_)
  exact ⟨_, _, _, _, _, _, _, _, rfl, by (repeat' (first | (with_reducible exact Below.refl _ _) | (with_reducible assumption) | (with_reducible refine Below.alloc ?_ ?_ _) | (with_reducible refine below_drewN ?_ _) | (with_reducible refine Below.drew ?_) | (with_reducible refine Below.setCell ?_ ?_ _) | (with_reducible refine below_call (by assumption) ?_ ?_) | (with_reducible refine below_grown (by assumption) ?_ ?_ ?_) | omega | (simp; done) | (simp; omega)))⟩

/-- Some box that comes back. -/
def SomeBx (w : World) (e : Ending) (w' : World) : Prop :=
  ∃ l t r b : Int, e = .returned (.agg #[.int .i64 l, .int .i64 t, .int .i64 r, .int .i64 b]) ∧ Below w.heap.size w w'

set_option maxHeartbeats 1000000 in
theorem DrawPixelBox_any {A : Option Addr} {n c : Nat} {w : World} (h : Code w A n c) : Calls Try.prog 28 #[.slice A n c] w (SomeBx w) := by
  go_enter Try.func28, Try.ntmps28
  go_wp2_with fail
  refine (newReader_any (h.below (by (repeat' (first | (with_reducible exact Below.refl _ _) | (with_reducible assumption) | (with_reducible refine Below.alloc ?_ ?_ _) | (with_reducible refine below_drewN ?_ _) | (with_reducible refine Below.drew ?_) | (with_reducible refine Below.setCell ?_ ?_ _) | (with_reducible refine below_call (by assumption) ?_ ?_) | go_size))))).mono ?_
  rintro e w1 ⟨g, A', n', c', z, rfl, hg0, hr, hb⟩
  simp at hg0
  (have hz := hb.size; (try simp at hz); (try (have hk := bcl hb (w.heap.size) (by first | omega | (simp; done) | (simp; omega)); have hc := hk.1; have hf := hk.2.1; have hk := hk.2.2)))
  go_wp2_with fail
  refine (anyBox_any hr (by omega)).mono ?_
  rintro e w2 ⟨l, t, r, b, rfl, hr, hg⟩
  have hz := hg.size; (try simp at hz); have hgl := Rd.lt hr; (try (have hk := gcl hg (w.heap.size) (by first | omega | (simp; done) | (simp; omega)) (by omega); have hc := hk.1; have hf := hk.2.1; have hk := hk.2.2))
  have q0 : w2.heap[w.heap.size]? = some (.cells #[.int .i64 0, .int .i64 0, .int .i64 0, .int .i64 0] 24 (0, 0)) := by (repeat' (first | (with_reducible assumption) | (with_reducible exact blk_new _ _) | (with_reducible exact blk_new1 _ _ _) | (with_reducible exact blk_new2 _ _ _ _) | (with_reducible refine blk_alloc ?_ _) | (with_reducible refine blk_drewN ?_ _) | (with_reducible refine blk_down (by assumption) ?_) | (with_reducible refine blk_up (by assumption) (by omega) ?_) | (with_reducible refine blk_far ?_ _ (by simp; omega))))
  have r0 := blk_cell (blk_set4 q0 (.int .i64 l) (.int .i64 t) (.int .i64 r) (.int .i64 b))
  go_wp2
  ((try simp only [Exit.inBlock, Exit.then]); refine bodyPost_ret (by simp [results, Try.results28, go_sem, *]; try rfl) rfl ?_)
  exact ⟨_, _, _, _, rfl, by (repeat' (first | (with_reducible exact Below.refl _ _) | (with_reducible assumption) | (with_reducible refine Below.alloc ?_ ?_ _) | (with_reducible refine below_drewN ?_ _) | (with_reducible refine Below.drew ?_) | (with_reducible refine Below.setCell ?_ ?_ _) | (with_reducible refine below_call (by assumption) ?_ ?_) | (with_reducible refine below_grown (by assumption) ?_ ?_ ?_) | omega | (simp; done) | (simp; omega)))⟩

end Go.Proofs.Ytmhnebkmhblhpaa
