/-
  The generators of queues, for the other laws.
-/
import Derived.Test.YtclfocdghbmmlaaDrawE
namespace Go.Proofs.Ytclfocdghbmmlaa
open Go.RowKit Pl

set_option linter.unusedSimpArgs false
set_option linter.unusedVariables false

set_option maxHeartbeats 400000 in
theorem DrawPopTile_any {A : Option Addr} {n c : Nat} {w : World} (h : Code w A n c) : Calls Try.prog 24 #[.slice A n c] w (DqDrawn w) := by
  go_enter Try.func24, Try.ntmps24
  go_wp2_with fail
  refine (newReader_any (h.below (by (repeat' (first | (with_reducible exact Below.refl _ _) | (with_reducible assumption) | (with_reducible refine Below.alloc ?_ ?_ _) | (with_reducible refine below_drewN ?_ _) | (with_reducible refine Below.drew ?_) | (with_reducible refine Below.setCell ?_ ?_ _) | (with_reducible refine below_call (by assumption) ?_ ?_) | go_size))))).mono ?_
  rintro e w1 ⟨g, A', n', c', z, rfl, hg0, hr, hb⟩
  simp at hg0
  have hz := hb.size
  simp at hz
  have hk0 := blk_below (blk_new w (.cells #[.slice none 0 0, .int .i64 0, .int .i64 0] 24)) hb
  go_wp2_with fail
  refine (anyDeque_any hr (by omega)).mono ?_
  rintro e w2 ⟨B, m, d, l, t, b, rfl, hm, ht, hbb, hS, hr, hg⟩
  have hk1 := blk_grown hk0 hg (by omega)
  have hkc := blk_cell hk1
  have hkf := blk_free hk1
  have hkl := blk_lt hk1
  have HS := Lib.hid hS
  clear hk0 hk1 hS
  go_wp2
  ((try simp only [Exit.inBlock, Exit.then]); refine bodyPost_ret (by simp [results, Try.results24, go_sem, *]; try rfl) rfl ?_)
  refine ⟨B, m, d, l, t, b, rfl, hm, ht, hbb, ⟨?_, HS.out.2.1, HS.out.2.2.1, fun a ha => (by have := HS.out.2.2.2 a ha; omega)⟩, by (repeat' (first | (with_reducible exact Below.refl _ _) | (with_reducible assumption) | (with_reducible refine Below.alloc ?_ ?_ _) | (with_reducible refine below_drewN ?_ _) | (with_reducible refine Below.drew ?_) | (with_reducible refine Below.setCell ?_ ?_ _) | (with_reducible refine below_call (by assumption) ?_ ?_) | (with_reducible refine below_grown (by assumption) ?_ ?_ ?_) | omega | (simp; done) | (simp; omega)))⟩
  exact HS.out.1.set3 _ _ _ (fun _ a ha => (by have := HS.out.2.2.2 a ha; omega))

set_option maxHeartbeats 400000 in
theorem DrawStealTile_any {A : Option Addr} {n c : Nat} {w : World} (h : Code w A n c) : Calls Try.prog 29 #[.slice A n c] w (DqDrawn w) := by
  go_enter Try.func29, Try.ntmps29
  go_wp2_with fail
  refine (newReader_any (h.below (by (repeat' (first | (with_reducible exact Below.refl _ _) | (with_reducible assumption) | (with_reducible refine Below.alloc ?_ ?_ _) | (with_reducible refine below_drewN ?_ _) | (with_reducible refine Below.drew ?_) | (with_reducible refine Below.setCell ?_ ?_ _) | (with_reducible refine below_call (by assumption) ?_ ?_) | go_size))))).mono ?_
  rintro e w1 ⟨g, A', n', c', z, rfl, hg0, hr, hb⟩
  simp at hg0
  have hz := hb.size
  simp at hz
  have hk0 := blk_below (blk_new w (.cells #[.slice none 0 0, .int .i64 0, .int .i64 0] 24)) hb
  go_wp2_with fail
  refine (anyDeque_any hr (by omega)).mono ?_
  rintro e w2 ⟨B, m, d, l, t, b, rfl, hm, ht, hbb, hS, hr, hg⟩
  have hk1 := blk_grown hk0 hg (by omega)
  have hkc := blk_cell hk1
  have hkf := blk_free hk1
  have hkl := blk_lt hk1
  have HS := Lib.hid hS
  clear hk0 hk1 hS
  go_wp2
  ((try simp only [Exit.inBlock, Exit.then]); refine bodyPost_ret (by simp [results, Try.results29, go_sem, *]; try rfl) rfl ?_)
  refine ⟨B, m, d, l, t, b, rfl, hm, ht, hbb, ⟨?_, HS.out.2.1, HS.out.2.2.1, fun a ha => (by have := HS.out.2.2.2 a ha; omega)⟩, by (repeat' (first | (with_reducible exact Below.refl _ _) | (with_reducible assumption) | (with_reducible refine Below.alloc ?_ ?_ _) | (with_reducible refine below_drewN ?_ _) | (with_reducible refine Below.drew ?_) | (with_reducible refine Below.setCell ?_ ?_ _) | (with_reducible refine below_call (by assumption) ?_ ?_) | (with_reducible refine below_grown (by assumption) ?_ ?_ ?_) | omega | (simp; done) | (simp; omega)))⟩
  exact HS.out.1.set3 _ _ _ (fun _ a ha => (by have := HS.out.2.2.2 a ha; omega))

set_option maxHeartbeats 400000 in
theorem DrawValidDeque_any {A : Option Addr} {n c : Nat} {w : World} (h : Code w A n c) : Calls Try.prog 35 #[.slice A n c] w (DqDrawn w) := by
  go_enter Try.func35, Try.ntmps35
  go_wp2_with fail
  refine (newReader_any (h.below (by (repeat' (first | (with_reducible exact Below.refl _ _) | (with_reducible assumption) | (with_reducible refine Below.alloc ?_ ?_ _) | (with_reducible refine below_drewN ?_ _) | (with_reducible refine Below.drew ?_) | (with_reducible refine Below.setCell ?_ ?_ _) | (with_reducible refine below_call (by assumption) ?_ ?_) | go_size))))).mono ?_
  rintro e w1 ⟨g, A', n', c', z, rfl, hg0, hr, hb⟩
  simp at hg0
  have hz := hb.size
  simp at hz
  have hk0 := blk_below (blk_new w (.cells #[.slice none 0 0, .int .i64 0, .int .i64 0] 24)) hb
  go_wp2_with fail
  refine (anyDeque_any hr (by omega)).mono ?_
  rintro e w2 ⟨B, m, d, l, t, b, rfl, hm, ht, hbb, hS, hr, hg⟩
  have hk1 := blk_grown hk0 hg (by omega)
  have hkc := blk_cell hk1
  have hkf := blk_free hk1
  have hkl := blk_lt hk1
  have HS := Lib.hid hS
  clear hk0 hk1 hS
  go_wp2
  ((try simp only [Exit.inBlock, Exit.then]); refine bodyPost_ret (by simp [results, Try.results35, go_sem, *]; try rfl) rfl ?_)
  refine ⟨B, m, d, l, t, b, rfl, hm, ht, hbb, ⟨?_, HS.out.2.1, HS.out.2.2.1, fun a ha => (by have := HS.out.2.2.2 a ha; omega)⟩, by (repeat' (first | (with_reducible exact Below.refl _ _) | (with_reducible assumption) | (with_reducible refine Below.alloc ?_ ?_ _) | (with_reducible refine below_drewN ?_ _) | (with_reducible refine Below.drew ?_) | (with_reducible refine Below.setCell ?_ ?_ _) | (with_reducible refine below_call (by assumption) ?_ ?_) | (with_reducible refine below_grown (by assumption) ?_ ?_ ?_) | omega | (simp; done) | (simp; omega)))⟩
  exact HS.out.1.set3 _ _ _ (fun _ a ha => (by have := HS.out.2.2.2 a ha; omega))

end Go.Proofs.Ytclfocdghbmmlaa
