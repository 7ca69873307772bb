/-
  A queue and a tile, drawn.
-/
import Derived.Test.YtclfocdghbmmlaaDrawF
namespace Go.Proofs.Ytclfocdghbmmlaa
open Go.RowKit Pl

set_option linter.unusedSimpArgs false
set_option linter.unusedVariables false

def DqTDrawn (w : World) (e : Ending) (w' : World) : Prop :=
  ∃ B m d l t b x, e = .returned (.tuple #[.agg #[.slice B m d, .int .i64 t, .int .i64 b], .int .i64 x]) ∧ m ≤ 17 ∧ (-1 ≤ t ∧ t ≤ 1000) ∧ (-1 ≤ b ∧ b ≤ 1000) ∧ OwnS w.heap.size w' B m d l ∧ Below w.heap.size w w'

set_option maxHeartbeats 1000000 in
theorem DrawPushTile_any {A : Option Addr} {n c : Nat} {w : World} (h : Code w A n c) : Calls Try.prog 32 #[.slice A n c] w (DqTDrawn w) := by
  go_enter Try.func32, Try.ntmps32
  go_wp2_with fail
  refine (newReader_any (h.below (by (repeat' (first | (with_reducible exact Below.refl _ _) | (with_reducible assumption) | (with_reducible refine Below.alloc ?_ ?_ _) | (with_reducible refine below_drewN ?_ _) | (with_reducible refine Below.drew ?_) | (with_reducible refine Below.setCell ?_ ?_ _) | (with_reducible refine below_call (by assumption) ?_ ?_) | go_size))))).mono ?_
  rintro e w1 ⟨g, A', n', c', z, rfl, hg0, hr, hb⟩
  simp at hg0
  have hz := hb.size
  simp at hz
  have hk0 := blk_below (blk_new w (.cells #[.slice none 0 0, .int .i64 0, .int .i64 0] 24)) hb
  have hgl1 := hr.lt
  go_wp2_with fail
  refine (anyDeque_any hr (by omega)).mono ?_
  rintro e w2 ⟨B, m, d, l, t, b, rfl, hm, ht, hbb, hS, hr, hg⟩
  have hk1 := blk_grown hk0 hg (by omega)
  have HS := Lib.hid hS
  have hz2 := hg.size
  have hgl2 := hr.lt
  clear hS
  go_wp2_with fail
  apply wp_region_rdr (by kernel_rfl) ([] :: [] :: [] :: [1, 2] :: []) (RS.det [] _ :: RS.det [] _ :: RS.slR [] g _ _ _ _ :: RS.p [1, 2] (fun v => ∃ y, v = .int .i64 y) :: []) [] rfl (by kernel_rfl) (fun h => absurd rfl h) (by kernel_rfl) (by kernel_rfl) (st_det (st_det (st_slR (st_p st_nil)))) _ (fun v => by simp; rfl)
  case hr => exact (by repeat' (first | (with_reducible assumption) | (with_reducible apply Rd.alloc) | (with_reducible apply Rd.drewN) | (with_reducible apply rd_below (by assumption)) | (with_reducible apply Rd.setFar) | omega | (simp; omega)))
  case hop =>
    simp only [OblsR]
    refine ⟨?_, ?_, ?_, ?_, trivial⟩
    · (intro v j w1 Kc hj hr hg hF hK; (try simp at hj); (try simp at hF); simp at hK; (try simp only [hF] at hK); have hz := hg.size; (try simp at hz); have hgl := Rd.lt hr; (try (have hk := gcl hg (w.heap.size) (by first | omega | (simp; done) | (simp; omega)) (by omega); have hc := hk.1; have hf := hk.2.1; have hk := hk.2.2)); (try (have hk := gcl hg (w2.heap.size) (by first | omega | (simp; done) | (simp; omega)) (by omega); have hc := hk.1; have hf := hk.2.1; have hk := hk.2.2)))
      go_simp
      (try simp only [])
      exact hK _ _ rfl (by (repeat' (first | (with_reducible exact World.grownBy.refl _ _) | (with_reducible assumption) | (with_reducible refine only_alloc ?_ _) | (with_reducible refine only_drewN ?_ _) | (with_reducible refine only_setCell ?_ (by first | exact .inl rfl | exact .inr (Nat.le_refl _) | (right; simp; done) | (right; simp; omega)) _) | (with_reducible refine grown_call (by assumption) ?_) | (with_reducible refine grown_below (by assumption) ?_ (by first | omega | (simp; done) | (simp; omega)))))) (Rd.more (by repeat' (first | (with_reducible assumption) | (with_reducible apply Rd.alloc) | (with_reducible apply Rd.drewN) | (with_reducible apply rd_below (by assumption)) | (with_reducible apply Rd.setFar) | omega | (simp; omega))) (by omega))
    · (intro v j w1 Kc hj hr hg hF hK; (try simp at hj); (try simp at hF); simp at hK; (try simp only [hF] at hK); have hz := hg.size; (try simp at hz); have hgl := Rd.lt hr)
      go_simp
      (try simp only [])
      exact hK _ _ rfl (by (repeat' (first | (with_reducible exact World.grownBy.refl _ _) | (with_reducible assumption) | (with_reducible refine only_alloc ?_ _) | (with_reducible refine only_drewN ?_ _) | (with_reducible refine only_setCell ?_ (by first | exact .inl rfl | exact .inr (Nat.le_refl _) | (right; simp; done) | (right; simp; omega)) _) | (with_reducible refine grown_call (by assumption) ?_) | (with_reducible refine grown_below (by assumption) ?_ (by first | omega | (simp; done) | (simp; omega)))))) (Rd.more (by repeat' (first | (with_reducible assumption) | (with_reducible apply Rd.alloc) | (with_reducible apply Rd.drewN) | (with_reducible apply rd_below (by assumption)) | (with_reducible apply Rd.setFar) | omega | (simp; omega))) (by omega))
    · (intro v j w1 Kc hj hr hg hF hK; (try simp at hj); (try simp at hF); simp at hK; (try simp only [hF] at hK); have hz := hg.size; (try simp at hz); have hgl := Rd.lt hr)
      go_simp
      (try simp only [])
      exact hK _ _ (isSlR_new _ _ _ hg.size (Rd.lt hr)) (by (repeat' (first | (with_reducible exact World.grownBy.refl _ _) | (with_reducible assumption) | (with_reducible refine only_alloc ?_ _) | (with_reducible refine only_drewN ?_ _) | (with_reducible refine only_setCell ?_ (by first | exact .inl rfl | exact .inr (Nat.le_refl _) | (right; simp; done) | (right; simp; omega)) _) | (with_reducible refine grown_call (by assumption) ?_) | (with_reducible refine grown_below (by assumption) ?_ (by first | omega | (simp; done) | (simp; omega)))))) (Rd.more (by repeat' (first | (with_reducible assumption) | (with_reducible apply Rd.alloc) | (with_reducible apply Rd.drewN) | (with_reducible apply rd_below (by assumption)) | (with_reducible apply Rd.setFar) | omega | (simp; omega))) (by omega))
    · (intro v j w1 Kc hj hr hg hF hK; (try simp at hj); (try simp at hF); simp at hK; (try simp only [hF] at hK); have hz := hg.size; (try simp at hz); have hgl := Rd.lt hr; (try (have hk := gcl hg (w.heap.size) (by first | omega | (simp; done) | (simp; omega)) (by omega); have hc := hk.1; have hf := hk.2.1; have hk := hk.2.2)); (try (have hk := gcl hg (w2.heap.size) (by first | omega | (simp; done) | (simp; omega)) (by omega); have hc := hk.1; have hf := hk.2.1; have hk := hk.2.2)))
      go_simp
      (first | (go_at_call 53; obtain ⟨e2, gb, eb, _, _, hbn, hblk⟩ := hF; simp only [eb] at hK ⊢; refine (one_any hr (by omega) _ hblk rfl (by simp) (by simp) hbn (ones_of (l := [_, _, _, _, _]) rfl)).mono ?_; rintro e w2 ⟨y2, rfl, _, hr, hg⟩))
      (try simp only [])
      exact hK _ _ (⟨_, rfl⟩) (by (repeat' (first | (with_reducible exact World.grownBy.refl _ _) | (with_reducible assumption) | (with_reducible refine only_alloc ?_ _) | (with_reducible refine only_drewN ?_ _) | (with_reducible refine only_setCell ?_ (by first | exact .inl rfl | exact .inr (Nat.le_refl _) | (right; simp; done) | (right; simp; omega)) _) | (with_reducible refine grown_call (by assumption) ?_) | (with_reducible refine grown_below (by assumption) ?_ (by first | omega | (simp; done) | (simp; omega)))))) (Rd.more (by repeat' (first | (with_reducible assumption) | (with_reducible apply Rd.alloc) | (with_reducible apply Rd.drewN) | (with_reducible apply rd_below (by assumption)) | (with_reducible apply Rd.setFar) | omega | (simp; omega))) (by omega))
  case hfo => exact trivial
  (intro v w1 hr hg hF; simp [List.range, List.range.loop] at hF; have hz := hg.size; (try simp at hz); have hgl := Rd.lt hr; (try (have hk := gcl hg (w.heap.size) (by first | omega | (simp; done) | (simp; omega)) (by omega); have hc := hk.1; have hf := hk.2.1; have hk := hk.2.2)); (try (have hk := gcl hg (w2.heap.size) (by first | omega | (simp; done) | (simp; omega)) (by omega); have hc := hk.1; have hf := hk.2.1; have hk := hk.2.2)))
  obtain ⟨e0, e1, ⟨gb, e2, hgb, hgbs, hgbn, hgbb⟩, y3, e3⟩ := hF
  simp only [List.length_cons, List.length_nil, List.drop_succ_cons, List.drop_zero, e0, e1, e2, e3]
  clear e0 e1 e2 e3 v
  have hcgb := blk_cell hgbb; have hfgb := blk_free hgbb; have Hgb := Lib.hid hgbb; clear hgbb; (try simp at hgb)
  have hkc := blk_cell hk1
  have hkf := blk_free hk1
  have hkl := blk_lt hk1
  clear hk0 hk1
  go_wp2
  ((try simp only [Exit.inBlock, Exit.then]); refine bodyPost_ret (by simp [results, Try.results32, go_sem, *]; try rfl) rfl ?_)
  refine ⟨B, m, d, l, t, b, y3, rfl, hm, ht, hbb, ⟨?_, HS.out.2.1, HS.out.2.2.1, fun a ha => (by have := HS.out.2.2.2 a ha; omega)⟩, by (repeat' (first | (with_reducible exact Below.refl _ _) | (with_reducible assumption) | (with_reducible refine Below.alloc ?_ ?_ _) | (with_reducible refine below_drewN ?_ _) | (with_reducible refine Below.drew ?_) | (with_reducible refine Below.setCell ?_ ?_ _) | (with_reducible refine below_call (by assumption) ?_ ?_) | (with_reducible refine below_grown (by assumption) ?_ ?_ ?_) | omega | (simp; done) | (simp; omega)))⟩
  refine (((HS.out.1.below (show Below w2.heap.size w2 _ by (repeat' (first | (with_reducible exact Below.refl _ _) | (with_reducible assumption) | (with_reducible refine Below.alloc ?_ ?_ _) | (with_reducible refine below_drewN ?_ _) | (with_reducible refine Below.drew ?_) | (with_reducible refine Below.setCell ?_ ?_ _) | (with_reducible refine below_call (by assumption) ?_ ?_) | (with_reducible refine below_grown (by assumption) ?_ ?_ ?_) | omega | (simp; done) | (simp; omega))))).grown hg (fun a ha => by have := HS.out.2.2.2 a ha; omega))).set3 _ _ _ (fun _ a ha => (by have := HS.out.2.2.2 a ha; omega))

end Go.Proofs.Ytclfocdghbmmlaa
