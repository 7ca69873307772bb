/-
  FnExactMapPoint holds: the program's MapPoint returns what the reference's returns, for all arguments. No condition.
-/
import Derived.Test.YtaklcipdcnegbaaMat2
import Derived.Test.YtaklcipdcnegbaaReg2
import Derived.Test.YtaklcipdcnegbaaOpen
import Derived.ProofKit
import Derived.OpenShut
import Derived.ShutString
import Derived.ChangeOld
import Derived.Lib.SmallJoins
namespace Go.Proofs.Ytaklcipdcnegbaa
open Go.RowKit Pl Go.ChangeShapes Go.WideShapes Go.ChangeAt
open Go.ChangeMaps (open_string shut_string)

set_option linter.unusedSimpArgs false
set_option linter.unusedVariables false

set_option maxHeartbeats 1000000 in
theorem toMatrix_eq (a b c d e f : Int) (w : World) : Calls Try.prog 16 #[.agg #[.int .i64 a, .int .i64 b, .int .i64 c, .int .i64 d, .int .i64 e, .int .i64 f]] w (RetM ⟨a, b, c, d, e, f⟩ w) := by
  go_enter Try.func16, Try.ntmps16
  go_wp2
  ((try simp only [Exit.inBlock, Exit.then]); refine bodyPost_ret (by simp [results, Try.results16, go_sem, *]; try rfl) rfl ?_)
  exact ⟨rfl, by (repeat' (first | (with_reducible exact Below.refl _ _) | (with_reducible assumption) | (with_reducible refine Below.alloc ?_ ?_ _) | (with_reducible refine below_drewN ?_ _) | (with_reducible refine Below.drew ?_) | (with_reducible refine Below.setCell ?_ ?_ _) | (with_reducible refine below_call (by assumption) ?_ ?_) | go_size))⟩

set_option maxHeartbeats 400000 in
theorem toPoint_eq (x y : Int) (w : World) : Calls Try.prog 17 #[.agg #[.int .i64 x, .int .i64 y]] w (Ret2 x y w) := by
  go_enter Try.func17, Try.ntmps17
  go_wp2
  ((try simp only [Exit.inBlock, Exit.then]); refine bodyPost_ret (by simp [results, Try.results17, go_sem, *]; try rfl) rfl ?_)
  exact ⟨rfl, by (repeat' (first | (with_reducible exact Below.refl _ _) | (with_reducible assumption) | (with_reducible refine Below.alloc ?_ ?_ _) | (with_reducible refine below_drewN ?_ _) | (with_reducible refine Below.drew ?_) | (with_reducible refine Below.setCell ?_ ?_ _) | (with_reducible refine below_call (by assumption) ?_ ?_) | go_size))⟩

set_option maxHeartbeats 400000 in
theorem eqPoint_same (x y : Int) (w : World) : Calls Try.prog 18 #[.agg #[.int .i64 x, .int .i64 y], .agg #[.int .i64 x, .int .i64 y]] w fun e w' => e = .returned (.bool true) ∧ Below w.heap.size w w' := by
  go_enter Try.func18, Try.ntmps18
  go_wp2
  go_ret
  exact ⟨rfl, by (repeat' (first | (with_reducible exact Below.refl _ _) | (with_reducible assumption) | (with_reducible refine Below.alloc ?_ ?_ _) | (with_reducible refine below_drewN ?_ _) | (with_reducible refine Below.drew ?_) | (with_reducible refine Below.setCell ?_ ?_ _) | (with_reducible refine below_call (by assumption) ?_ ?_) | go_size))⟩

set_option maxHeartbeats 1000000 in
theorem FnExactMapPoint_walk (a b c d e f x y : Int) (w : World) :
    Calls Try.prog 4 #[.agg #[.int .i64 a, .int .i64 b, .int .i64 c, .int .i64 d, .int .i64 e, .int .i64 f], .agg #[.int .i64 x, .int .i64 y]] w fun e w' => e = .returned (.bool true) ∧ Below w.heap.size w w' := by
  obtain ⟨v, hv⟩ : ∃ v, mapOk ⟨a, b, c, d, e, f⟩ (x, y) = v := ⟨_, rfl⟩
  obtain ⟨⟨X, Y⟩, hr⟩ : ∃ r, mapR ⟨a, b, c, d, e, f⟩ (x, y) = r := ⟨_, rfl⟩
  have H1 := Lib.hid hv
  have H2 := Lib.hid hr
  clear hv hr
  go_enter Try.func4, Try.ntmps4
  go_wp2_with fail
  apply wp_region_pure2 (by kernel_rfl) ([] :: [0] :: [] :: [2] :: [1, 3] :: [4] :: [5] :: [5] :: [] :: []) (RS.det [] _ :: RS.det [0] _ :: RS.det [] _ :: RS.det [2] _ :: RS.det [1, 3] _ :: RS.det [4] _ :: RS.det [5] _ :: RS.det [5] _ :: RS.box [] _ #[.int .i64 0, .int .i64 0] 28 :: []) [] [7] rfl (by kernel_rfl) (by intro _ c a d v w h; cases d <;> exact h) (by kernel_rfl) (by kernel_rfl) (by kernel_rfl) (st_det (st_det (st_det (st_det (st_det (st_det (st_det (st_det (st_box st_nil))))))))) _ (fun v => by simp; rfl)
  case hop =>
    simp only [Obls]
    refine ⟨?_, ?_, ?_, ?_, ?_, ?_, ?_, ?_, ?_, trivial⟩
    · (intro v w1 K hb hF hK; (try simp at hF); simp at hK; (try simp only [hF] at hK); have hz := hb.size; (try simp at hz); (try (have hk := bcl hb (w.heap.size) (by first | omega | (simp; done) | (simp; omega)); have hc := hk.1; have hf := hk.2.1; have hk := hk.2.2)); (try (have hk := bcl hb (w.heap.size + 1) (by first | omega | (simp; done) | (simp; omega)); have hc := hk.1; have hf := hk.2.1; have hk := hk.2.2)))
      go_simp
      (try simp only [])
      exact hK _ _ rfl (by (repeat' (first | (with_reducible exact Below.refl _ _) | (with_reducible assumption) | (with_reducible refine Below.alloc ?_ ?_ _) | (with_reducible refine below_drewN ?_ _) | (with_reducible refine Below.drew ?_) | (with_reducible refine Below.setCell ?_ ?_ _) | (with_reducible refine below_call (by assumption) ?_ ?_) | go_size)))
    · (intro v w1 K hb hF hK; (try simp at hF); simp at hK; (try simp only [hF] at hK); have hz := hb.size; (try simp at hz); (try (have hk := bcl hb (w.heap.size) (by first | omega | (simp; done) | (simp; omega)); have hc := hk.1; have hf := hk.2.1; have hk := hk.2.2)); (try (have hk := bcl hb (w.heap.size + 1) (by first | omega | (simp; done) | (simp; omega)); have hc := hk.1; have hf := hk.2.1; have hk := hk.2.2)))
      go_simp
      (first | (go_at_call 16; (with_reducible refine (toMatrix_eq _ _ _ _ _ _ _).mono ?_); rintro e w1 ⟨rfl, hb⟩; have hz := hb.size; (try simp at hz); (try (have hk := bcl hb (w.heap.size) (by first | omega | (simp; done) | (simp; omega)); have hc := hk.1; have hf := hk.2.1; have hk := hk.2.2)); (try (have hk := bcl hb (w.heap.size + 1) (by first | omega | (simp; done) | (simp; omega)); have hc := hk.1; have hf := hk.2.1; have hk := hk.2.2))) | (go_at_call 17; (with_reducible refine (toPoint_eq _ _ _).mono ?_); rintro e w1 ⟨rfl, hb⟩; have hz := hb.size; (try simp at hz); (try (have hk := bcl hb (w.heap.size) (by first | omega | (simp; done) | (simp; omega)); have hc := hk.1; have hf := hk.2.1; have hk := hk.2.2)); (try (have hk := bcl hb (w.heap.size + 1) (by first | omega | (simp; done) | (simp; omega)); have hc := hk.1; have hf := hk.2.1; have hk := hk.2.2))) | (go_at_call 15; (with_reducible refine (sMapPoint_eq (Hid.out (by with_reducible assumption)) (Hid.out (by with_reducible assumption)) _).mono ?_); rintro e w1 ⟨rfl, hb⟩; have hz := hb.size; (try simp at hz); (try (have hk := bcl hb (w.heap.size) (by first | omega | (simp; done) | (simp; omega)); have hc := hk.1; have hf := hk.2.1; have hk := hk.2.2)); (try (have hk := bcl hb (w.heap.size + 1) (by first | omega | (simp; done) | (simp; omega)); have hc := hk.1; have hf := hk.2.1; have hk := hk.2.2))))
      (try simp only [])
      exact hK _ _ rfl (by (repeat' (first | (with_reducible exact Below.refl _ _) | (with_reducible assumption) | (with_reducible refine Below.alloc ?_ ?_ _) | (with_reducible refine below_drewN ?_ _) | (with_reducible refine Below.drew ?_) | (with_reducible refine Below.setCell ?_ ?_ _) | (with_reducible refine below_call (by assumption) ?_ ?_) | go_size)))
    · (intro v w1 K hb hF hK; (try simp at hF); simp at hK; (try simp only [hF] at hK); have hz := hb.size; (try simp at hz); (try (have hk := bcl hb (w.heap.size) (by first | omega | (simp; done) | (simp; omega)); have hc := hk.1; have hf := hk.2.1; have hk := hk.2.2)); (try (have hk := bcl hb (w.heap.size + 1) (by first | omega | (simp; done) | (simp; omega)); have hc := hk.1; have hf := hk.2.1; have hk := hk.2.2)))
      go_simp
      (try simp only [])
      exact hK _ _ rfl (by (repeat' (first | (with_reducible exact Below.refl _ _) | (with_reducible assumption) | (with_reducible refine Below.alloc ?_ ?_ _) | (with_reducible refine below_drewN ?_ _) | (with_reducible refine Below.drew ?_) | (with_reducible refine Below.setCell ?_ ?_ _) | (with_reducible refine below_call (by assumption) ?_ ?_) | go_size)))
    · (intro v w1 K hb hF hK; (try simp at hF); simp at hK; (try simp only [hF] at hK); have hz := hb.size; (try simp at hz); (try (have hk := bcl hb (w.heap.size) (by first | omega | (simp; done) | (simp; omega)); have hc := hk.1; have hf := hk.2.1; have hk := hk.2.2)); (try (have hk := bcl hb (w.heap.size + 1) (by first | omega | (simp; done) | (simp; omega)); have hc := hk.1; have hf := hk.2.1; have hk := hk.2.2)))
      go_simp
      (first | (go_at_call 16; (with_reducible refine (toMatrix_eq _ _ _ _ _ _ _).mono ?_); rintro e w1 ⟨rfl, hb⟩; have hz := hb.size; (try simp at hz); (try (have hk := bcl hb (w.heap.size) (by first | omega | (simp; done) | (simp; omega)); have hc := hk.1; have hf := hk.2.1; have hk := hk.2.2)); (try (have hk := bcl hb (w.heap.size + 1) (by first | omega | (simp; done) | (simp; omega)); have hc := hk.1; have hf := hk.2.1; have hk := hk.2.2))) | (go_at_call 17; (with_reducible refine (toPoint_eq _ _ _).mono ?_); rintro e w1 ⟨rfl, hb⟩; have hz := hb.size; (try simp at hz); (try (have hk := bcl hb (w.heap.size) (by first | omega | (simp; done) | (simp; omega)); have hc := hk.1; have hf := hk.2.1; have hk := hk.2.2)); (try (have hk := bcl hb (w.heap.size + 1) (by first | omega | (simp; done) | (simp; omega)); have hc := hk.1; have hf := hk.2.1; have hk := hk.2.2))) | (go_at_call 15; (with_reducible refine (sMapPoint_eq (Hid.out (by with_reducible assumption)) (Hid.out (by with_reducible assumption)) _).mono ?_); rintro e w1 ⟨rfl, hb⟩; have hz := hb.size; (try simp at hz); (try (have hk := bcl hb (w.heap.size) (by first | omega | (simp; done) | (simp; omega)); have hc := hk.1; have hf := hk.2.1; have hk := hk.2.2)); (try (have hk := bcl hb (w.heap.size + 1) (by first | omega | (simp; done) | (simp; omega)); have hc := hk.1; have hf := hk.2.1; have hk := hk.2.2))))
      (try simp only [])
      exact hK _ _ rfl (by (repeat' (first | (with_reducible exact Below.refl _ _) | (with_reducible assumption) | (with_reducible refine Below.alloc ?_ ?_ _) | (with_reducible refine below_drewN ?_ _) | (with_reducible refine Below.drew ?_) | (with_reducible refine Below.setCell ?_ ?_ _) | (with_reducible refine below_call (by assumption) ?_ ?_) | go_size)))
    · (intro v w1 K hb hF hK; (try simp at hF); simp at hK; (try simp only [hF] at hK); have hz := hb.size; (try simp at hz); (try (have hk := bcl hb (w.heap.size) (by first | omega | (simp; done) | (simp; omega)); have hc := hk.1; have hf := hk.2.1; have hk := hk.2.2)); (try (have hk := bcl hb (w.heap.size + 1) (by first | omega | (simp; done) | (simp; omega)); have hc := hk.1; have hf := hk.2.1; have hk := hk.2.2)))
      go_simp
      (first | (go_at_call 16; (with_reducible refine (toMatrix_eq _ _ _ _ _ _ _).mono ?_); rintro e w1 ⟨rfl, hb⟩; have hz := hb.size; (try simp at hz); (try (have hk := bcl hb (w.heap.size) (by first | omega | (simp; done) | (simp; omega)); have hc := hk.1; have hf := hk.2.1; have hk := hk.2.2)); (try (have hk := bcl hb (w.heap.size + 1) (by first | omega | (simp; done) | (simp; omega)); have hc := hk.1; have hf := hk.2.1; have hk := hk.2.2))) | (go_at_call 17; (with_reducible refine (toPoint_eq _ _ _).mono ?_); rintro e w1 ⟨rfl, hb⟩; have hz := hb.size; (try simp at hz); (try (have hk := bcl hb (w.heap.size) (by first | omega | (simp; done) | (simp; omega)); have hc := hk.1; have hf := hk.2.1; have hk := hk.2.2)); (try (have hk := bcl hb (w.heap.size + 1) (by first | omega | (simp; done) | (simp; omega)); have hc := hk.1; have hf := hk.2.1; have hk := hk.2.2))) | (go_at_call 15; (with_reducible refine (sMapPoint_eq (Hid.out (by with_reducible assumption)) (Hid.out (by with_reducible assumption)) _).mono ?_); rintro e w1 ⟨rfl, hb⟩; have hz := hb.size; (try simp at hz); (try (have hk := bcl hb (w.heap.size) (by first | omega | (simp; done) | (simp; omega)); have hc := hk.1; have hf := hk.2.1; have hk := hk.2.2)); (try (have hk := bcl hb (w.heap.size + 1) (by first | omega | (simp; done) | (simp; omega)); have hc := hk.1; have hf := hk.2.1; have hk := hk.2.2))))
      (try simp only [])
      exact hK _ _ rfl (by (repeat' (first | (with_reducible exact Below.refl _ _) | (with_reducible assumption) | (with_reducible refine Below.alloc ?_ ?_ _) | (with_reducible refine below_drewN ?_ _) | (with_reducible refine Below.drew ?_) | (with_reducible refine Below.setCell ?_ ?_ _) | (with_reducible refine below_call (by assumption) ?_ ?_) | go_size)))
    · (intro v w1 K hb hF hK; (try simp at hF); simp at hK; (try simp only [hF] at hK); have hz := hb.size; (try simp at hz))
      go_simp
      (try simp only [])
      exact hK _ _ rfl (by (repeat' (first | (with_reducible exact Below.refl _ _) | (with_reducible assumption) | (with_reducible refine Below.alloc ?_ ?_ _) | (with_reducible refine below_drewN ?_ _) | (with_reducible refine Below.drew ?_) | (with_reducible refine Below.setCell ?_ ?_ _) | (with_reducible refine below_call (by assumption) ?_ ?_) | go_size)))
    · (intro v w1 K hb hF hK; (try simp at hF); simp at hK; (try simp only [hF] at hK); have hz := hb.size; (try simp at hz))
      go_simp
      (try simp only [])
      exact hK _ _ rfl (by (repeat' (first | (with_reducible exact Below.refl _ _) | (with_reducible assumption) | (with_reducible refine Below.alloc ?_ ?_ _) | (with_reducible refine below_drewN ?_ _) | (with_reducible refine Below.drew ?_) | (with_reducible refine Below.setCell ?_ ?_ _) | (with_reducible refine below_call (by assumption) ?_ ?_) | go_size)))
    · (intro v w1 K hb hF hK; (try simp at hF); simp at hK; (try simp only [hF] at hK); have hz := hb.size; (try simp at hz))
      go_simp
      (try simp only [])
      exact hK _ _ rfl (by (repeat' (first | (with_reducible exact Below.refl _ _) | (with_reducible assumption) | (with_reducible refine Below.alloc ?_ ?_ _) | (with_reducible refine below_drewN ?_ _) | (with_reducible refine Below.drew ?_) | (with_reducible refine Below.setCell ?_ ?_ _) | (with_reducible refine below_call (by assumption) ?_ ?_) | go_size)))
    · (intro v w1 K hb hF hK; (try simp at hF); simp at hK; (try simp only [hF] at hK); have hz := hb.size; (try simp at hz))
      go_simp
      (try simp only [])
      exact hK _ _ (isBox_new _ _ hb.size) (by (repeat' (first | (with_reducible exact Below.refl _ _) | (with_reducible assumption) | (with_reducible refine Below.alloc ?_ ?_ _) | (with_reducible refine below_drewN ?_ _) | (with_reducible refine Below.drew ?_) | (with_reducible refine Below.setCell ?_ ?_ _) | (with_reducible refine below_call (by assumption) ?_ ?_) | go_size)))
  case hfo => exact trivial
  case hlo =>
    refine ⟨?_, trivial⟩
    all_goals (intro v w hF; (try simp at hF); exact ⟨_, .inl ⟨by simp [Region.wanted], fun w => by simp [execOp, Act.eval, hF]; rfl⟩, fun w => rfl⟩)
  (intro v w1 hb hF; simp [List.range, List.range.loop] at hF; have hz := hb.size; (try simp at hz); (try (have hk := bcl hb (w.heap.size) (by first | omega | (simp; done) | (simp; omega)); have hc := hk.1; have hf := hk.2.1; have hk := hk.2.2)); (try (have hk := bcl hb (w.heap.size + 1) (by first | omega | (simp; done) | (simp; omega)); have hc := hk.1; have hf := hk.2.1; have hk := hk.2.2)))
  obtain ⟨e0, e1, e2, e3, e4, e5, e6, e7, g, e8, hg, hgs, hgb⟩ := hF
  simp only [List.length_cons, List.length_nil, List.drop_succ_cons, List.drop_zero, e0, e1, e2, e3, e4, e5, e6, e7, e8]
  clear e0 e1 e2 e3 e4 e5 e6 e7 e8 v
  have hcg := blk_cell hgb; have hfg := blk_free hgb; have Hg := Lib.hid hgb; clear hgb; (try simp at hg)
  go_wp2_with fail
  apply wp_region_pure2 (by kernel_rfl) ([] :: [0] :: [] :: [2] :: [1, 3] :: [4] :: [5] :: [5] :: [] :: []) (RS.det [] _ :: RS.det [0] _ :: RS.det [] _ :: RS.det [2] _ :: RS.det [1, 3] _ :: RS.det [4] _ :: RS.det [5] _ :: RS.det [5] _ :: RS.box [] _ #[.int .i64 0, .int .i64 0] 28 :: []) [] [7] rfl (by kernel_rfl) (by intro _ c a d v w h; cases d <;> exact h) (by kernel_rfl) (by kernel_rfl) (by kernel_rfl) (st_det (st_det (st_det (st_det (st_det (st_det (st_det (st_det (st_box st_nil))))))))) _ (fun v => by simp; rfl)
  case hop =>
    simp only [Obls]
    refine ⟨?_, ?_, ?_, ?_, ?_, ?_, ?_, ?_, ?_, trivial⟩
    · (intro v w1 K hb hF hK; (try simp at hF); simp at hK; (try simp only [hF] at hK); have hz := hb.size; (try simp at hz); (try (have hk := bcl hb (w.heap.size) (by first | omega | (simp; done) | (simp; omega)); have hc := hk.1; have hf := hk.2.1; have hk := hk.2.2)); (try (have hk := bcl hb (w.heap.size + 1) (by first | omega | (simp; done) | (simp; omega)); have hc := hk.1; have hf := hk.2.1; have hk := hk.2.2)); (try (have hk := bcl hb (g) (by first | omega | (simp; done) | (simp; omega)); have hc := hk.1; have hf := hk.2.1; have hk := hk.2.2)))
      go_simp
      (try simp only [])
      exact hK _ _ rfl (by (repeat' (first | (with_reducible exact Below.refl _ _) | (with_reducible assumption) | (with_reducible refine Below.alloc ?_ ?_ _) | (with_reducible refine below_drewN ?_ _) | (with_reducible refine Below.drew ?_) | (with_reducible refine Below.setCell ?_ ?_ _) | (with_reducible refine below_call (by assumption) ?_ ?_) | go_size)))
    · (intro v w1 K hb hF hK; (try simp at hF); simp at hK; (try simp only [hF] at hK); have hz := hb.size; (try simp at hz); (try (have hk := bcl hb (w.heap.size) (by first | omega | (simp; done) | (simp; omega)); have hc := hk.1; have hf := hk.2.1; have hk := hk.2.2)); (try (have hk := bcl hb (w.heap.size + 1) (by first | omega | (simp; done) | (simp; omega)); have hc := hk.1; have hf := hk.2.1; have hk := hk.2.2)); (try (have hk := bcl hb (g) (by first | omega | (simp; done) | (simp; omega)); have hc := hk.1; have hf := hk.2.1; have hk := hk.2.2)))
      go_simp
      (first | (go_at_call 16; (with_reducible refine (toMatrix_eq _ _ _ _ _ _ _).mono ?_); rintro e w1 ⟨rfl, hb⟩; have hz := hb.size; (try simp at hz); (try (have hk := bcl hb (w.heap.size) (by first | omega | (simp; done) | (simp; omega)); have hc := hk.1; have hf := hk.2.1; have hk := hk.2.2)); (try (have hk := bcl hb (w.heap.size + 1) (by first | omega | (simp; done) | (simp; omega)); have hc := hk.1; have hf := hk.2.1; have hk := hk.2.2)); (try (have hk := bcl hb (g) (by first | omega | (simp; done) | (simp; omega)); have hc := hk.1; have hf := hk.2.1; have hk := hk.2.2))) | (go_at_call 17; (with_reducible refine (toPoint_eq _ _ _).mono ?_); rintro e w1 ⟨rfl, hb⟩; have hz := hb.size; (try simp at hz); (try (have hk := bcl hb (w.heap.size) (by first | omega | (simp; done) | (simp; omega)); have hc := hk.1; have hf := hk.2.1; have hk := hk.2.2)); (try (have hk := bcl hb (w.heap.size + 1) (by first | omega | (simp; done) | (simp; omega)); have hc := hk.1; have hf := hk.2.1; have hk := hk.2.2)); (try (have hk := bcl hb (g) (by first | omega | (simp; done) | (simp; omega)); have hc := hk.1; have hf := hk.2.1; have hk := hk.2.2))) | (go_at_call 14; (with_reducible refine (MapPoint_eq (Hid.out (by with_reducible assumption)) (Hid.out (by with_reducible assumption)) _).mono ?_); rintro e w1 ⟨rfl, hb⟩; have hz := hb.size; (try simp at hz); (try (have hk := bcl hb (w.heap.size) (by first | omega | (simp; done) | (simp; omega)); have hc := hk.1; have hf := hk.2.1; have hk := hk.2.2)); (try (have hk := bcl hb (w.heap.size + 1) (by first | omega | (simp; done) | (simp; omega)); have hc := hk.1; have hf := hk.2.1; have hk := hk.2.2)); (try (have hk := bcl hb (g) (by first | omega | (simp; done) | (simp; omega)); have hc := hk.1; have hf := hk.2.1; have hk := hk.2.2))))
      (try simp only [])
      exact hK _ _ rfl (by (repeat' (first | (with_reducible exact Below.refl _ _) | (with_reducible assumption) | (with_reducible refine Below.alloc ?_ ?_ _) | (with_reducible refine below_drewN ?_ _) | (with_reducible refine Below.drew ?_) | (with_reducible refine Below.setCell ?_ ?_ _) | (with_reducible refine below_call (by assumption) ?_ ?_) | go_size)))
    · (intro v w1 K hb hF hK; (try simp at hF); simp at hK; (try simp only [hF] at hK); have hz := hb.size; (try simp at hz); (try (have hk := bcl hb (w.heap.size) (by first | omega | (simp; done) | (simp; omega)); have hc := hk.1; have hf := hk.2.1; have hk := hk.2.2)); (try (have hk := bcl hb (w.heap.size + 1) (by first | omega | (simp; done) | (simp; omega)); have hc := hk.1; have hf := hk.2.1; have hk := hk.2.2)); (try (have hk := bcl hb (g) (by first | omega | (simp; done) | (simp; omega)); have hc := hk.1; have hf := hk.2.1; have hk := hk.2.2)))
      go_simp
      (try simp only [])
      exact hK _ _ rfl (by (repeat' (first | (with_reducible exact Below.refl _ _) | (with_reducible assumption) | (with_reducible refine Below.alloc ?_ ?_ _) | (with_reducible refine below_drewN ?_ _) | (with_reducible refine Below.drew ?_) | (with_reducible refine Below.setCell ?_ ?_ _) | (with_reducible refine below_call (by assumption) ?_ ?_) | go_size)))
    · (intro v w1 K hb hF hK; (try simp at hF); simp at hK; (try simp only [hF] at hK); have hz := hb.size; (try simp at hz); (try (have hk := bcl hb (w.heap.size) (by first | omega | (simp; done) | (simp; omega)); have hc := hk.1; have hf := hk.2.1; have hk := hk.2.2)); (try (have hk := bcl hb (w.heap.size + 1) (by first | omega | (simp; done) | (simp; omega)); have hc := hk.1; have hf := hk.2.1; have hk := hk.2.2)); (try (have hk := bcl hb (g) (by first | omega | (simp; done) | (simp; omega)); have hc := hk.1; have hf := hk.2.1; have hk := hk.2.2)))
      go_simp
      (first | (go_at_call 16; (with_reducible refine (toMatrix_eq _ _ _ _ _ _ _).mono ?_); rintro e w1 ⟨rfl, hb⟩; have hz := hb.size; (try simp at hz); (try (have hk := bcl hb (w.heap.size) (by first | omega | (simp; done) | (simp; omega)); have hc := hk.1; have hf := hk.2.1; have hk := hk.2.2)); (try (have hk := bcl hb (w.heap.size + 1) (by first | omega | (simp; done) | (simp; omega)); have hc := hk.1; have hf := hk.2.1; have hk := hk.2.2)); (try (have hk := bcl hb (g) (by first | omega | (simp; done) | (simp; omega)); have hc := hk.1; have hf := hk.2.1; have hk := hk.2.2))) | (go_at_call 17; (with_reducible refine (toPoint_eq _ _ _).mono ?_); rintro e w1 ⟨rfl, hb⟩; have hz := hb.size; (try simp at hz); (try (have hk := bcl hb (w.heap.size) (by first | omega | (simp; done) | (simp; omega)); have hc := hk.1; have hf := hk.2.1; have hk := hk.2.2)); (try (have hk := bcl hb (w.heap.size + 1) (by first | omega | (simp; done) | (simp; omega)); have hc := hk.1; have hf := hk.2.1; have hk := hk.2.2)); (try (have hk := bcl hb (g) (by first | omega | (simp; done) | (simp; omega)); have hc := hk.1; have hf := hk.2.1; have hk := hk.2.2))) | (go_at_call 14; (with_reducible refine (MapPoint_eq (Hid.out (by with_reducible assumption)) (Hid.out (by with_reducible assumption)) _).mono ?_); rintro e w1 ⟨rfl, hb⟩; have hz := hb.size; (try simp at hz); (try (have hk := bcl hb (w.heap.size) (by first | omega | (simp; done) | (simp; omega)); have hc := hk.1; have hf := hk.2.1; have hk := hk.2.2)); (try (have hk := bcl hb (w.heap.size + 1) (by first | omega | (simp; done) | (simp; omega)); have hc := hk.1; have hf := hk.2.1; have hk := hk.2.2)); (try (have hk := bcl hb (g) (by first | omega | (simp; done) | (simp; omega)); have hc := hk.1; have hf := hk.2.1; have hk := hk.2.2))))
      (try simp only [])
      exact hK _ _ rfl (by (repeat' (first | (with_reducible exact Below.refl _ _) | (with_reducible assumption) | (with_reducible refine Below.alloc ?_ ?_ _) | (with_reducible refine below_drewN ?_ _) | (with_reducible refine Below.drew ?_) | (with_reducible refine Below.setCell ?_ ?_ _) | (with_reducible refine below_call (by assumption) ?_ ?_) | go_size)))
    · (intro v w1 K hb hF hK; (try simp at hF); simp at hK; (try simp only [hF] at hK); have hz := hb.size; (try simp at hz); (try (have hk := bcl hb (w.heap.size) (by first | omega | (simp; done) | (simp; omega)); have hc := hk.1; have hf := hk.2.1; have hk := hk.2.2)); (try (have hk := bcl hb (w.heap.size + 1) (by first | omega | (simp; done) | (simp; omega)); have hc := hk.1; have hf := hk.2.1; have hk := hk.2.2)); (try (have hk := bcl hb (g) (by first | omega | (simp; done) | (simp; omega)); have hc := hk.1; have hf := hk.2.1; have hk := hk.2.2)))
      go_simp
      (first | (go_at_call 16; (with_reducible refine (toMatrix_eq _ _ _ _ _ _ _).mono ?_); rintro e w1 ⟨rfl, hb⟩; have hz := hb.size; (try simp at hz); (try (have hk := bcl hb (w.heap.size) (by first | omega | (simp; done) | (simp; omega)); have hc := hk.1; have hf := hk.2.1; have hk := hk.2.2)); (try (have hk := bcl hb (w.heap.size + 1) (by first | omega | (simp; done) | (simp; omega)); have hc := hk.1; have hf := hk.2.1; have hk := hk.2.2)); (try (have hk := bcl hb (g) (by first | omega | (simp; done) | (simp; omega)); have hc := hk.1; have hf := hk.2.1; have hk := hk.2.2))) | (go_at_call 17; (with_reducible refine (toPoint_eq _ _ _).mono ?_); rintro e w1 ⟨rfl, hb⟩; have hz := hb.size; (try simp at hz); (try (have hk := bcl hb (w.heap.size) (by first | omega | (simp; done) | (simp; omega)); have hc := hk.1; have hf := hk.2.1; have hk := hk.2.2)); (try (have hk := bcl hb (w.heap.size + 1) (by first | omega | (simp; done) | (simp; omega)); have hc := hk.1; have hf := hk.2.1; have hk := hk.2.2)); (try (have hk := bcl hb (g) (by first | omega | (simp; done) | (simp; omega)); have hc := hk.1; have hf := hk.2.1; have hk := hk.2.2))) | (go_at_call 14; (with_reducible refine (MapPoint_eq (Hid.out (by with_reducible assumption)) (Hid.out (by with_reducible assumption)) _).mono ?_); rintro e w1 ⟨rfl, hb⟩; have hz := hb.size; (try simp at hz); (try (have hk := bcl hb (w.heap.size) (by first | omega | (simp; done) | (simp; omega)); have hc := hk.1; have hf := hk.2.1; have hk := hk.2.2)); (try (have hk := bcl hb (w.heap.size + 1) (by first | omega | (simp; done) | (simp; omega)); have hc := hk.1; have hf := hk.2.1; have hk := hk.2.2)); (try (have hk := bcl hb (g) (by first | omega | (simp; done) | (simp; omega)); have hc := hk.1; have hf := hk.2.1; have hk := hk.2.2))))
      (try simp only [])
      exact hK _ _ rfl (by (repeat' (first | (with_reducible exact Below.refl _ _) | (with_reducible assumption) | (with_reducible refine Below.alloc ?_ ?_ _) | (with_reducible refine below_drewN ?_ _) | (with_reducible refine Below.drew ?_) | (with_reducible refine Below.setCell ?_ ?_ _) | (with_reducible refine below_call (by assumption) ?_ ?_) | go_size)))
    · (intro v w1 K hb hF hK; (try simp at hF); simp at hK; (try simp only [hF] at hK); have hz := hb.size; (try simp at hz))
      go_simp
      (try simp only [])
      exact hK _ _ rfl (by (repeat' (first | (with_reducible exact Below.refl _ _) | (with_reducible assumption) | (with_reducible refine Below.alloc ?_ ?_ _) | (with_reducible refine below_drewN ?_ _) | (with_reducible refine Below.drew ?_) | (with_reducible refine Below.setCell ?_ ?_ _) | (with_reducible refine below_call (by assumption) ?_ ?_) | go_size)))
    · (intro v w1 K hb hF hK; (try simp at hF); simp at hK; (try simp only [hF] at hK); have hz := hb.size; (try simp at hz))
      go_simp
      (try simp only [])
      exact hK _ _ rfl (by (repeat' (first | (with_reducible exact Below.refl _ _) | (with_reducible assumption) | (with_reducible refine Below.alloc ?_ ?_ _) | (with_reducible refine below_drewN ?_ _) | (with_reducible refine Below.drew ?_) | (with_reducible refine Below.setCell ?_ ?_ _) | (with_reducible refine below_call (by assumption) ?_ ?_) | go_size)))
    · (intro v w1 K hb hF hK; (try simp at hF); simp at hK; (try simp only [hF] at hK); have hz := hb.size; (try simp at hz))
      go_simp
      (try simp only [])
      exact hK _ _ rfl (by (repeat' (first | (with_reducible exact Below.refl _ _) | (with_reducible assumption) | (with_reducible refine Below.alloc ?_ ?_ _) | (with_reducible refine below_drewN ?_ _) | (with_reducible refine Below.drew ?_) | (with_reducible refine Below.setCell ?_ ?_ _) | (with_reducible refine below_call (by assumption) ?_ ?_) | go_size)))
    · (intro v w1 K hb hF hK; (try simp at hF); simp at hK; (try simp only [hF] at hK); have hz := hb.size; (try simp at hz))
      go_simp
      (try simp only [])
      exact hK _ _ (isBox_new _ _ hb.size) (by (repeat' (first | (with_reducible exact Below.refl _ _) | (with_reducible assumption) | (with_reducible refine Below.alloc ?_ ?_ _) | (with_reducible refine below_drewN ?_ _) | (with_reducible refine Below.drew ?_) | (with_reducible refine Below.setCell ?_ ?_ _) | (with_reducible refine below_call (by assumption) ?_ ?_) | go_size)))
  case hfo => exact trivial
  case hlo =>
    refine ⟨?_, trivial⟩
    all_goals (intro v w hF; (try simp at hF); exact ⟨_, .inl ⟨by simp [Region.wanted], fun w => by simp [execOp, Act.eval, hF]; rfl⟩, fun w => rfl⟩)
  (intro v w1 hb hF; simp [List.range, List.range.loop] at hF; have hz := hb.size; (try simp at hz); (try (have hk := bcl hb (w.heap.size) (by first | omega | (simp; done) | (simp; omega)); have hc := hk.1; have hf := hk.2.1; have hk := hk.2.2)); (try (have hk := bcl hb (w.heap.size + 1) (by first | omega | (simp; done) | (simp; omega)); have hc := hk.1; have hf := hk.2.1; have hk := hk.2.2)); (try (have hk := bcl hb (g) (by first | omega | (simp; done) | (simp; omega)); have hc := hk.1; have hf := hk.2.1; have hk := hk.2.2)))
  obtain ⟨e0, e1, e2, e3, e4, e5, e6, e7, g', e8, hg', hg's, hg'b⟩ := hF
  simp only [List.length_cons, List.length_nil, List.drop_succ_cons, List.drop_zero, e0, e1, e2, e3, e4, e5, e6, e7, e8]
  clear e0 e1 e2 e3 e4 e5 e6 e7 e8 v
  have hcg' := blk_cell hg'b; have hfg' := blk_free hg'b; have Hg' := Lib.hid hg'b; clear hg'b; (try simp at hg')
  go_wp2_with (go_at_call 18; (with_reducible refine (eqPoint_same _ _ _).mono ?_); rintro e w1 ⟨rfl, hb⟩; have hz := hb.size; (try simp at hz); (try (have hk := bcl hb (g) (by first | omega | (simp; done) | (simp; omega)); have hc := hk.1; have hf := hk.2.1; have hk := hk.2.2)); (try (have hk := bcl hb (g') (by first | omega | (simp; done) | (simp; omega)); have hc := hk.1; have hf := hk.2.1; have hk := hk.2.2)))
  go_ret
  exact ⟨rfl, by (repeat' (first | (with_reducible exact Below.refl _ _) | (with_reducible assumption) | (with_reducible refine Below.alloc ?_ ?_ _) | (with_reducible refine below_drewN ?_ _) | (with_reducible refine Below.drew ?_) | (with_reducible refine Below.setCell ?_ ?_ _) | (with_reducible refine below_call (by assumption) ?_ ?_) | go_size))⟩

theorem FnExactMapPoint_own : ownKnob Try.prog.godebug = none := by kernel_rfl
theorem FnExactMapPoint_laid : laidOutB Try.prog = true := by kernel_rfl

set_option maxRecDepth 100000 in
theorem FnExactMapPoint_lifted (os : Os) (started : os.Started) (H : Type) (enc : TypeId × Value → H) :
    ReturnsInHanded {} Try.checked os 4 .any (Rows.fnExactMapPointSpec.pre6 enc Try.prog Try.f4 Rows.fnExactMapPointRow.domain false) (Rows.fnExactMapPointSpec.post enc Try.prog Try.f4 false true false false) := by
  refine returnsInHanded_of_change (C := Try.checked) FnExactMapPoint_own started (by kernel_rfl) Try.func4
    (ChangeSpec.witness6 (enc := enc) (C := Try.checked) false ⟨#[], #[.agg #[.int .i64 0, .int .i64 0, .int .i64 0, .int .i64 0, .int .i64 0, .int .i64 0], .agg #[.int .i64 0, .int .i64 0]], []⟩ 8 (by kernel_rfl) (by kernel_rfl) (by kernel_rfl) (by kernel_rfl)) ?_
  intro W base args ds gs before hval0 hW hcnd _
  have hval : ∀ (j : Nat) t v, Try.f4.params[j]? = some t → args[j]? = some v → Value.okWide Try.prog W .any base t v := hval0
  have hW' := hW
  obtain ⟨p, q, hA0, hV, rfl, hfz, hnd⟩ := hW
  have hA : DataW.TrodAll enc Try.prog W 0 (fun _ => true) true Try.f4.params.toList args.toList ds p := hA0
  rw [Try.params4] at hA hval
  obtain ⟨v0, vs0, d0, ds0, p0, q0, hargs, rfl, rfl, h0, r0⟩ := trodAll_cons hA
  obtain ⟨v1, vs1, d1, ds1, p1, q1, rfl, rfl, rfl, h1, r1⟩ := trodAll_cons r0
  obtain ⟨rfl, rfl, rfl⟩ := trodAll_nil r1
  obtain rfl : args = #[v0, v1] := by cases args; simp_all
  obtain ⟨rfl, rfl⟩ := trodVars_none hV
  have k0 := h0
  have lt0 : ∀ x ∈ p0, x.block < W.heap.size := by obtain ⟨m, hm⟩ := k0; exact DataW.trod_lt m _ _ _ hm
  obtain ⟨z0_0, z0_1, z0_2, z0_3, z0_4, z0_5, rfl⟩ := agg_nums6 rfl Try.underlying32 (by kernel_rfl) (by kernel_rfl) (by kernel_rfl) (hval 0 32 v0 rfl rfl) h0
  have k1 := h1
  have lt1 : ∀ x ∈ p1, x.block < W.heap.size := by obtain ⟨m, hm⟩ := k1; exact DataW.trod_lt m _ _ _ hm
  obtain ⟨c1_0, c1_1, y1_0, y1_1, n1, rfl, rfl, rfl, t1_0, t1_1⟩ := Joins.open_agg2 Try.underlying33 (by kernel_rfl) (by kernel_rfl) (hval 1 33 v1 rfl rfl) h1
  obtain ⟨z1_0, e1_0, _, _⟩ := DataW.trod_int Try.underlying3 t1_0
  simp at e1_0; subst e1_0
  obtain ⟨z1_1, e1_1, _, _⟩ := DataW.trod_int Try.underlying3 t1_1
  simp at e1_1; subst e1_1
  clear hA0 hval0
  refine (FnExactMapPoint_walk z0_0 z0_1 z0_2 z0_3 z0_4 z0_5 z1_0 z1_1 W).mono fun e W' ⟨he, bel⟩ => ?_
  subst he
  exact ⟨_, rfl, _, _, _, [], _, [], hW', trodAll_mk1 (shut_bool Try.underlying4 _), (trodAll_cons_mk (Below.trod FnExactMapPoint_laid (by kernel_rfl) (of_decide_eq_true (by kernel_rfl)) k0 bel lt0) (trodAll_cons_mk (Below.trod FnExactMapPoint_laid (by kernel_rfl) (of_decide_eq_true (by kernel_rfl)) k1 bel lt1) trodAll_mk0)), rfl, bel.frame _, fun h => by cases h⟩

theorem FnExactMapPoint_over : Rows.fnExactMapPointRow.holds Try.pinned (OpenSpec.ofChange Rows.fnExactMapPointSpec) :=
  OpenClaim.holds_of_wide 4 Try.f4 rfl rfl rfl rfl rfl rfl rfl ⟨rfl, rfl, rfl, rfl, rfl⟩ rfl rfl rfl rfl rfl (by kernel_rfl) Try.func4 (by kernel_rfl)
    (of_decide_eq_true (by kernel_rfl)) (by unfold Func.isWrapper; first | (rw [if_pos (by decide +kernel)]; kernel_rfl) | (rw [if_neg (by decide +kernel)]; exact ⟨rfl, rfl⟩))
    (fun os started H enc _ => FnExactMapPoint_lifted os started H enc)

/-- The statement. -/
theorem FnExactMapPoint_holds : Rows.FnExactMapPointSaid := FnExactMapPoint_over
#print axioms FnExactMapPoint_holds

end Go.Proofs.Ytaklcipdcnegbaa
