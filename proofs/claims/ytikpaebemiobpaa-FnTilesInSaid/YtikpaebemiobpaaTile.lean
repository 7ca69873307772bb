/-
  Tiles: TileCount, TileBox, of the program and of the reference.
-/
import Derived.Test.YtikpaebemiobpaaLeaf
import Derived.Test.YtikpaebemiobpaaReg
namespace Go.Proofs.Ytikpaebemiobpaa
open Go.RowKit Pl

theorem sizedB_true {w h : Int} : sizedB w h = true ↔ 1 ≤ w ∧ w ≤ 12 ∧ 1 ≤ h ∧ h ≤ 12 := by simp [sizedB]
theorem sized_ins {a b : Int} {u v : Bool} (h1 : inB a 1 12 = u) (h2 : inB b 1 12 = v) : sizedB a b = (u && v) := by
  subst h1; subst h2
  simp only [sizedB, inB]
  rw [← Bool.decide_and]
  exact decide_eq_decide.2 (by omega)
theorem acr_of {a : Int} (h : 1 ≤ a) (h' : a ≤ 12) : (acr a = 1 ∧ a ≤ 4) ∨ (acr a = 2 ∧ 5 ≤ a ∧ a ≤ 8) ∨ (acr a = 3 ∧ 9 ≤ a) := by unfold acr; omega
theorem acr_at {a : Int} (h : 1 ≤ a) : (a + 4 - 1).tdiv 4 = acr a := by unfold acr; rw [Int.tdiv_eq_ediv_of_nonneg (by omega)]; omega

set_option maxHeartbeats 400000 in
theorem sized_eq {a b : Int} {v : Bool} (h : sizedB a b = v) (w : World) :
    Calls Try.prog 22 #[.int .i64 a, .int .i64 b] w fun e w' => e = .returned (.bool v) ∧ Below w.heap.size w w' := by
  subst h
  rcases Bool.eq_false_or_eq_true (inB a 1 12) with h2 | h2 <;> rcases Bool.eq_false_or_eq_true (inB b 1 12) with h3 | h3 <;> rw [sized_ins h2 h3] <;>
    have H2 := Lib.hid h2 <;> have H3 := Lib.hid h3 <;> clear h2 h3
  all_goals
    go_enter Try.func22, Try.ntmps22
    go_wp2_with ((go_at_call 31; (with_reducible refine (in_eq (Hid.out (by with_reducible assumption)) _).mono ?_); rintro e w1 ⟨rfl, rfl⟩))
    go_ret
    exact ⟨rfl, by (repeat' (first | (with_reducible exact Below.refl _ _) | (with_reducible assumption) | (with_reducible refine Below.alloc ?_ ?_ _) | (with_reducible refine below_drewN ?_ _) | (with_reducible refine Below.drew ?_) | (with_reducible refine Below.setCell ?_ ?_ _) | (with_reducible refine below_call (by assumption) ?_ ?_) | go_size))⟩

set_option maxHeartbeats 400000 in
theorem validSize_eq {a b : Int} {v : Bool} (h : sizedB a b = v) (w : World) :
    Calls Try.prog 19 #[.int .i64 a, .int .i64 b] w fun e w' => e = .returned (.bool v) ∧ Below w.heap.size w w' := by
  subst h
  rcases Bool.eq_false_or_eq_true (inB a 1 12) with h2 | h2 <;> rcases Bool.eq_false_or_eq_true (inB b 1 12) with h3 | h3 <;> rw [sized_ins h2 h3] <;>
    have H2 := Lib.hid h2 <;> have H3 := Lib.hid h3 <;> clear h2 h3
  all_goals
    go_enter Try.func19, Try.ntmps19
    go_wp2_with ((go_at_call 32; (with_reducible refine (inRange_eq (Hid.out (by with_reducible assumption)) _).mono ?_); rintro e w1 ⟨rfl, rfl⟩))
    go_ret
    exact ⟨rfl, by (repeat' (first | (with_reducible exact Below.refl _ _) | (with_reducible assumption) | (with_reducible refine Below.alloc ?_ ?_ _) | (with_reducible refine below_drewN ?_ _) | (with_reducible refine Below.drew ?_) | (with_reducible refine Below.setCell ?_ ?_ _) | (with_reducible refine below_call (by assumption) ?_ ?_) | go_size))⟩

set_option maxHeartbeats 400000 in
theorem across_eq {a : Int} (h1 : 1 ≤ a) (h2 : a ≤ 12) {q : Int} (h : acr a = q) (w : World) :
    Calls Try.prog 29 #[.int .i64 a] w fun e w' => e = .returned (.int .i64 q) ∧ w = w' := by
  rw [← acr_at h1] at h
  have : (a + 4 - 1) / 4 = q := by rw [Int.tdiv_eq_ediv_of_nonneg (by omega)] at h; exact h
  go_enter Try.func29, Try.ntmps29
  go_wp2
  go_ret
  exact ⟨ret_int (by first | omega | (simp; omega)), rfl⟩

set_option linter.unusedSimpArgs false

/-- The number of tiles, or -1. -/
def tcount (a b : Int) : Int := if sizedB a b then tileN a b else -1

set_option maxHeartbeats 400000 in
theorem TileCount_eq {a b : Int} {n : Int} (h : tcount a b = n) (w : World) :
    Calls Try.prog 14 #[.int .i64 a, .int .i64 b] w fun e w' => e = .returned (.int .i64 n) ∧ Below w.heap.size w w' := by
  subst h
  rcases Bool.eq_false_or_eq_true (sizedB a b) with h1 | h1 <;> simp only [tcount, h1, if_true, Bool.false_eq_true, if_false]
  · obtain ⟨a1, a2, b1, b2⟩ := sizedB_true.1 h1
    have H1 := Lib.hid h1
    clear h1
    rcases acr_of a1 a2 with ⟨h2, _⟩ | ⟨h2, _⟩ | ⟨h2, _⟩ <;> rcases acr_of b1 b2 with ⟨h3, _⟩ | ⟨h3, _⟩ | ⟨h3, _⟩ <;> simp only [tileN, h2, h3] <;>
      have H2 := Lib.hid h2 <;> have H3 := Lib.hid h3 <;> clear h2 h3
    all_goals
      go_enter Try.func14, Try.ntmps14
      go_wp2_with (first | (go_at_call 22; (with_reducible refine (sized_eq (Hid.out (by with_reducible assumption)) _).mono ?_); rintro e w1 ⟨rfl, hb⟩; have hz := hb.size; (try simp at hz)) | (go_at_call 29; (with_reducible refine (across_eq (by omega) (by omega) (Hid.out (by with_reducible assumption)) _).mono ?_); rintro e w1 ⟨rfl, rfl⟩))
      go_ret
      exact ⟨rfl, by (repeat' (first | (with_reducible exact Below.refl _ _) | (with_reducible assumption) | (with_reducible refine Below.alloc ?_ ?_ _) | (with_reducible refine below_drewN ?_ _) | (with_reducible refine Below.drew ?_) | (with_reducible refine Below.setCell ?_ ?_ _) | (with_reducible refine below_call (by assumption) ?_ ?_) | go_size))⟩
  · have H1 := Lib.hid h1
    clear h1
    go_enter Try.func14, Try.ntmps14
    go_wp2_with (first | (go_at_call 22; (with_reducible refine (sized_eq (Hid.out (by with_reducible assumption)) _).mono ?_); rintro e w1 ⟨rfl, hb⟩; have hz := hb.size; (try simp at hz)) | (go_at_call 29; (with_reducible refine (across_eq (by omega) (by omega) (Hid.out (by with_reducible assumption)) _).mono ?_); rintro e w1 ⟨rfl, rfl⟩))
    go_ret
    exact ⟨rfl, by (repeat' (first | (with_reducible exact Below.refl _ _) | (with_reducible assumption) | (with_reducible refine Below.alloc ?_ ?_ _) | (with_reducible refine below_drewN ?_ _) | (with_reducible refine Below.drew ?_) | (with_reducible refine Below.setCell ?_ ?_ _) | (with_reducible refine below_call (by assumption) ?_ ?_) | go_size))⟩

set_option maxHeartbeats 400000 in
theorem tiles_eq {a b : Int} (h : sizedB a b = true) {n : Int} (hn : tileN a b = n) (w : World) :
    Calls Try.prog 33 #[.int .i64 a, .int .i64 b] w fun e w' => e = .returned (.int .i64 n) ∧ Below w.heap.size w w' := by
  subst hn
  obtain ⟨a1, a2, b1, b2⟩ := sizedB_true.1 h
  clear h
  rcases acr_of a1 a2 with ⟨h2, _⟩ | ⟨h2, _⟩ | ⟨h2, _⟩ <;> rcases acr_of b1 b2 with ⟨h3, _⟩ | ⟨h3, _⟩ | ⟨h3, _⟩ <;> simp only [tileN, h2, h3] <;> rw [← acr_at (by omega)] at h2 h3
  all_goals
    go_enter Try.func33, Try.ntmps33
    go_wp2
    go_ret
    exact ⟨ret_int (by first | rfl | omega | (simp [h2, h3]; done) | (simp [h2, h3]; omega)), by (repeat' (first | (with_reducible exact Below.refl _ _) | (with_reducible assumption) | (with_reducible refine Below.alloc ?_ ?_ _) | (with_reducible refine below_drewN ?_ _) | (with_reducible refine Below.drew ?_) | (with_reducible refine Below.setCell ?_ ?_ _) | (with_reducible refine below_call (by assumption) ?_ ?_) | go_size))⟩

set_option maxHeartbeats 400000 in
theorem tileBox_eq {a b k : Int} (h : sizedB a b = true) (hk0 : 0 ≤ k) (hk1 : k < tileN a b) {x : Bx} (hx : tileB a b k = x) (w : World) :
    Calls Try.prog 34 #[.int .i64 a, .int .i64 b, .int .i64 k] w (Box x w) := by
  subst hx
  obtain ⟨a1, a2, b1, b2⟩ := sizedB_true.1 h
  clear h
  have hk2 : k ≤ 8 := by
    rcases acr_of a1 a2 with ⟨h2, _⟩ | ⟨h2, _⟩ | ⟨h2, _⟩ <;> rcases acr_of b1 b2 with ⟨h3, _⟩ | ⟨h3, _⟩ | ⟨h3, _⟩ <;> rw [tileN, h2, h3] at hk1 <;> omega
  clear hk1
  rcases acr_of a1 a2 with ⟨h2, _⟩ | ⟨h2, _⟩ | ⟨h2, _⟩ <;> simp only [tileB, h2] <;> rw [← acr_at (by omega)] at h2
  all_goals
    go_enter Try.func34, Try.ntmps34
    go_wp2
    ((try simp only [Exit.inBlock, Exit.then]); refine bodyPost_ret (by simp [results, Try.results34, go_sem, *]; try rfl) rfl ?_)
    refine Box.mk ?_ (by (repeat' (first | (with_reducible exact Below.refl _ _) | (with_reducible assumption) | (with_reducible refine Below.alloc ?_ ?_ _) | (with_reducible refine below_drewN ?_ _) | (with_reducible refine Below.drew ?_) | (with_reducible refine Below.setCell ?_ ?_ _) | (with_reducible refine below_call (by assumption) ?_ ?_) | go_size)))
    simp only [Bx.mk.injEq]
    first | omega | exact ⟨trivial, trivial, Int.min_comm _ _, Int.min_comm _ _⟩

/-- There is such a tile. -/
def tileOk (a b k : Int) : Bool := sizedB a b && decide (0 ≤ k ∧ k < tileN a b)
theorem tileOk_true {a b k : Int} : tileOk a b k = true ↔ sizedB a b = true ∧ 0 ≤ k ∧ k < tileN a b := by simp [tileOk]
theorem tileN_le {a b : Int} (h : sizedB a b = true) : 1 ≤ tileN a b ∧ tileN a b ≤ 9 := by
  obtain ⟨a1, a2, b1, b2⟩ := sizedB_true.1 h
  rcases acr_of a1 a2 with ⟨h2, _⟩ | ⟨h2, _⟩ | ⟨h2, _⟩ <;> rcases acr_of b1 b2 with ⟨h3, _⟩ | ⟨h3, _⟩ | ⟨h3, _⟩ <;> rw [tileN, h2, h3] <;> omega
theorem tcount_le (a b : Int) : -1 ≤ tcount a b ∧ tcount a b ≤ 9 := by
  unfold tcount
  split
  · rename_i h; have := tileN_le h; omega
  · omega
theorem tileOk_in {a b k : Int} : inB k 0 (tcount a b - 1) = tileOk a b k := by
  unfold tcount tileOk inB
  cases sizedB a b with
  | true => simp only [if_true, Bool.true_and]; exact decide_eq_decide.2 (by omega)
  | false => simp; omega
theorem tileOk_ins {a b k : Int} (h : sizedB a b = true) : inB k 0 (tileN a b - 1) = tileOk a b k := by
  rw [← tileOk_in, tcount, h]; rfl

/-- A box and whether there is one. -/
def BxOk (x : Bx) (v : Bool) (w : World) (e : Ending) (w' : World) : Prop := e = .returned (.tuple #[.agg #[.int .i64 x.l, .int .i64 x.t, .int .i64 x.r, .int .i64 x.b], .bool v]) ∧ Below w.heap.size w w'
theorem BxOk.mk {x : Bx} {v : Bool} {l t r b : Int} {w w' : World} (h : x = ⟨l, t, r, b⟩) (hb : Below w.heap.size w w') : BxOk x v w (.returned (.tuple #[.agg #[.int .i64 l, .int .i64 t, .int .i64 r, .int .i64 b], .bool v])) w' := by subst h; exact ⟨rfl, hb⟩
def tileR (a b k : Int) : Bx := if tileOk a b k then tileB a b k else zero

set_option maxHeartbeats 1000000 in
theorem TileBox_eq {a b k : Int} {x : Bx} {v : Bool} (hv : tileOk a b k = v) (hx : tileR a b k = x) (w : World) :
    Calls Try.prog 16 #[.int .i64 a, .int .i64 b, .int .i64 k] w (BxOk x v w) := by
  subst hx
  unfold tileR
  have hb0 := tcount_le a b
  have hin := tileOk_in (a := a) (b := b) (k := k)
  obtain ⟨n, hn⟩ : ∃ n, tcount a b = n := ⟨_, rfl⟩
  rw [hn] at hb0 hin
  rw [hv] at hin
  have H1 := Lib.hid hn
  have H2 := Lib.hid hin
  clear hn hin
  cases v with
  | false =>
    rw [hv]
    simp only [Bool.false_eq_true, if_false, zero]
    clear hv
    go_enter Try.func16, Try.ntmps16
    go_wp2_with (first | (go_at_call 14; (with_reducible refine (TileCount_eq (Hid.out (by with_reducible assumption)) _).mono ?_); rintro e w1 ⟨rfl, hb⟩; have hz := hb.size; (try simp at hz); (try (have hk := bcl hb (w.heap.size) (by first | omega | (simp; done) | (simp; omega)); have hc := hk.1; have hf := hk.2.1; have hk := hk.2.2))) | (go_at_call 31; (with_reducible refine (in_eq (Hid.out (by with_reducible assumption)) _).mono ?_); rintro e w1 ⟨rfl, rfl⟩))
    ((try simp only [Exit.inBlock, Exit.then]); refine bodyPost_ret (by simp [results, Try.results16, go_sem, *]; try rfl) rfl ?_)
    exact BxOk.mk rfl (by (repeat' (first | (with_reducible exact Below.refl _ _) | (with_reducible assumption) | (with_reducible refine Below.alloc ?_ ?_ _) | (with_reducible refine below_drewN ?_ _) | (with_reducible refine Below.drew ?_) | (with_reducible refine Below.setCell ?_ ?_ _) | (with_reducible refine below_call (by assumption) ?_ ?_) | go_size)))
  | true =>
    rw [hv]
    simp only [if_true]
    obtain ⟨h, hk0, hk1⟩ := tileOk_true.1 hv
    have hk2 := tileN_le h
    clear hv
    obtain ⟨a1, a2, b1, b2⟩ := sizedB_true.1 h
    clear h
    rcases acr_of a1 a2 with ⟨h2, _⟩ | ⟨h2, _⟩ | ⟨h2, _⟩ <;> simp only [tileB, h2] <;> have H3 := Lib.hid h2 <;> clear h2
    all_goals
      go_enter Try.func16, Try.ntmps16
      go_wp2_with (first | (go_at_call 14; (with_reducible refine (TileCount_eq (Hid.out (by with_reducible assumption)) _).mono ?_); rintro e w1 ⟨rfl, hb⟩; have hz := hb.size; (try simp at hz); (try (have hk := bcl hb (w.heap.size) (by first | omega | (simp; done) | (simp; omega)); have hc := hk.1; have hf := hk.2.1; have hk := hk.2.2))) | (go_at_call 31; (with_reducible refine (in_eq (Hid.out (by with_reducible assumption)) _).mono ?_); rintro e w1 ⟨rfl, rfl⟩))
      apply wp_region_pure (by kernel_rfl) ([] :: [] :: [1] :: [0, 2] :: [3] :: [] :: [] :: [6] :: [5, 7] :: [8] :: [4] :: [9] :: []) (RS.det [] _ :: RS.det [] _ :: RS.det [1] _ :: RS.det [0, 2] _ :: RS.det [3] _ :: RS.det [] _ :: RS.det [] _ :: RS.det [6] _ :: RS.det [5, 7] _ :: RS.det [8] _ :: RS.det [4] _ :: RS.det [9] _ :: []) [] rfl (by kernel_rfl) (fun h => absurd rfl h) (by kernel_rfl) (by kernel_rfl) (st_det (st_det (st_det (st_det (st_det (st_det (st_det (st_det (st_det (st_det (st_det (st_det st_nil)))))))))))) _ (fun v => by simp; rfl)
      case hop =>
        simp only [Obls]
        refine ⟨?_, ?_, ?_, ?_, ?_, ?_, ?_, ?_, ?_, ?_, ?_, ?_, trivial⟩
        · (intro v w1 K hb hF hK; (try simp at hF); simp at hK; (try simp only [hF] at hK); have hz := hb.size; (try simp at hz))
          go_simp
          (try simp only [])
          exact hK _ _ rfl (by (repeat' (first | (with_reducible exact Below.refl _ _) | (with_reducible assumption) | (with_reducible refine Below.alloc ?_ ?_ _) | (with_reducible refine below_drewN ?_ _) | (with_reducible refine Below.drew ?_) | (with_reducible refine Below.setCell ?_ ?_ _) | (with_reducible refine below_call (by assumption) ?_ ?_) | go_size)))
        · (intro v w1 K hb hF hK; (try simp at hF); simp at hK; (try simp only [hF] at hK); have hz := hb.size; (try simp at hz))
          go_simp
          (try simp only [])
          exact hK _ _ rfl (by (repeat' (first | (with_reducible exact Below.refl _ _) | (with_reducible assumption) | (with_reducible refine Below.alloc ?_ ?_ _) | (with_reducible refine below_drewN ?_ _) | (with_reducible refine Below.drew ?_) | (with_reducible refine Below.setCell ?_ ?_ _) | (with_reducible refine below_call (by assumption) ?_ ?_) | go_size)))
        · (intro v w1 K hb hF hK; (try simp at hF); simp at hK; (try simp only [hF] at hK); have hz := hb.size; (try simp at hz); (try (have hk := bcl hb (w.heap.size) (by first | omega | (simp; done) | (simp; omega)); have hc := hk.1; have hf := hk.2.1; have hk := hk.2.2)))
          go_simp
          (first | (go_at_call 29; (with_reducible refine (across_eq (by omega) (by omega) (Hid.out (by with_reducible assumption)) _).mono ?_); rintro e w1 ⟨rfl, rfl⟩))
          (try simp only [])
          exact hK _ _ rfl (by (repeat' (first | (with_reducible exact Below.refl _ _) | (with_reducible assumption) | (with_reducible refine Below.alloc ?_ ?_ _) | (with_reducible refine below_drewN ?_ _) | (with_reducible refine Below.drew ?_) | (with_reducible refine Below.setCell ?_ ?_ _) | (with_reducible refine below_call (by assumption) ?_ ?_) | go_size)))
        · (intro v w1 K hb hF hK; (try simp at hF); simp at hK; (try simp only [hF] at hK); have hz := hb.size; (try simp at hz))
          go_simp
          (try simp only [])
          exact hK _ _ rfl (by (repeat' (first | (with_reducible exact Below.refl _ _) | (with_reducible assumption) | (with_reducible refine Below.alloc ?_ ?_ _) | (with_reducible refine below_drewN ?_ _) | (with_reducible refine Below.drew ?_) | (with_reducible refine Below.setCell ?_ ?_ _) | (with_reducible refine below_call (by assumption) ?_ ?_) | go_size)))
        · (intro v w1 K hb hF hK; (try simp at hF); simp at hK; (try simp only [hF] at hK); have hz := hb.size; (try simp at hz))
          go_simp
          (try simp only [])
          exact hK _ _ rfl (by (repeat' (first | (with_reducible exact Below.refl _ _) | (with_reducible assumption) | (with_reducible refine Below.alloc ?_ ?_ _) | (with_reducible refine below_drewN ?_ _) | (with_reducible refine Below.drew ?_) | (with_reducible refine Below.setCell ?_ ?_ _) | (with_reducible refine below_call (by assumption) ?_ ?_) | go_size)))
        · (intro v w1 K hb hF hK; (try simp at hF); simp at hK; (try simp only [hF] at hK); have hz := hb.size; (try simp at hz))
          go_simp
          (try simp only [])
          exact hK _ _ rfl (by (repeat' (first | (with_reducible exact Below.refl _ _) | (with_reducible assumption) | (with_reducible refine Below.alloc ?_ ?_ _) | (with_reducible refine below_drewN ?_ _) | (with_reducible refine Below.drew ?_) | (with_reducible refine Below.setCell ?_ ?_ _) | (with_reducible refine below_call (by assumption) ?_ ?_) | go_size)))
        · (intro v w1 K hb hF hK; (try simp at hF); simp at hK; (try simp only [hF] at hK); have hz := hb.size; (try simp at hz))
          go_simp
          (try simp only [])
          exact hK _ _ rfl (by (repeat' (first | (with_reducible exact Below.refl _ _) | (with_reducible assumption) | (with_reducible refine Below.alloc ?_ ?_ _) | (with_reducible refine below_drewN ?_ _) | (with_reducible refine Below.drew ?_) | (with_reducible refine Below.setCell ?_ ?_ _) | (with_reducible refine below_call (by assumption) ?_ ?_) | go_size)))
        · (intro v w1 K hb hF hK; (try simp at hF); simp at hK; (try simp only [hF] at hK); have hz := hb.size; (try simp at hz); (try (have hk := bcl hb (w.heap.size) (by first | omega | (simp; done) | (simp; omega)); have hc := hk.1; have hf := hk.2.1; have hk := hk.2.2)))
          go_simp
          (first | (go_at_call 29; (with_reducible refine (across_eq (by omega) (by omega) (Hid.out (by with_reducible assumption)) _).mono ?_); rintro e w1 ⟨rfl, rfl⟩))
          (try simp only [])
          exact hK _ _ rfl (by (repeat' (first | (with_reducible exact Below.refl _ _) | (with_reducible assumption) | (with_reducible refine Below.alloc ?_ ?_ _) | (with_reducible refine below_drewN ?_ _) | (with_reducible refine Below.drew ?_) | (with_reducible refine Below.setCell ?_ ?_ _) | (with_reducible refine below_call (by assumption) ?_ ?_) | go_size)))
        · (intro v w1 K hb hF hK; (try simp at hF); simp at hK; (try simp only [hF] at hK); have hz := hb.size; (try simp at hz))
          go_simp
          (try simp only [])
          exact hK _ _ rfl (by (repeat' (first | (with_reducible exact Below.refl _ _) | (with_reducible assumption) | (with_reducible refine Below.alloc ?_ ?_ _) | (with_reducible refine below_drewN ?_ _) | (with_reducible refine Below.drew ?_) | (with_reducible refine Below.setCell ?_ ?_ _) | (with_reducible refine below_call (by assumption) ?_ ?_) | go_size)))
        · (intro v w1 K hb hF hK; (try simp at hF); simp at hK; (try simp only [hF] at hK); have hz := hb.size; (try simp at hz))
          go_simp
          (try simp only [])
          exact hK _ _ rfl (by (repeat' (first | (with_reducible exact Below.refl _ _) | (with_reducible assumption) | (with_reducible refine Below.alloc ?_ ?_ _) | (with_reducible refine below_drewN ?_ _) | (with_reducible refine Below.drew ?_) | (with_reducible refine Below.setCell ?_ ?_ _) | (with_reducible refine below_call (by assumption) ?_ ?_) | go_size)))
        · (intro v w1 K hb hF hK; (try simp at hF); simp at hK; (try simp only [hF] at hK); have hz := hb.size; (try simp at hz))
          go_simp
          (try simp only [])
          exact hK _ _ rfl (by (repeat' (first | (with_reducible exact Below.refl _ _) | (with_reducible assumption) | (with_reducible refine Below.alloc ?_ ?_ _) | (with_reducible refine below_drewN ?_ _) | (with_reducible refine Below.drew ?_) | (with_reducible refine Below.setCell ?_ ?_ _) | (with_reducible refine below_call (by assumption) ?_ ?_) | go_size)))
        · (intro v w1 K hb hF hK; (try simp at hF); simp at hK; (try simp only [hF] at hK); have hz := hb.size; (try simp at hz))
          go_simp
          (try simp only [])
          exact hK _ _ rfl (by (repeat' (first | (with_reducible exact Below.refl _ _) | (with_reducible assumption) | (with_reducible refine Below.alloc ?_ ?_ _) | (with_reducible refine below_drewN ?_ _) | (with_reducible refine Below.drew ?_) | (with_reducible refine Below.setCell ?_ ?_ _) | (with_reducible refine below_call (by assumption) ?_ ?_) | go_size)))
      case hfo => exact trivial
      (intro v w1 hb hF; simp [List.range, List.range.loop] at hF; have hz := hb.size; (try simp at hz); (try (have hk := bcl hb (w.heap.size) (by first | omega | (simp; done) | (simp; omega)); have hc := hk.1; have hf := hk.2.1; have hk := hk.2.2)))
      obtain ⟨e0, e1, e2, e3, e4, e5, e6, e7, e8, e9, e10, e11⟩ := hF
      simp only [List.length_cons, List.length_nil, List.drop_succ_cons, List.drop_zero, e0, e1, e2, e3, e4, e5, e6, e7, e8, e9, e10, e11]
      clear e0 e1 e2 e3 e4 e5 e6 e7 e8 e9 e10 e11 v
      go_wp2
      ((try simp only [Exit.inBlock, Exit.then]); refine bodyPost_ret (by simp [results, Try.results16, go_sem, *]; try rfl) rfl ?_)
      exact BxOk.mk (by first | (simp only [Bx.mk.injEq]; done) | (simp only [Bx.mk.injEq]; omega)) (by (repeat' (first | (with_reducible exact Below.refl _ _) | (with_reducible assumption) | (with_reducible refine Below.alloc ?_ ?_ _) | (with_reducible refine below_drewN ?_ _) | (with_reducible refine Below.drew ?_) | (with_reducible refine Below.setCell ?_ ?_ _) | (with_reducible refine below_call (by assumption) ?_ ?_) | go_size)))

end Go.Proofs.Ytikpaebemiobpaa
