/-
  StrokeRings of the program.
-/
import Derived.Test.YtbiddmimcdmnoaaStr
import Derived.Test.YtbiddmimcdmnoaaPlS2
import Derived.Test.YtbiddmimcdmnoaaLen
import Derived.Test.YtbiddmimcdmnoaaVRings
import Derived.Test.YtbiddmimcdmnoaaRegQ
namespace Go.Proofs.Ytbiddmimcdmnoaa
open Go.RowKit Pl

set_option linter.unusedSimpArgs false
set_option linter.unusedVariables false

theorem iteP_no {α : Type} {p q : Prop} [Decidable p] [Decidable q] (h : ¬ (p ∧ q)) (x y : α) : (if p then if q then x else y else y) = y := by
  by_cases hp : p <;> by_cases hq : q <;> simp_all

/-- Two points in new blocks. -/
structure TwoB (x y u v : Int) (ga gb : Nat) (w w' : World) : Prop where
  a : w'.heap[ga]? = some (.cells #[.int .i64 x, .int .i64 y] 38 (0, 0))
  b : w'.heap[gb]? = some (.cells #[.int .i64 u, .int .i64 v] 38 (0, 0))
  bel : Below w.heap.size w w'
  ha : w.heap.size ≤ ga
  hb : w.heap.size ≤ gb

/-- Rings that come back. -/
def RetS (L : List (List Pt)) (ok : Bool) (w : World) (e : Ending) (w' : World) : Prop := ∃ v, e = .returned (.tuple #[v, .bool ok]) ∧ OwnRO w.heap.size w' v L.length (fun i => L.getD i []) ∧ Below w.heap.size w w'
theorem RetS.none' (w w' : World) : OwnRO w.heap.size w' (.slice none 0 0) ([] : List (List Pt)).length (fun i => ([] : List (List Pt)).getD i []) := OwnRO.nil _ _ _

theorem stroke_no {l : List Pt} {half : Int} {ok : Bool} {L : List (List Pt)} (hok : strokeOk l half = ok) (hL : strokeR l half = L) (h : strokeOk l half = false) : ok = false ∧ L = [] := by
  rw [h] at hok
  exact ⟨hok.symm, by rw [← hL, strokeR_no h]⟩

set_option maxRecDepth 100000 in
set_option maxHeartbeats 4000000 in
theorem StrokeRings_eq {A : Option Addr} {n : Nat} {l : List Pt} {half : Int} {w : World} {ok : Bool} {L : List (List Pt)} (c : Nat) (h : IsPts w A n l) (hn : n ≤ 1000000000) (hok : strokeOk l half = ok) (hL : strokeR l half = L) :
    Calls Try.prog 9 #[.slice A n c, .int .i64 half] w (RetS L ok w) := by
  have HP := Lib.hid h
  have hl := h.1
  have HL := Lib.hid hl
  clear h
  by_cases h8 : 8 < n
  · obtain ⟨rfl, rfl⟩ := stroke_no hok hL (by rw [strokeOk, decide_eq_false (by omega)]; rfl)
    clear hok hL hl
    have e8 : decide ((8 : Int) < n) = true := decide_eq_true (by omega)
    go_enter Try.func9, Try.ntmps9
    go_wp2
    go_ret2
    exact ⟨_, rfl, RetS.none' _ _, by (repeat' (first | (with_reducible exact Below.refl _ _) | (with_reducible assumption) | (with_reducible refine Below.alloc ?_ ?_ _) | (with_reducible refine below_drewN ?_ _) | (with_reducible refine Below.drew ?_) | (with_reducible refine Below.setCell ?_ ?_ _) | (with_reducible refine below_call (by assumption) ?_ ?_) | (with_reducible refine below_grown (by assumption) ?_ ?_ ?_) | omega | (simp; done) | (simp; omega)))⟩
  have e8 : decide ((8 : Int) < n) = false := decide_eq_false (by omega)
  rcases Bool.eq_false_or_eq_true (validL l) with h1 | h1
  · rcases Bool.eq_false_or_eq_true (inB half 1 100) with h2 | h2
    · have hst : strokeOk l half = ringsOk (strokeL l half) := by rw [strokeOk, h1, h2, decide_eq_true (by omega)]; rfl
      have e2 := inB_true.1 h2
      have hv := (validL_iff.1 h1).2
      have H1 := Lib.hid h1
      have H2 := Lib.hid h2
      have HV := Lib.hid hv
      have HS := Lib.hid hst
      have HK := Lib.hid hok
      have HR := Lib.hid hL
      clear h1 h2 hst hv hok hL
      go_enter Try.func9, Try.ntmps9
      go_wp2_with fail
      refine (pointsValid_eq c (HP.out.below (by (repeat' (first | (with_reducible exact Below.refl _ _) | (with_reducible assumption) | (with_reducible refine Below.alloc ?_ ?_ _) | (with_reducible refine below_drewN ?_ _) | (with_reducible refine Below.drew ?_) | (with_reducible refine Below.setCell ?_ ?_ _) | (with_reducible refine below_call (by assumption) ?_ ?_) | go_size)))) (by omega) (Hid.out (by with_reducible assumption))).mono ?_
      rintro e w1 ⟨rfl, hb⟩
      have hz1 := hb.size
      go_wp2_with ((go_at_call 23; (with_reducible refine (in_eq (Hid.out (by with_reducible assumption)) _).mono ?_); rintro e w1 ⟨rfl, rfl⟩))
      go_loopw [6, 7] (fun v i wr => ∃ k : Nat, (k + 1 ≤ n ∨ k = 0) ∧ i = .int .i64 ((k + 1 : Nat) : Int) ∧ OwnRL w.heap.size wr v (linesU l k) (strokeF l half) ∧ Below w.heap.size w wr) (fun _ i _ => n - (intOf i).toNat)
      case atStart => exact ⟨0, by omega, rfl, OwnRL.nil _ _ _, by (repeat' (first | (with_reducible exact Below.refl _ _) | (with_reducible assumption) | (with_reducible refine Below.alloc ?_ ?_ _) | (with_reducible refine below_drewN ?_ _) | (with_reducible refine Below.drew ?_) | (with_reducible refine Below.setCell ?_ ?_ _) | (with_reducible refine below_call (by assumption) ?_ ?_) | (with_reducible refine below_grown (by assumption) ?_ ?_ ?_) | omega | (simp; done) | (simp; omega)))⟩
      case round =>
        obtain ⟨wo, rfl⟩ : ∃ wo : World, wo = wr := ⟨_, rfl⟩
        obtain ⟨k, hk, rfl, hown, hbel⟩ := hrel
        have hsz := hbel.size
        have HO := Lib.hid hown
        clear hown
        by_cases hlt : k + 1 < n
        · have hp0 := HV.out k
          have hp1 := HV.out (k + 1)
          obtain ⟨b, o, rfl, hbl, c00, c01⟩ := (HP.out.below hbel).at_ (k := k) (by omega)
          obtain ⟨b', o', e, _, c10, c11⟩ := (HP.out.below hbel).at_ (k := k + 1) hlt
          cases e
          obtain ⟨x, hx⟩ : ∃ x, px l k = x := ⟨_, rfl⟩
          obtain ⟨y, hy⟩ : ∃ x, py l k = x := ⟨_, rfl⟩
          obtain ⟨u, hu⟩ : ∃ x, px l (k + 1) = x := ⟨_, rfl⟩
          obtain ⟨v, hv⟩ : ∃ x, py l (k + 1) = x := ⟨_, rfl⟩
          rw [hx] at c00
          rw [hy] at c01
          rw [hu] at c10
          rw [hv] at c11
          obtain ⟨j, hj⟩ : ∃ j, k + 1 = j := ⟨_, rfl⟩
          rw [hj] at c10 c11 hlt ⊢
          have eb : decide ((j : Int) < n) = true := decide_eq_true (by omega)
          have hki : (j : Int) < n := by omega
          have hkn : (k : Int) < n := by omega
          have PX : Hid (ptA l k = (x, y)) := Lib.hid (by rw [ptA, hx, hy])
          have PU : Hid (ptA l (k + 1) = (u, v)) := Lib.hid (by rw [ptA, hu, hv])
          have HPX : Hid (ptB (x, y) = true) := Lib.hid (by have := hp0 (by rw [HL.out]; omega); simp only [inBx, unitBx, pt, hx, hy] at this; exact ptB_true.2 (by omega))
          have HPU : Hid (ptB (u, v) = true) := Lib.hid (by have := hp1 (by rw [HL.out]; omega); simp only [inBx, unitBx, pt, hu, hv] at this; exact ptB_true.2 (by omega))
          obtain ⟨_, _, _, _⟩ := ptB_true.1 HPX.out
          obtain ⟨_, _, _, _⟩ := ptB_true.1 HPU.out
          obtain ⟨h3, h4⟩ := e2
          clear hx hy hu hv hp0 hp1
          have t1 : IntKind.i64.wrap ((j : Int) - 1) = (k : Int) := by rw [IntWalk.i64_in _ (by omega)]; omega
          go_wp2_with fail
          have key1 : TwoB x y u v wo.heap.size (wo.heap.size + 1) wo ((wo.alloc (.cells #[.int .i64 x, .int .i64 y] 38)).alloc (.cells #[.int .i64 u, .int .i64 v] 38)).drew :=
            ⟨blk_alloc (blk_new wo _) _, blk_new1 wo _ _, by (repeat' (first | (with_reducible exact Below.refl _ _) | (with_reducible assumption) | (with_reducible refine Below.alloc ?_ ?_ _) | (with_reducible refine below_drewN ?_ _) | (with_reducible refine Below.drew ?_) | (with_reducible refine Below.setCell ?_ ?_ _) | (with_reducible refine below_call (by assumption) ?_ ?_) | (with_reducible refine below_grown (by assumption) ?_ ?_ ?_) | omega | (simp; done) | (simp; omega))), Nat.le_refl _, Nat.le_succ _⟩
          have key2 : TwoB x y u v (wo.heap.size + 1) wo.heap.size wo ((wo.alloc (.cells #[.int .i64 u, .int .i64 v] 38)).alloc (.cells #[.int .i64 x, .int .i64 y] 38)).drew :=
            ⟨blk_new1 wo _ _, blk_alloc (blk_new wo _) _, by (repeat' (first | (with_reducible exact Below.refl _ _) | (with_reducible assumption) | (with_reducible refine Below.alloc ?_ ?_ _) | (with_reducible refine below_drewN ?_ _) | (with_reducible refine Below.drew ?_) | (with_reducible refine Below.setCell ?_ ?_ _) | (with_reducible refine below_call (by assumption) ?_ ?_) | (with_reducible refine below_grown (by assumption) ?_ ?_ ?_) | omega | (simp; done) | (simp; omega))), Nat.le_succ _, Nat.le_refl _⟩
          have K1 := Lib.hid key1
          have K2 := Lib.hid key2
          clear key1 key2
          go_region
          · clear K2
            generalize ((wo.alloc (.cells #[.int .i64 x, .int .i64 y] 38)).alloc (.cells #[.int .i64 u, .int .i64 v] 38)).drew = w7 at K1 ⊢
            have K := K1
            clear K1
            generalize wo.heap.size + 1 = gb at K ⊢
            generalize wo.heap.size = ga at K ⊢
            obtain ⟨hA, hB, hb7, ga0, gb0⟩ := K
            have hz7 := hb7.size
            have hcA := blk_cell hA
            have hfA := blk_free hA
            have hlA := blk_lt hA
            have hcB := blk_cell hB
            have hfB := blk_free hB
            have hlB := blk_lt hB
            have KA := Lib.hid hA
            have KB := Lib.hid hB
            have HB7 := Lib.hid hb7
            clear hA hB
            by_cases hxy : x = u ∧ y = v
            · obtain ⟨rfl, rfl⟩ := hxy
              have HS1 : Hid (linesU l (k + 1) = linesU l k) := Lib.hid (linesU_same (by rw [PX.out, PU.out]))
              go_wp2
              go_roundw
              case rel => exact ⟨k + 1, by omega, congrArg (Value.int .i64) (by push_cast; omega), by rw [HS1.out]; exact HO.out.below hb7, by (repeat' (first | (with_reducible exact Below.refl _ _) | (with_reducible assumption) | (with_reducible refine Below.alloc ?_ ?_ _) | (with_reducible refine below_drewN ?_ _) | (with_reducible refine Below.drew ?_) | (with_reducible refine Below.setCell ?_ ?_ _) | (with_reducible refine below_call (by assumption) ?_ ?_) | (with_reducible refine below_grown (by assumption) ?_ ?_ ?_) | omega | (simp; done) | (simp; omega)))⟩
              case measure => simp [intOf]; omega
            · have hne : ((x, y) : Pt) ≠ (u, v) := fun h => hxy ⟨congrArg Prod.fst h, congrArg Prod.snd h⟩
              obtain ⟨b1, b2, b3, b4⟩ := barX_small HPX.out HPU.out hne h3 h4
              have HS1 : Hid (linesU l (k + 1) = linesU l k + 1) := Lib.hid (linesU_succ (by rw [PX.out, PU.out]; exact hne))
              have hF := strokeF_at (l := l) (half := half) (k := k) (by rw [HL.out]; omega) (by rw [PX.out, PU.out]; exact hne)
              rw [PX.out, PU.out] at hF
              have hr := rootI_is (dist2_nonneg (x, y) (u, v))
              have hr1 := rootI_pos (dist2_pos hne)
              have hr2 := hr.le (M := 3000) (by omega) (by have := dist2_le HPX.out HPU.out; omega)
              obtain ⟨X, hX⟩ : ∃ X, barX (x, y) (u, v) half = X := ⟨_, rfl⟩
              obtain ⟨Y, hY⟩ : ∃ X, barY (x, y) (u, v) half = X := ⟨_, rfl⟩
              unfold barL at hF
              rw [hX] at b1 b2 hF
              rw [hY] at b3 b4 hF
              unfold barX at hX
              unfold barY at hY
              obtain ⟨r, hrr⟩ : ∃ r, rootI (dist2 (x, y) (u, v)) = r := ⟨_, rfl⟩
              rw [hrr] at hX hY hr hr1 hr2
              simp only at hX hY hF
              obtain ⟨m1, m2⟩ := mul_bar (a := y - v) (b := half) (by omega) (by omega) h3 h4
              obtain ⟨m3, m4⟩ := mul_bar (a := u - x) (b := half) (by omega) (by omega) h3 h4
              have s1 : IntKind.i64.wrap (y - v) = y - v := IntWalk.i64_in _ (by omega)
              have s2 : IntKind.i64.wrap (u - x) = u - x := IntWalk.i64_in _ (by omega)
              have s3 : IntKind.i64.wrap ((y - v) * half) = (y - v) * half := IntWalk.i64_in _ (by omega)
              have s4 : IntKind.i64.wrap ((u - x) * half) = (u - x) * half := IntWalk.i64_in _ (by omega)
              have RX := Lib.hid hX
              have RY := Lib.hid hY
              have RR := Lib.hid hr
              have RF := Lib.hid hF
              have E1 := fun α : Type => iteP_no (α := α) hxy
              have e1 : decide (x = u ∧ y = v) = false := by simpa using hxy
              have e2 : (decide (x = u) && decide (y = v)) = false := by simpa using hxy
              clear hX hY hr hF hrr hne hxy
              go_wp2_with fail
              clear E1 e1 e2
              apply wp_region_pure (by kernel_rfl) ([] :: [0] :: [] :: [2] :: [1, 3] :: [] :: [4, 5] :: [] :: [] :: [7, 8] :: [6, 9] :: [] :: [11] :: [] :: [13] :: [12, 14] :: [] :: [15, 16] :: [] :: [] :: [18, 19] :: [17, 20] :: []) (RS.det [] _ :: RS.det [0] _ :: RS.det [] _ :: RS.det [2] _ :: RS.det [1, 3] _ :: RS.det [] _ :: RS.det [4, 5] _ :: RS.det [] _ :: RS.det [] _ :: RS.det [7, 8] _ :: RS.det [6, 9] _ :: RS.det [] _ :: RS.det [11] _ :: RS.det [] _ :: RS.det [13] _ :: RS.det [12, 14] _ :: RS.det [] _ :: RS.det [15, 16] _ :: RS.det [] _ :: RS.det [] _ :: RS.det [18, 19] _ :: RS.det [17, 20] _ :: []) [] rfl (by kernel_rfl) (fun h => absurd rfl h) (by kernel_rfl) (by kernel_rfl) (st_det (st_det (st_det (st_det (st_det (st_det (st_det (st_det (st_det (st_det (st_det (st_det (st_det (st_det (st_det (st_det (st_det (st_det (st_det (st_det (st_det (st_det st_nil)))))))))))))))))))))) _ (fun v => by simp; rfl)
              case hop =>
                simp only [Obls]
                refine ⟨?_, ?_, ?_, ?_, ?_, ?_, ?_, ?_, ?_, ?_, ?_, ?_, ?_, ?_, ?_, ?_, ?_, ?_, ?_, ?_, ?_, ?_, trivial⟩
                · (intro v w1 K hb hF hK; (try simp at hF); simp at hK; (try simp only [hF] at hK); have hz := hb.size; (try simp at hz))
                  go_simp
                  (try simp only [])
                  exact hK _ _ rfl (by (repeat' (first | (with_reducible exact Below.refl _ _) | (with_reducible assumption) | (with_reducible refine Below.alloc ?_ ?_ _) | (with_reducible refine below_drewN ?_ _) | (with_reducible refine Below.drew ?_) | (with_reducible refine Below.setCell ?_ ?_ _) | (with_reducible refine below_call (by assumption) ?_ ?_) | go_size)))
                · (intro v w1 K hb hF hK; (try simp at hF); simp at hK; (try simp only [hF] at hK); have hz := hb.size; (try simp at hz); (try (have hk := bcl hb (b) (by first | omega | (simp; done) | (simp; omega)); have hc := hk.1; have hf := hk.2.1; have hk := hk.2.2)); (try (have hk := bcl hb (ga) (by first | omega | (simp; done) | (simp; omega)); have hc := hk.1; have hf := hk.2.1; have hk := hk.2.2)); (try (have hk := bcl hb (gb) (by first | omega | (simp; done) | (simp; omega)); have hc := hk.1; have hf := hk.2.1; have hk := hk.2.2)))
                  go_simp
                  (try simp only [])
                  exact hK _ _ rfl (by (repeat' (first | (with_reducible exact Below.refl _ _) | (with_reducible assumption) | (with_reducible refine Below.alloc ?_ ?_ _) | (with_reducible refine below_drewN ?_ _) | (with_reducible refine Below.drew ?_) | (with_reducible refine Below.setCell ?_ ?_ _) | (with_reducible refine below_call (by assumption) ?_ ?_) | go_size)))
                · (intro v w1 K hb hF hK; (try simp at hF); simp at hK; (try simp only [hF] at hK); have hz := hb.size; (try simp at hz))
                  go_simp
                  (try simp only [])
                  exact hK _ _ rfl (by (repeat' (first | (with_reducible exact Below.refl _ _) | (with_reducible assumption) | (with_reducible refine Below.alloc ?_ ?_ _) | (with_reducible refine below_drewN ?_ _) | (with_reducible refine Below.drew ?_) | (with_reducible refine Below.setCell ?_ ?_ _) | (with_reducible refine below_call (by assumption) ?_ ?_) | go_size)))
                · (intro v w1 K hb hF hK; (try simp at hF); simp at hK; (try simp only [hF] at hK); have hz := hb.size; (try simp at hz); (try (have hk := bcl hb (b) (by first | omega | (simp; done) | (simp; omega)); have hc := hk.1; have hf := hk.2.1; have hk := hk.2.2)); (try (have hk := bcl hb (ga) (by first | omega | (simp; done) | (simp; omega)); have hc := hk.1; have hf := hk.2.1; have hk := hk.2.2)); (try (have hk := bcl hb (gb) (by first | omega | (simp; done) | (simp; omega)); have hc := hk.1; have hf := hk.2.1; have hk := hk.2.2)))
                  go_simp
                  (try simp only [])
                  exact hK _ _ rfl (by (repeat' (first | (with_reducible exact Below.refl _ _) | (with_reducible assumption) | (with_reducible refine Below.alloc ?_ ?_ _) | (with_reducible refine below_drewN ?_ _) | (with_reducible refine Below.drew ?_) | (with_reducible refine Below.setCell ?_ ?_ _) | (with_reducible refine below_call (by assumption) ?_ ?_) | go_size)))
                · (intro v w1 K hb hF hK; (try simp at hF); simp at hK; (try simp only [hF] at hK); have hz := hb.size; (try simp at hz))
                  go_simp
                  (try simp only [])
                  exact hK _ _ rfl (by (repeat' (first | (with_reducible exact Below.refl _ _) | (with_reducible assumption) | (with_reducible refine Below.alloc ?_ ?_ _) | (with_reducible refine below_drewN ?_ _) | (with_reducible refine Below.drew ?_) | (with_reducible refine Below.setCell ?_ ?_ _) | (with_reducible refine below_call (by assumption) ?_ ?_) | go_size)))
                · (intro v w1 K hb hF hK; (try simp at hF); simp at hK; (try simp only [hF] at hK); have hz := hb.size; (try simp at hz))
                  go_simp
                  (try simp only [])
                  exact hK _ _ rfl (by (repeat' (first | (with_reducible exact Below.refl _ _) | (with_reducible assumption) | (with_reducible refine Below.alloc ?_ ?_ _) | (with_reducible refine below_drewN ?_ _) | (with_reducible refine Below.drew ?_) | (with_reducible refine Below.setCell ?_ ?_ _) | (with_reducible refine below_call (by assumption) ?_ ?_) | go_size)))
                · (intro v w1 K hb hF hK; (try simp at hF); simp at hK; (try simp only [hF] at hK); have hz := hb.size; (try simp at hz))
                  go_simp
                  (try simp only [])
                  exact hK _ _ rfl (by (repeat' (first | (with_reducible exact Below.refl _ _) | (with_reducible assumption) | (with_reducible refine Below.alloc ?_ ?_ _) | (with_reducible refine below_drewN ?_ _) | (with_reducible refine Below.drew ?_) | (with_reducible refine Below.setCell ?_ ?_ _) | (with_reducible refine below_call (by assumption) ?_ ?_) | go_size)))
                · (intro v w1 K hb hF hK; (try simp at hF); simp at hK; (try simp only [hF] at hK); have hz := hb.size; (try simp at hz); (try (have hk := bcl hb (b) (by first | omega | (simp; done) | (simp; omega)); have hc := hk.1; have hf := hk.2.1; have hk := hk.2.2)); (try (have hk := bcl hb (ga) (by first | omega | (simp; done) | (simp; omega)); have hc := hk.1; have hf := hk.2.1; have hk := hk.2.2)); (try (have hk := bcl hb (gb) (by first | omega | (simp; done) | (simp; omega)); have hc := hk.1; have hf := hk.2.1; have hk := hk.2.2)))
                  go_simp
                  (try simp only [])
                  exact hK _ _ rfl (by (repeat' (first | (with_reducible exact Below.refl _ _) | (with_reducible assumption) | (with_reducible refine Below.alloc ?_ ?_ _) | (with_reducible refine below_drewN ?_ _) | (with_reducible refine Below.drew ?_) | (with_reducible refine Below.setCell ?_ ?_ _) | (with_reducible refine below_call (by assumption) ?_ ?_) | go_size)))
                · (intro v w1 K hb hF hK; (try simp at hF); simp at hK; (try simp only [hF] at hK); have hz := hb.size; (try simp at hz); (try (have hk := bcl hb (b) (by first | omega | (simp; done) | (simp; omega)); have hc := hk.1; have hf := hk.2.1; have hk := hk.2.2)); (try (have hk := bcl hb (ga) (by first | omega | (simp; done) | (simp; omega)); have hc := hk.1; have hf := hk.2.1; have hk := hk.2.2)); (try (have hk := bcl hb (gb) (by first | omega | (simp; done) | (simp; omega)); have hc := hk.1; have hf := hk.2.1; have hk := hk.2.2)))
                  go_simp
                  (try simp only [])
                  exact hK _ _ rfl (by (repeat' (first | (with_reducible exact Below.refl _ _) | (with_reducible assumption) | (with_reducible refine Below.alloc ?_ ?_ _) | (with_reducible refine below_drewN ?_ _) | (with_reducible refine Below.drew ?_) | (with_reducible refine Below.setCell ?_ ?_ _) | (with_reducible refine below_call (by assumption) ?_ ?_) | go_size)))
                · (intro v w1 K hb hF hK; (try simp at hF); simp at hK; (try simp only [hF] at hK); have hz := hb.size; (try simp at hz); (try (have hk := bcl hb (b) (by first | omega | (simp; done) | (simp; omega)); have hc := hk.1; have hf := hk.2.1; have hk := hk.2.2)); (try (have hk := bcl hb (ga) (by first | omega | (simp; done) | (simp; omega)); have hc := hk.1; have hf := hk.2.1; have hk := hk.2.2)); (try (have hk := bcl hb (gb) (by first | omega | (simp; done) | (simp; omega)); have hc := hk.1; have hf := hk.2.1; have hk := hk.2.2)))
                  go_simp
                  (first | (go_at_call 25; (with_reducible refine (long_eq HPX.out HPU.out RR.out _).mono ?_); rintro e w1 ⟨rfl, hb⟩; have hz := hb.size; (try simp at hz); (try (have hk := bcl hb (b) (by first | omega | (simp; done) | (simp; omega)); have hc := hk.1; have hf := hk.2.1; have hk := hk.2.2)); (try (have hk := bcl hb (ga) (by first | omega | (simp; done) | (simp; omega)); have hc := hk.1; have hf := hk.2.1; have hk := hk.2.2)); (try (have hk := bcl hb (gb) (by first | omega | (simp; done) | (simp; omega)); have hc := hk.1; have hf := hk.2.1; have hk := hk.2.2))) | (go_at_call 24; (with_reducible refine (round_eq (by omega) (by omega) (by omega) (by omega) RX.out _).mono ?_); rintro e w1 ⟨rfl, rfl⟩) | (go_at_call 24; (with_reducible refine (round_eq (by omega) (by omega) (by omega) (by omega) RY.out _).mono ?_); rintro e w1 ⟨rfl, rfl⟩) | skip)
                  (try simp only [])
                  exact hK _ _ rfl (by (repeat' (first | (with_reducible exact Below.refl _ _) | (with_reducible assumption) | (with_reducible refine Below.alloc ?_ ?_ _) | (with_reducible refine below_drewN ?_ _) | (with_reducible refine Below.drew ?_) | (with_reducible refine Below.setCell ?_ ?_ _) | (with_reducible refine below_call (by assumption) ?_ ?_) | go_size)))
                · (intro v w1 K hb hF hK; (try simp at hF); simp at hK; (try simp only [hF] at hK); have hz := hb.size; (try simp at hz); (try (have hk := bcl hb (b) (by first | omega | (simp; done) | (simp; omega)); have hc := hk.1; have hf := hk.2.1; have hk := hk.2.2)); (try (have hk := bcl hb (ga) (by first | omega | (simp; done) | (simp; omega)); have hc := hk.1; have hf := hk.2.1; have hk := hk.2.2)); (try (have hk := bcl hb (gb) (by first | omega | (simp; done) | (simp; omega)); have hc := hk.1; have hf := hk.2.1; have hk := hk.2.2)))
                  go_simp
                  (first | (go_at_call 25; (with_reducible refine (long_eq HPX.out HPU.out RR.out _).mono ?_); rintro e w1 ⟨rfl, hb⟩; have hz := hb.size; (try simp at hz); (try (have hk := bcl hb (b) (by first | omega | (simp; done) | (simp; omega)); have hc := hk.1; have hf := hk.2.1; have hk := hk.2.2)); (try (have hk := bcl hb (ga) (by first | omega | (simp; done) | (simp; omega)); have hc := hk.1; have hf := hk.2.1; have hk := hk.2.2)); (try (have hk := bcl hb (gb) (by first | omega | (simp; done) | (simp; omega)); have hc := hk.1; have hf := hk.2.1; have hk := hk.2.2))) | (go_at_call 24; (with_reducible refine (round_eq (by omega) (by omega) (by omega) (by omega) RX.out _).mono ?_); rintro e w1 ⟨rfl, rfl⟩) | (go_at_call 24; (with_reducible refine (round_eq (by omega) (by omega) (by omega) (by omega) RY.out _).mono ?_); rintro e w1 ⟨rfl, rfl⟩) | skip)
                  (try simp only [])
                  exact hK _ _ rfl (by (repeat' (first | (with_reducible exact Below.refl _ _) | (with_reducible assumption) | (with_reducible refine Below.alloc ?_ ?_ _) | (with_reducible refine below_drewN ?_ _) | (with_reducible refine Below.drew ?_) | (with_reducible refine Below.setCell ?_ ?_ _) | (with_reducible refine below_call (by assumption) ?_ ?_) | go_size)))
                · (intro v w1 K hb hF hK; (try simp at hF); simp at hK; (try simp only [hF] at hK); have hz := hb.size; (try simp at hz))
                  go_simp
                  (try simp only [])
                  exact hK _ _ rfl (by (repeat' (first | (with_reducible exact Below.refl _ _) | (with_reducible assumption) | (with_reducible refine Below.alloc ?_ ?_ _) | (with_reducible refine below_drewN ?_ _) | (with_reducible refine Below.drew ?_) | (with_reducible refine Below.setCell ?_ ?_ _) | (with_reducible refine below_call (by assumption) ?_ ?_) | go_size)))
                · (intro v w1 K hb hF hK; (try simp at hF); simp at hK; (try simp only [hF] at hK); have hz := hb.size; (try simp at hz); (try (have hk := bcl hb (b) (by first | omega | (simp; done) | (simp; omega)); have hc := hk.1; have hf := hk.2.1; have hk := hk.2.2)); (try (have hk := bcl hb (ga) (by first | omega | (simp; done) | (simp; omega)); have hc := hk.1; have hf := hk.2.1; have hk := hk.2.2)); (try (have hk := bcl hb (gb) (by first | omega | (simp; done) | (simp; omega)); have hc := hk.1; have hf := hk.2.1; have hk := hk.2.2)))
                  go_simp
                  (try simp only [])
                  exact hK _ _ rfl (by (repeat' (first | (with_reducible exact Below.refl _ _) | (with_reducible assumption) | (with_reducible refine Below.alloc ?_ ?_ _) | (with_reducible refine below_drewN ?_ _) | (with_reducible refine Below.drew ?_) | (with_reducible refine Below.setCell ?_ ?_ _) | (with_reducible refine below_call (by assumption) ?_ ?_) | go_size)))
                · (intro v w1 K hb hF hK; (try simp at hF); simp at hK; (try simp only [hF] at hK); have hz := hb.size; (try simp at hz))
                  go_simp
                  (try simp only [])
                  exact hK _ _ rfl (by (repeat' (first | (with_reducible exact Below.refl _ _) | (with_reducible assumption) | (with_reducible refine Below.alloc ?_ ?_ _) | (with_reducible refine below_drewN ?_ _) | (with_reducible refine Below.drew ?_) | (with_reducible refine Below.setCell ?_ ?_ _) | (with_reducible refine below_call (by assumption) ?_ ?_) | go_size)))
                · (intro v w1 K hb hF hK; (try simp at hF); simp at hK; (try simp only [hF] at hK); have hz := hb.size; (try simp at hz); (try (have hk := bcl hb (b) (by first | omega | (simp; done) | (simp; omega)); have hc := hk.1; have hf := hk.2.1; have hk := hk.2.2)); (try (have hk := bcl hb (ga) (by first | omega | (simp; done) | (simp; omega)); have hc := hk.1; have hf := hk.2.1; have hk := hk.2.2)); (try (have hk := bcl hb (gb) (by first | omega | (simp; done) | (simp; omega)); have hc := hk.1; have hf := hk.2.1; have hk := hk.2.2)))
                  go_simp
                  (try simp only [])
                  exact hK _ _ rfl (by (repeat' (first | (with_reducible exact Below.refl _ _) | (with_reducible assumption) | (with_reducible refine Below.alloc ?_ ?_ _) | (with_reducible refine below_drewN ?_ _) | (with_reducible refine Below.drew ?_) | (with_reducible refine Below.setCell ?_ ?_ _) | (with_reducible refine below_call (by assumption) ?_ ?_) | go_size)))
                · (intro v w1 K hb hF hK; (try simp at hF); simp at hK; (try simp only [hF] at hK); have hz := hb.size; (try simp at hz))
                  go_simp
                  (try simp only [])
                  exact hK _ _ rfl (by (repeat' (first | (with_reducible exact Below.refl _ _) | (with_reducible assumption) | (with_reducible refine Below.alloc ?_ ?_ _) | (with_reducible refine below_drewN ?_ _) | (with_reducible refine Below.drew ?_) | (with_reducible refine Below.setCell ?_ ?_ _) | (with_reducible refine below_call (by assumption) ?_ ?_) | go_size)))
                · (intro v w1 K hb hF hK; (try simp at hF); simp at hK; (try simp only [hF] at hK); have hz := hb.size; (try simp at hz))
                  go_simp
                  (try simp only [])
                  exact hK _ _ rfl (by (repeat' (first | (with_reducible exact Below.refl _ _) | (with_reducible assumption) | (with_reducible refine Below.alloc ?_ ?_ _) | (with_reducible refine below_drewN ?_ _) | (with_reducible refine Below.drew ?_) | (with_reducible refine Below.setCell ?_ ?_ _) | (with_reducible refine below_call (by assumption) ?_ ?_) | go_size)))
                · (intro v w1 K hb hF hK; (try simp at hF); simp at hK; (try simp only [hF] at hK); have hz := hb.size; (try simp at hz))
                  go_simp
                  (try simp only [])
                  exact hK _ _ rfl (by (repeat' (first | (with_reducible exact Below.refl _ _) | (with_reducible assumption) | (with_reducible refine Below.alloc ?_ ?_ _) | (with_reducible refine below_drewN ?_ _) | (with_reducible refine Below.drew ?_) | (with_reducible refine Below.setCell ?_ ?_ _) | (with_reducible refine below_call (by assumption) ?_ ?_) | go_size)))
                · (intro v w1 K hb hF hK; (try simp at hF); simp at hK; (try simp only [hF] at hK); have hz := hb.size; (try simp at hz); (try (have hk := bcl hb (b) (by first | omega | (simp; done) | (simp; omega)); have hc := hk.1; have hf := hk.2.1; have hk := hk.2.2)); (try (have hk := bcl hb (ga) (by first | omega | (simp; done) | (simp; omega)); have hc := hk.1; have hf := hk.2.1; have hk := hk.2.2)); (try (have hk := bcl hb (gb) (by first | omega | (simp; done) | (simp; omega)); have hc := hk.1; have hf := hk.2.1; have hk := hk.2.2)))
                  go_simp
                  (try simp only [])
                  exact hK _ _ rfl (by (repeat' (first | (with_reducible exact Below.refl _ _) | (with_reducible assumption) | (with_reducible refine Below.alloc ?_ ?_ _) | (with_reducible refine below_drewN ?_ _) | (with_reducible refine Below.drew ?_) | (with_reducible refine Below.setCell ?_ ?_ _) | (with_reducible refine below_call (by assumption) ?_ ?_) | go_size)))
                · (intro v w1 K hb hF hK; (try simp at hF); simp at hK; (try simp only [hF] at hK); have hz := hb.size; (try simp at hz); (try (have hk := bcl hb (b) (by first | omega | (simp; done) | (simp; omega)); have hc := hk.1; have hf := hk.2.1; have hk := hk.2.2)); (try (have hk := bcl hb (ga) (by first | omega | (simp; done) | (simp; omega)); have hc := hk.1; have hf := hk.2.1; have hk := hk.2.2)); (try (have hk := bcl hb (gb) (by first | omega | (simp; done) | (simp; omega)); have hc := hk.1; have hf := hk.2.1; have hk := hk.2.2)))
                  go_simp
                  (try simp only [])
                  exact hK _ _ rfl (by (repeat' (first | (with_reducible exact Below.refl _ _) | (with_reducible assumption) | (with_reducible refine Below.alloc ?_ ?_ _) | (with_reducible refine below_drewN ?_ _) | (with_reducible refine Below.drew ?_) | (with_reducible refine Below.setCell ?_ ?_ _) | (with_reducible refine below_call (by assumption) ?_ ?_) | go_size)))
                · (intro v w1 K hb hF hK; (try simp at hF); simp at hK; (try simp only [hF] at hK); have hz := hb.size; (try simp at hz); (try (have hk := bcl hb (b) (by first | omega | (simp; done) | (simp; omega)); have hc := hk.1; have hf := hk.2.1; have hk := hk.2.2)); (try (have hk := bcl hb (ga) (by first | omega | (simp; done) | (simp; omega)); have hc := hk.1; have hf := hk.2.1; have hk := hk.2.2)); (try (have hk := bcl hb (gb) (by first | omega | (simp; done) | (simp; omega)); have hc := hk.1; have hf := hk.2.1; have hk := hk.2.2)))
                  go_simp
                  (first | (go_at_call 25; (with_reducible refine (long_eq HPX.out HPU.out RR.out _).mono ?_); rintro e w1 ⟨rfl, hb⟩; have hz := hb.size; (try simp at hz); (try (have hk := bcl hb (b) (by first | omega | (simp; done) | (simp; omega)); have hc := hk.1; have hf := hk.2.1; have hk := hk.2.2)); (try (have hk := bcl hb (ga) (by first | omega | (simp; done) | (simp; omega)); have hc := hk.1; have hf := hk.2.1; have hk := hk.2.2)); (try (have hk := bcl hb (gb) (by first | omega | (simp; done) | (simp; omega)); have hc := hk.1; have hf := hk.2.1; have hk := hk.2.2))) | (go_at_call 24; (with_reducible refine (round_eq (by omega) (by omega) (by omega) (by omega) RX.out _).mono ?_); rintro e w1 ⟨rfl, rfl⟩) | (go_at_call 24; (with_reducible refine (round_eq (by omega) (by omega) (by omega) (by omega) RY.out _).mono ?_); rintro e w1 ⟨rfl, rfl⟩) | skip)
                  (try simp only [])
                  exact hK _ _ rfl (by (repeat' (first | (with_reducible exact Below.refl _ _) | (with_reducible assumption) | (with_reducible refine Below.alloc ?_ ?_ _) | (with_reducible refine below_drewN ?_ _) | (with_reducible refine Below.drew ?_) | (with_reducible refine Below.setCell ?_ ?_ _) | (with_reducible refine below_call (by assumption) ?_ ?_) | go_size)))
                · (intro v w1 K hb hF hK; (try simp at hF); simp at hK; (try simp only [hF] at hK); have hz := hb.size; (try simp at hz); (try (have hk := bcl hb (b) (by first | omega | (simp; done) | (simp; omega)); have hc := hk.1; have hf := hk.2.1; have hk := hk.2.2)); (try (have hk := bcl hb (ga) (by first | omega | (simp; done) | (simp; omega)); have hc := hk.1; have hf := hk.2.1; have hk := hk.2.2)); (try (have hk := bcl hb (gb) (by first | omega | (simp; done) | (simp; omega)); have hc := hk.1; have hf := hk.2.1; have hk := hk.2.2)))
                  go_simp
                  (first | (go_at_call 25; (with_reducible refine (long_eq HPX.out HPU.out RR.out _).mono ?_); rintro e w1 ⟨rfl, hb⟩; have hz := hb.size; (try simp at hz); (try (have hk := bcl hb (b) (by first | omega | (simp; done) | (simp; omega)); have hc := hk.1; have hf := hk.2.1; have hk := hk.2.2)); (try (have hk := bcl hb (ga) (by first | omega | (simp; done) | (simp; omega)); have hc := hk.1; have hf := hk.2.1; have hk := hk.2.2)); (try (have hk := bcl hb (gb) (by first | omega | (simp; done) | (simp; omega)); have hc := hk.1; have hf := hk.2.1; have hk := hk.2.2))) | (go_at_call 24; (with_reducible refine (round_eq (by omega) (by omega) (by omega) (by omega) RX.out _).mono ?_); rintro e w1 ⟨rfl, rfl⟩) | (go_at_call 24; (with_reducible refine (round_eq (by omega) (by omega) (by omega) (by omega) RY.out _).mono ?_); rintro e w1 ⟨rfl, rfl⟩) | skip)
                  (try simp only [])
                  exact hK _ _ rfl (by (repeat' (first | (with_reducible exact Below.refl _ _) | (with_reducible assumption) | (with_reducible refine Below.alloc ?_ ?_ _) | (with_reducible refine below_drewN ?_ _) | (with_reducible refine Below.drew ?_) | (with_reducible refine Below.setCell ?_ ?_ _) | (with_reducible refine below_call (by assumption) ?_ ?_) | go_size)))
              case hfo => exact trivial
              (intro v w1 hb hF; simp [List.range, List.range.loop] at hF; have hz := hb.size; (try simp at hz); (try (have hk := bcl hb (b) (by first | omega | (simp; done) | (simp; omega)); have hc := hk.1; have hf := hk.2.1; have hk := hk.2.2)); (try (have hk := bcl hb (ga) (by first | omega | (simp; done) | (simp; omega)); have hc := hk.1; have hf := hk.2.1; have hk := hk.2.2)); (try (have hk := bcl hb (gb) (by first | omega | (simp; done) | (simp; omega)); have hc := hk.1; have hf := hk.2.1; have hk := hk.2.2)))
              obtain ⟨e0, e1, e2, e3, e4, e5, e6, e7, e8, e9, e10, e11, e12, e13, e14, e15, e16, e17, e18, e19, e20, e21⟩ := hF
              simp only [List.length_cons, List.length_nil, List.drop_succ_cons, List.drop_zero, e0, e1, e2, e3, e4, e5, e6, e7, e8, e9, e10, e11, e12, e13, e14, e15, e16, e17, e18, e19, e20, e21]
              clear e0 e1 e2 e3 e4 e5 e6 e7 e8 e9 e10 e11 e12 e13 e14 e15 e16 e17 e18 e19 e20 e21 v
              have hz8 := hb.size
              have hbw : Below wo.heap.size wo w1 := by (repeat' (first | (with_reducible exact Below.refl _ _) | (with_reducible assumption) | (with_reducible refine Below.alloc ?_ ?_ _) | (with_reducible refine below_drewN ?_ _) | (with_reducible refine Below.drew ?_) | (with_reducible refine Below.setCell ?_ ?_ _) | (with_reducible refine below_call (by assumption) ?_ ?_) | (with_reducible refine below_grown (by assumption) ?_ ?_ ?_) | omega | (simp; done) | (simp; omega)))
              clear hb
              go_wp2_with (at_builtin
                           refine append_ro rfl (.tmp 65) (.tmp 103) rfl w.heap.size _ (linesU l k) (strokeF l half) wo rfl HO.out (by (repeat' (first | (with_reducible exact Below.refl _ _) | (with_reducible assumption) | (with_reducible refine Below.alloc ?_ ?_ _) | (with_reducible refine below_drewN ?_ _) | (with_reducible refine Below.drew ?_) | (with_reducible refine Below.setCell ?_ ?_ _) | (with_reducible refine below_call (by assumption) ?_ ?_) | (with_reducible refine below_grown (by assumption) ?_ ?_ ?_) | omega | (simp; done) | (simp; omega)))) _ 1 _ _ rfl (by (repeat' (first | (with_reducible assumption) | (with_reducible exact blk_new _ _) | (with_reducible exact blk_new1 _ _ _) | (with_reducible exact blk_new2 _ _ _ _) | (with_reducible refine blk_alloc ?_ _) | (with_reducible refine blk_drewN ?_ _) | (with_reducible refine blk_down (by assumption) ?_) | (with_reducible refine blk_up (by assumption) (by omega) ?_) | (with_reducible refine blk_far ?_ _ (by simp; omega))))) ?_ ?_ (by have := linesU_le l k; omega) (by omega) ?_
                           rotate_left 2
                           intro v3 w3 hown3 hg3 hr3)
              · refine ⟨⟨k + 1, by omega, congrArg (Value.int .i64) (by push_cast; omega), by rw [HS1.out]; exact hown3, below_own hg3 (by (repeat' (first | (with_reducible exact Below.refl _ _) | (with_reducible assumption) | (with_reducible refine Below.alloc ?_ ?_ _) | (with_reducible refine below_drewN ?_ _) | (with_reducible refine Below.drew ?_) | (with_reducible refine Below.setCell ?_ ?_ _) | (with_reducible refine below_call (by assumption) ?_ ?_) | (with_reducible refine below_grown (by assumption) ?_ ?_ ?_) | omega | (simp; done) | (simp; omega)))) (by simp; omega) hr3⟩, ?_⟩
                simp [intOf]; omega
              · rw [RF.out]
                exact made4 rfl (by omega) (by (repeat' (first | (with_reducible assumption) | (with_reducible exact blk_new _ _) | (with_reducible exact blk_new1 _ _ _) | (with_reducible exact blk_new2 _ _ _ _) | (with_reducible refine blk_alloc ?_ _) | (with_reducible refine blk_drewN ?_ _) | (with_reducible refine blk_down (by assumption) ?_) | (with_reducible refine blk_up (by assumption) (by omega) ?_) | (with_reducible refine blk_far ?_ _ (by simp; omega)))))
              · rw [RF.out]; rfl
          · clear K1
            generalize ((wo.alloc (.cells #[.int .i64 u, .int .i64 v] 38)).alloc (.cells #[.int .i64 x, .int .i64 y] 38)).drew = w7 at K2 ⊢
            have K := K2
            clear K2
            generalize wo.heap.size + 1 = ga at K ⊢
            generalize wo.heap.size = gb at K ⊢
            obtain ⟨hA, hB, hb7, ga0, gb0⟩ := K
            have hz7 := hb7.size
            have hcA := blk_cell hA
            have hfA := blk_free hA
            have hlA := blk_lt hA
            have hcB := blk_cell hB
            have hfB := blk_free hB
            have hlB := blk_lt hB
            have KA := Lib.hid hA
            have KB := Lib.hid hB
            have HB7 := Lib.hid hb7
            clear hA hB
            by_cases hxy : x = u ∧ y = v
            · obtain ⟨rfl, rfl⟩ := hxy
              have HS1 : Hid (linesU l (k + 1) = linesU l k) := Lib.hid (linesU_same (by rw [PX.out, PU.out]))
              go_wp2
              go_roundw
              case rel => exact ⟨k + 1, by omega, congrArg (Value.int .i64) (by push_cast; omega), by rw [HS1.out]; exact HO.out.below hb7, by (repeat' (first | (with_reducible exact Below.refl _ _) | (with_reducible assumption) | (with_reducible refine Below.alloc ?_ ?_ _) | (with_reducible refine below_drewN ?_ _) | (with_reducible refine Below.drew ?_) | (with_reducible refine Below.setCell ?_ ?_ _) | (with_reducible refine below_call (by assumption) ?_ ?_) | (with_reducible refine below_grown (by assumption) ?_ ?_ ?_) | omega | (simp; done) | (simp; omega)))⟩
              case measure => simp [intOf]; omega
            · have hne : ((x, y) : Pt) ≠ (u, v) := fun h => hxy ⟨congrArg Prod.fst h, congrArg Prod.snd h⟩
              obtain ⟨b1, b2, b3, b4⟩ := barX_small HPX.out HPU.out hne h3 h4
              have HS1 : Hid (linesU l (k + 1) = linesU l k + 1) := Lib.hid (linesU_succ (by rw [PX.out, PU.out]; exact hne))
              have hF := strokeF_at (l := l) (half := half) (k := k) (by rw [HL.out]; omega) (by rw [PX.out, PU.out]; exact hne)
              rw [PX.out, PU.out] at hF
              have hr := rootI_is (dist2_nonneg (x, y) (u, v))
              have hr1 := rootI_pos (dist2_pos hne)
              have hr2 := hr.le (M := 3000) (by omega) (by have := dist2_le HPX.out HPU.out; omega)
              obtain ⟨X, hX⟩ : ∃ X, barX (x, y) (u, v) half = X := ⟨_, rfl⟩
              obtain ⟨Y, hY⟩ : ∃ X, barY (x, y) (u, v) half = X := ⟨_, rfl⟩
              unfold barL at hF
              rw [hX] at b1 b2 hF
              rw [hY] at b3 b4 hF
              unfold barX at hX
              unfold barY at hY
              obtain ⟨r, hrr⟩ : ∃ r, rootI (dist2 (x, y) (u, v)) = r := ⟨_, rfl⟩
              rw [hrr] at hX hY hr hr1 hr2
              simp only at hX hY hF
              obtain ⟨m1, m2⟩ := mul_bar (a := y - v) (b := half) (by omega) (by omega) h3 h4
              obtain ⟨m3, m4⟩ := mul_bar (a := u - x) (b := half) (by omega) (by omega) h3 h4
              have s1 : IntKind.i64.wrap (y - v) = y - v := IntWalk.i64_in _ (by omega)
              have s2 : IntKind.i64.wrap (u - x) = u - x := IntWalk.i64_in _ (by omega)
              have s3 : IntKind.i64.wrap ((y - v) * half) = (y - v) * half := IntWalk.i64_in _ (by omega)
              have s4 : IntKind.i64.wrap ((u - x) * half) = (u - x) * half := IntWalk.i64_in _ (by omega)
              have RX := Lib.hid hX
              have RY := Lib.hid hY
              have RR := Lib.hid hr
              have RF := Lib.hid hF
              have E1 := fun α : Type => iteP_no (α := α) hxy
              have e1 : decide (x = u ∧ y = v) = false := by simpa using hxy
              have e2 : (decide (x = u) && decide (y = v)) = false := by simpa using hxy
              clear hX hY hr hF hrr hne hxy
              go_wp2_with fail
              clear E1 e1 e2
              apply wp_region_pure (by kernel_rfl) ([] :: [0] :: [] :: [2] :: [1, 3] :: [] :: [4, 5] :: [] :: [] :: [7, 8] :: [6, 9] :: [] :: [11] :: [] :: [13] :: [12, 14] :: [] :: [15, 16] :: [] :: [] :: [18, 19] :: [17, 20] :: []) (RS.det [] _ :: RS.det [0] _ :: RS.det [] _ :: RS.det [2] _ :: RS.det [1, 3] _ :: RS.det [] _ :: RS.det [4, 5] _ :: RS.det [] _ :: RS.det [] _ :: RS.det [7, 8] _ :: RS.det [6, 9] _ :: RS.det [] _ :: RS.det [11] _ :: RS.det [] _ :: RS.det [13] _ :: RS.det [12, 14] _ :: RS.det [] _ :: RS.det [15, 16] _ :: RS.det [] _ :: RS.det [] _ :: RS.det [18, 19] _ :: RS.det [17, 20] _ :: []) [] rfl (by kernel_rfl) (fun h => absurd rfl h) (by kernel_rfl) (by kernel_rfl) (st_det (st_det (st_det (st_det (st_det (st_det (st_det (st_det (st_det (st_det (st_det (st_det (st_det (st_det (st_det (st_det (st_det (st_det (st_det (st_det (st_det (st_det st_nil)))))))))))))))))))))) _ (fun v => by simp; rfl)
              case hop =>
                simp only [Obls]
                refine ⟨?_, ?_, ?_, ?_, ?_, ?_, ?_, ?_, ?_, ?_, ?_, ?_, ?_, ?_, ?_, ?_, ?_, ?_, ?_, ?_, ?_, ?_, trivial⟩
                · (intro v w1 K hb hF hK; (try simp at hF); simp at hK; (try simp only [hF] at hK); have hz := hb.size; (try simp at hz))
                  go_simp
                  (try simp only [])
                  exact hK _ _ rfl (by (repeat' (first | (with_reducible exact Below.refl _ _) | (with_reducible assumption) | (with_reducible refine Below.alloc ?_ ?_ _) | (with_reducible refine below_drewN ?_ _) | (with_reducible refine Below.drew ?_) | (with_reducible refine Below.setCell ?_ ?_ _) | (with_reducible refine below_call (by assumption) ?_ ?_) | go_size)))
                · (intro v w1 K hb hF hK; (try simp at hF); simp at hK; (try simp only [hF] at hK); have hz := hb.size; (try simp at hz); (try (have hk := bcl hb (b) (by first | omega | (simp; done) | (simp; omega)); have hc := hk.1; have hf := hk.2.1; have hk := hk.2.2)); (try (have hk := bcl hb (ga) (by first | omega | (simp; done) | (simp; omega)); have hc := hk.1; have hf := hk.2.1; have hk := hk.2.2)); (try (have hk := bcl hb (gb) (by first | omega | (simp; done) | (simp; omega)); have hc := hk.1; have hf := hk.2.1; have hk := hk.2.2)))
                  go_simp
                  (try simp only [])
                  exact hK _ _ rfl (by (repeat' (first | (with_reducible exact Below.refl _ _) | (with_reducible assumption) | (with_reducible refine Below.alloc ?_ ?_ _) | (with_reducible refine below_drewN ?_ _) | (with_reducible refine Below.drew ?_) | (with_reducible refine Below.setCell ?_ ?_ _) | (with_reducible refine below_call (by assumption) ?_ ?_) | go_size)))
                · (intro v w1 K hb hF hK; (try simp at hF); simp at hK; (try simp only [hF] at hK); have hz := hb.size; (try simp at hz))
                  go_simp
                  (try simp only [])
                  exact hK _ _ rfl (by (repeat' (first | (with_reducible exact Below.refl _ _) | (with_reducible assumption) | (with_reducible refine Below.alloc ?_ ?_ _) | (with_reducible refine below_drewN ?_ _) | (with_reducible refine Below.drew ?_) | (with_reducible refine Below.setCell ?_ ?_ _) | (with_reducible refine below_call (by assumption) ?_ ?_) | go_size)))
                · (intro v w1 K hb hF hK; (try simp at hF); simp at hK; (try simp only [hF] at hK); have hz := hb.size; (try simp at hz); (try (have hk := bcl hb (b) (by first | omega | (simp; done) | (simp; omega)); have hc := hk.1; have hf := hk.2.1; have hk := hk.2.2)); (try (have hk := bcl hb (ga) (by first | omega | (simp; done) | (simp; omega)); have hc := hk.1; have hf := hk.2.1; have hk := hk.2.2)); (try (have hk := bcl hb (gb) (by first | omega | (simp; done) | (simp; omega)); have hc := hk.1; have hf := hk.2.1; have hk := hk.2.2)))
                  go_simp
                  (try simp only [])
                  exact hK _ _ rfl (by (repeat' (first | (with_reducible exact Below.refl _ _) | (with_reducible assumption) | (with_reducible refine Below.alloc ?_ ?_ _) | (with_reducible refine below_drewN ?_ _) | (with_reducible refine Below.drew ?_) | (with_reducible refine Below.setCell ?_ ?_ _) | (with_reducible refine below_call (by assumption) ?_ ?_) | go_size)))
                · (intro v w1 K hb hF hK; (try simp at hF); simp at hK; (try simp only [hF] at hK); have hz := hb.size; (try simp at hz))
                  go_simp
                  (try simp only [])
                  exact hK _ _ rfl (by (repeat' (first | (with_reducible exact Below.refl _ _) | (with_reducible assumption) | (with_reducible refine Below.alloc ?_ ?_ _) | (with_reducible refine below_drewN ?_ _) | (with_reducible refine Below.drew ?_) | (with_reducible refine Below.setCell ?_ ?_ _) | (with_reducible refine below_call (by assumption) ?_ ?_) | go_size)))
                · (intro v w1 K hb hF hK; (try simp at hF); simp at hK; (try simp only [hF] at hK); have hz := hb.size; (try simp at hz))
                  go_simp
                  (try simp only [])
                  exact hK _ _ rfl (by (repeat' (first | (with_reducible exact Below.refl _ _) | (with_reducible assumption) | (with_reducible refine Below.alloc ?_ ?_ _) | (with_reducible refine below_drewN ?_ _) | (with_reducible refine Below.drew ?_) | (with_reducible refine Below.setCell ?_ ?_ _) | (with_reducible refine below_call (by assumption) ?_ ?_) | go_size)))
                · (intro v w1 K hb hF hK; (try simp at hF); simp at hK; (try simp only [hF] at hK); have hz := hb.size; (try simp at hz))
                  go_simp
                  (try simp only [])
                  exact hK _ _ rfl (by (repeat' (first | (with_reducible exact Below.refl _ _) | (with_reducible assumption) | (with_reducible refine Below.alloc ?_ ?_ _) | (with_reducible refine below_drewN ?_ _) | (with_reducible refine Below.drew ?_) | (with_reducible refine Below.setCell ?_ ?_ _) | (with_reducible refine below_call (by assumption) ?_ ?_) | go_size)))
                · (intro v w1 K hb hF hK; (try simp at hF); simp at hK; (try simp only [hF] at hK); have hz := hb.size; (try simp at hz); (try (have hk := bcl hb (b) (by first | omega | (simp; done) | (simp; omega)); have hc := hk.1; have hf := hk.2.1; have hk := hk.2.2)); (try (have hk := bcl hb (ga) (by first | omega | (simp; done) | (simp; omega)); have hc := hk.1; have hf := hk.2.1; have hk := hk.2.2)); (try (have hk := bcl hb (gb) (by first | omega | (simp; done) | (simp; omega)); have hc := hk.1; have hf := hk.2.1; have hk := hk.2.2)))
                  go_simp
                  (try simp only [])
                  exact hK _ _ rfl (by (repeat' (first | (with_reducible exact Below.refl _ _) | (with_reducible assumption) | (with_reducible refine Below.alloc ?_ ?_ _) | (with_reducible refine below_drewN ?_ _) | (with_reducible refine Below.drew ?_) | (with_reducible refine Below.setCell ?_ ?_ _) | (with_reducible refine below_call (by assumption) ?_ ?_) | go_size)))
                · (intro v w1 K hb hF hK; (try simp at hF); simp at hK; (try simp only [hF] at hK); have hz := hb.size; (try simp at hz); (try (have hk := bcl hb (b) (by first | omega | (simp; done) | (simp; omega)); have hc := hk.1; have hf := hk.2.1; have hk := hk.2.2)); (try (have hk := bcl hb (ga) (by first | omega | (simp; done) | (simp; omega)); have hc := hk.1; have hf := hk.2.1; have hk := hk.2.2)); (try (have hk := bcl hb (gb) (by first | omega | (simp; done) | (simp; omega)); have hc := hk.1; have hf := hk.2.1; have hk := hk.2.2)))
                  go_simp
                  (try simp only [])
                  exact hK _ _ rfl (by (repeat' (first | (with_reducible exact Below.refl _ _) | (with_reducible assumption) | (with_reducible refine Below.alloc ?_ ?_ _) | (with_reducible refine below_drewN ?_ _) | (with_reducible refine Below.drew ?_) | (with_reducible refine Below.setCell ?_ ?_ _) | (with_reducible refine below_call (by assumption) ?_ ?_) | go_size)))
                · (intro v w1 K hb hF hK; (try simp at hF); simp at hK; (try simp only [hF] at hK); have hz := hb.size; (try simp at hz); (try (have hk := bcl hb (b) (by first | omega | (simp; done) | (simp; omega)); have hc := hk.1; have hf := hk.2.1; have hk := hk.2.2)); (try (have hk := bcl hb (ga) (by first | omega | (simp; done) | (simp; omega)); have hc := hk.1; have hf := hk.2.1; have hk := hk.2.2)); (try (have hk := bcl hb (gb) (by first | omega | (simp; done) | (simp; omega)); have hc := hk.1; have hf := hk.2.1; have hk := hk.2.2)))
                  go_simp
                  (first | (go_at_call 25; (with_reducible refine (long_eq HPX.out HPU.out RR.out _).mono ?_); rintro e w1 ⟨rfl, hb⟩; have hz := hb.size; (try simp at hz); (try (have hk := bcl hb (b) (by first | omega | (simp; done) | (simp; omega)); have hc := hk.1; have hf := hk.2.1; have hk := hk.2.2)); (try (have hk := bcl hb (ga) (by first | omega | (simp; done) | (simp; omega)); have hc := hk.1; have hf := hk.2.1; have hk := hk.2.2)); (try (have hk := bcl hb (gb) (by first | omega | (simp; done) | (simp; omega)); have hc := hk.1; have hf := hk.2.1; have hk := hk.2.2))) | (go_at_call 24; (with_reducible refine (round_eq (by omega) (by omega) (by omega) (by omega) RX.out _).mono ?_); rintro e w1 ⟨rfl, rfl⟩) | (go_at_call 24; (with_reducible refine (round_eq (by omega) (by omega) (by omega) (by omega) RY.out _).mono ?_); rintro e w1 ⟨rfl, rfl⟩) | skip)
                  (try simp only [])
                  exact hK _ _ rfl (by (repeat' (first | (with_reducible exact Below.refl _ _) | (with_reducible assumption) | (with_reducible refine Below.alloc ?_ ?_ _) | (with_reducible refine below_drewN ?_ _) | (with_reducible refine Below.drew ?_) | (with_reducible refine Below.setCell ?_ ?_ _) | (with_reducible refine below_call (by assumption) ?_ ?_) | go_size)))
                · (intro v w1 K hb hF hK; (try simp at hF); simp at hK; (try simp only [hF] at hK); have hz := hb.size; (try simp at hz); (try (have hk := bcl hb (b) (by first | omega | (simp; done) | (simp; omega)); have hc := hk.1; have hf := hk.2.1; have hk := hk.2.2)); (try (have hk := bcl hb (ga) (by first | omega | (simp; done) | (simp; omega)); have hc := hk.1; have hf := hk.2.1; have hk := hk.2.2)); (try (have hk := bcl hb (gb) (by first | omega | (simp; done) | (simp; omega)); have hc := hk.1; have hf := hk.2.1; have hk := hk.2.2)))
                  go_simp
                  (first | (go_at_call 25; (with_reducible refine (long_eq HPX.out HPU.out RR.out _).mono ?_); rintro e w1 ⟨rfl, hb⟩; have hz := hb.size; (try simp at hz); (try (have hk := bcl hb (b) (by first | omega | (simp; done) | (simp; omega)); have hc := hk.1; have hf := hk.2.1; have hk := hk.2.2)); (try (have hk := bcl hb (ga) (by first | omega | (simp; done) | (simp; omega)); have hc := hk.1; have hf := hk.2.1; have hk := hk.2.2)); (try (have hk := bcl hb (gb) (by first | omega | (simp; done) | (simp; omega)); have hc := hk.1; have hf := hk.2.1; have hk := hk.2.2))) | (go_at_call 24; (with_reducible refine (round_eq (by omega) (by omega) (by omega) (by omega) RX.out _).mono ?_); rintro e w1 ⟨rfl, rfl⟩) | (go_at_call 24; (with_reducible refine (round_eq (by omega) (by omega) (by omega) (by omega) RY.out _).mono ?_); rintro e w1 ⟨rfl, rfl⟩) | skip)
                  (try simp only [])
                  exact hK _ _ rfl (by (repeat' (first | (with_reducible exact Below.refl _ _) | (with_reducible assumption) | (with_reducible refine Below.alloc ?_ ?_ _) | (with_reducible refine below_drewN ?_ _) | (with_reducible refine Below.drew ?_) | (with_reducible refine Below.setCell ?_ ?_ _) | (with_reducible refine below_call (by assumption) ?_ ?_) | go_size)))
                · (intro v w1 K hb hF hK; (try simp at hF); simp at hK; (try simp only [hF] at hK); have hz := hb.size; (try simp at hz))
                  go_simp
                  (try simp only [])
                  exact hK _ _ rfl (by (repeat' (first | (with_reducible exact Below.refl _ _) | (with_reducible assumption) | (with_reducible refine Below.alloc ?_ ?_ _) | (with_reducible refine below_drewN ?_ _) | (with_reducible refine Below.drew ?_) | (with_reducible refine Below.setCell ?_ ?_ _) | (with_reducible refine below_call (by assumption) ?_ ?_) | go_size)))
                · (intro v w1 K hb hF hK; (try simp at hF); simp at hK; (try simp only [hF] at hK); have hz := hb.size; (try simp at hz); (try (have hk := bcl hb (b) (by first | omega | (simp; done) | (simp; omega)); have hc := hk.1; have hf := hk.2.1; have hk := hk.2.2)); (try (have hk := bcl hb (ga) (by first | omega | (simp; done) | (simp; omega)); have hc := hk.1; have hf := hk.2.1; have hk := hk.2.2)); (try (have hk := bcl hb (gb) (by first | omega | (simp; done) | (simp; omega)); have hc := hk.1; have hf := hk.2.1; have hk := hk.2.2)))
                  go_simp
                  (try simp only [])
                  exact hK _ _ rfl (by (repeat' (first | (with_reducible exact Below.refl _ _) | (with_reducible assumption) | (with_reducible refine Below.alloc ?_ ?_ _) | (with_reducible refine below_drewN ?_ _) | (with_reducible refine Below.drew ?_) | (with_reducible refine Below.setCell ?_ ?_ _) | (with_reducible refine below_call (by assumption) ?_ ?_) | go_size)))
                · (intro v w1 K hb hF hK; (try simp at hF); simp at hK; (try simp only [hF] at hK); have hz := hb.size; (try simp at hz))
                  go_simp
                  (try simp only [])
                  exact hK _ _ rfl (by (repeat' (first | (with_reducible exact Below.refl _ _) | (with_reducible assumption) | (with_reducible refine Below.alloc ?_ ?_ _) | (with_reducible refine below_drewN ?_ _) | (with_reducible refine Below.drew ?_) | (with_reducible refine Below.setCell ?_ ?_ _) | (with_reducible refine below_call (by assumption) ?_ ?_) | go_size)))
                · (intro v w1 K hb hF hK; (try simp at hF); simp at hK; (try simp only [hF] at hK); have hz := hb.size; (try simp at hz); (try (have hk := bcl hb (b) (by first | omega | (simp; done) | (simp; omega)); have hc := hk.1; have hf := hk.2.1; have hk := hk.2.2)); (try (have hk := bcl hb (ga) (by first | omega | (simp; done) | (simp; omega)); have hc := hk.1; have hf := hk.2.1; have hk := hk.2.2)); (try (have hk := bcl hb (gb) (by first | omega | (simp; done) | (simp; omega)); have hc := hk.1; have hf := hk.2.1; have hk := hk.2.2)))
                  go_simp
                  (try simp only [])
                  exact hK _ _ rfl (by (repeat' (first | (with_reducible exact Below.refl _ _) | (with_reducible assumption) | (with_reducible refine Below.alloc ?_ ?_ _) | (with_reducible refine below_drewN ?_ _) | (with_reducible refine Below.drew ?_) | (with_reducible refine Below.setCell ?_ ?_ _) | (with_reducible refine below_call (by assumption) ?_ ?_) | go_size)))
                · (intro v w1 K hb hF hK; (try simp at hF); simp at hK; (try simp only [hF] at hK); have hz := hb.size; (try simp at hz))
                  go_simp
                  (try simp only [])
                  exact hK _ _ rfl (by (repeat' (first | (with_reducible exact Below.refl _ _) | (with_reducible assumption) | (with_reducible refine Below.alloc ?_ ?_ _) | (with_reducible refine below_drewN ?_ _) | (with_reducible refine Below.drew ?_) | (with_reducible refine Below.setCell ?_ ?_ _) | (with_reducible refine below_call (by assumption) ?_ ?_) | go_size)))
                · (intro v w1 K hb hF hK; (try simp at hF); simp at hK; (try simp only [hF] at hK); have hz := hb.size; (try simp at hz))
                  go_simp
                  (try simp only [])
                  exact hK _ _ rfl (by (repeat' (first | (with_reducible exact Below.refl _ _) | (with_reducible assumption) | (with_reducible refine Below.alloc ?_ ?_ _) | (with_reducible refine below_drewN ?_ _) | (with_reducible refine Below.drew ?_) | (with_reducible refine Below.setCell ?_ ?_ _) | (with_reducible refine below_call (by assumption) ?_ ?_) | go_size)))
                · (intro v w1 K hb hF hK; (try simp at hF); simp at hK; (try simp only [hF] at hK); have hz := hb.size; (try simp at hz))
                  go_simp
                  (try simp only [])
                  exact hK _ _ rfl (by (repeat' (first | (with_reducible exact Below.refl _ _) | (with_reducible assumption) | (with_reducible refine Below.alloc ?_ ?_ _) | (with_reducible refine below_drewN ?_ _) | (with_reducible refine Below.drew ?_) | (with_reducible refine Below.setCell ?_ ?_ _) | (with_reducible refine below_call (by assumption) ?_ ?_) | go_size)))
                · (intro v w1 K hb hF hK; (try simp at hF); simp at hK; (try simp only [hF] at hK); have hz := hb.size; (try simp at hz); (try (have hk := bcl hb (b) (by first | omega | (simp; done) | (simp; omega)); have hc := hk.1; have hf := hk.2.1; have hk := hk.2.2)); (try (have hk := bcl hb (ga) (by first | omega | (simp; done) | (simp; omega)); have hc := hk.1; have hf := hk.2.1; have hk := hk.2.2)); (try (have hk := bcl hb (gb) (by first | omega | (simp; done) | (simp; omega)); have hc := hk.1; have hf := hk.2.1; have hk := hk.2.2)))
                  go_simp
                  (try simp only [])
                  exact hK _ _ rfl (by (repeat' (first | (with_reducible exact Below.refl _ _) | (with_reducible assumption) | (with_reducible refine Below.alloc ?_ ?_ _) | (with_reducible refine below_drewN ?_ _) | (with_reducible refine Below.drew ?_) | (with_reducible refine Below.setCell ?_ ?_ _) | (with_reducible refine below_call (by assumption) ?_ ?_) | go_size)))
                · (intro v w1 K hb hF hK; (try simp at hF); simp at hK; (try simp only [hF] at hK); have hz := hb.size; (try simp at hz); (try (have hk := bcl hb (b) (by first | omega | (simp; done) | (simp; omega)); have hc := hk.1; have hf := hk.2.1; have hk := hk.2.2)); (try (have hk := bcl hb (ga) (by first | omega | (simp; done) | (simp; omega)); have hc := hk.1; have hf := hk.2.1; have hk := hk.2.2)); (try (have hk := bcl hb (gb) (by first | omega | (simp; done) | (simp; omega)); have hc := hk.1; have hf := hk.2.1; have hk := hk.2.2)))
                  go_simp
                  (try simp only [])
                  exact hK _ _ rfl (by (repeat' (first | (with_reducible exact Below.refl _ _) | (with_reducible assumption) | (with_reducible refine Below.alloc ?_ ?_ _) | (with_reducible refine below_drewN ?_ _) | (with_reducible refine Below.drew ?_) | (with_reducible refine Below.setCell ?_ ?_ _) | (with_reducible refine below_call (by assumption) ?_ ?_) | go_size)))
                · (intro v w1 K hb hF hK; (try simp at hF); simp at hK; (try simp only [hF] at hK); have hz := hb.size; (try simp at hz); (try (have hk := bcl hb (b) (by first | omega | (simp; done) | (simp; omega)); have hc := hk.1; have hf := hk.2.1; have hk := hk.2.2)); (try (have hk := bcl hb (ga) (by first | omega | (simp; done) | (simp; omega)); have hc := hk.1; have hf := hk.2.1; have hk := hk.2.2)); (try (have hk := bcl hb (gb) (by first | omega | (simp; done) | (simp; omega)); have hc := hk.1; have hf := hk.2.1; have hk := hk.2.2)))
                  go_simp
                  (first | (go_at_call 25; (with_reducible refine (long_eq HPX.out HPU.out RR.out _).mono ?_); rintro e w1 ⟨rfl, hb⟩; have hz := hb.size; (try simp at hz); (try (have hk := bcl hb (b) (by first | omega | (simp; done) | (simp; omega)); have hc := hk.1; have hf := hk.2.1; have hk := hk.2.2)); (try (have hk := bcl hb (ga) (by first | omega | (simp; done) | (simp; omega)); have hc := hk.1; have hf := hk.2.1; have hk := hk.2.2)); (try (have hk := bcl hb (gb) (by first | omega | (simp; done) | (simp; omega)); have hc := hk.1; have hf := hk.2.1; have hk := hk.2.2))) | (go_at_call 24; (with_reducible refine (round_eq (by omega) (by omega) (by omega) (by omega) RX.out _).mono ?_); rintro e w1 ⟨rfl, rfl⟩) | (go_at_call 24; (with_reducible refine (round_eq (by omega) (by omega) (by omega) (by omega) RY.out _).mono ?_); rintro e w1 ⟨rfl, rfl⟩) | skip)
                  (try simp only [])
                  exact hK _ _ rfl (by (repeat' (first | (with_reducible exact Below.refl _ _) | (with_reducible assumption) | (with_reducible refine Below.alloc ?_ ?_ _) | (with_reducible refine below_drewN ?_ _) | (with_reducible refine Below.drew ?_) | (with_reducible refine Below.setCell ?_ ?_ _) | (with_reducible refine below_call (by assumption) ?_ ?_) | go_size)))
                · (intro v w1 K hb hF hK; (try simp at hF); simp at hK; (try simp only [hF] at hK); have hz := hb.size; (try simp at hz); (try (have hk := bcl hb (b) (by first | omega | (simp; done) | (simp; omega)); have hc := hk.1; have hf := hk.2.1; have hk := hk.2.2)); (try (have hk := bcl hb (ga) (by first | omega | (simp; done) | (simp; omega)); have hc := hk.1; have hf := hk.2.1; have hk := hk.2.2)); (try (have hk := bcl hb (gb) (by first | omega | (simp; done) | (simp; omega)); have hc := hk.1; have hf := hk.2.1; have hk := hk.2.2)))
                  go_simp
                  (first | (go_at_call 25; (with_reducible refine (long_eq HPX.out HPU.out RR.out _).mono ?_); rintro e w1 ⟨rfl, hb⟩; have hz := hb.size; (try simp at hz); (try (have hk := bcl hb (b) (by first | omega | (simp; done) | (simp; omega)); have hc := hk.1; have hf := hk.2.1; have hk := hk.2.2)); (try (have hk := bcl hb (ga) (by first | omega | (simp; done) | (simp; omega)); have hc := hk.1; have hf := hk.2.1; have hk := hk.2.2)); (try (have hk := bcl hb (gb) (by first | omega | (simp; done) | (simp; omega)); have hc := hk.1; have hf := hk.2.1; have hk := hk.2.2))) | (go_at_call 24; (with_reducible refine (round_eq (by omega) (by omega) (by omega) (by omega) RX.out _).mono ?_); rintro e w1 ⟨rfl, rfl⟩) | (go_at_call 24; (with_reducible refine (round_eq (by omega) (by omega) (by omega) (by omega) RY.out _).mono ?_); rintro e w1 ⟨rfl, rfl⟩) | skip)
                  (try simp only [])
                  exact hK _ _ rfl (by (repeat' (first | (with_reducible exact Below.refl _ _) | (with_reducible assumption) | (with_reducible refine Below.alloc ?_ ?_ _) | (with_reducible refine below_drewN ?_ _) | (with_reducible refine Below.drew ?_) | (with_reducible refine Below.setCell ?_ ?_ _) | (with_reducible refine below_call (by assumption) ?_ ?_) | go_size)))
              case hfo => exact trivial
              (intro v w1 hb hF; simp [List.range, List.range.loop] at hF; have hz := hb.size; (try simp at hz); (try (have hk := bcl hb (b) (by first | omega | (simp; done) | (simp; omega)); have hc := hk.1; have hf := hk.2.1; have hk := hk.2.2)); (try (have hk := bcl hb (ga) (by first | omega | (simp; done) | (simp; omega)); have hc := hk.1; have hf := hk.2.1; have hk := hk.2.2)); (try (have hk := bcl hb (gb) (by first | omega | (simp; done) | (simp; omega)); have hc := hk.1; have hf := hk.2.1; have hk := hk.2.2)))
              obtain ⟨e0, e1, e2, e3, e4, e5, e6, e7, e8, e9, e10, e11, e12, e13, e14, e15, e16, e17, e18, e19, e20, e21⟩ := hF
              simp only [List.length_cons, List.length_nil, List.drop_succ_cons, List.drop_zero, e0, e1, e2, e3, e4, e5, e6, e7, e8, e9, e10, e11, e12, e13, e14, e15, e16, e17, e18, e19, e20, e21]
              clear e0 e1 e2 e3 e4 e5 e6 e7 e8 e9 e10 e11 e12 e13 e14 e15 e16 e17 e18 e19 e20 e21 v
              have hz8 := hb.size
              have hbw : Below wo.heap.size wo w1 := by (repeat' (first | (with_reducible exact Below.refl _ _) | (with_reducible assumption) | (with_reducible refine Below.alloc ?_ ?_ _) | (with_reducible refine below_drewN ?_ _) | (with_reducible refine Below.drew ?_) | (with_reducible refine Below.setCell ?_ ?_ _) | (with_reducible refine below_call (by assumption) ?_ ?_) | (with_reducible refine below_grown (by assumption) ?_ ?_ ?_) | omega | (simp; done) | (simp; omega)))
              clear hb
              go_wp2_with (at_builtin
                           refine append_ro rfl (.tmp 65) (.tmp 103) rfl w.heap.size _ (linesU l k) (strokeF l half) wo rfl HO.out (by (repeat' (first | (with_reducible exact Below.refl _ _) | (with_reducible assumption) | (with_reducible refine Below.alloc ?_ ?_ _) | (with_reducible refine below_drewN ?_ _) | (with_reducible refine Below.drew ?_) | (with_reducible refine Below.setCell ?_ ?_ _) | (with_reducible refine below_call (by assumption) ?_ ?_) | (with_reducible refine below_grown (by assumption) ?_ ?_ ?_) | omega | (simp; done) | (simp; omega)))) _ 1 _ _ rfl (by (repeat' (first | (with_reducible assumption) | (with_reducible exact blk_new _ _) | (with_reducible exact blk_new1 _ _ _) | (with_reducible exact blk_new2 _ _ _ _) | (with_reducible refine blk_alloc ?_ _) | (with_reducible refine blk_drewN ?_ _) | (with_reducible refine blk_down (by assumption) ?_) | (with_reducible refine blk_up (by assumption) (by omega) ?_) | (with_reducible refine blk_far ?_ _ (by simp; omega))))) ?_ ?_ (by have := linesU_le l k; omega) (by omega) ?_
                           rotate_left 2
                           intro v3 w3 hown3 hg3 hr3)
              · refine ⟨⟨k + 1, by omega, congrArg (Value.int .i64) (by push_cast; omega), by rw [HS1.out]; exact hown3, below_own hg3 (by (repeat' (first | (with_reducible exact Below.refl _ _) | (with_reducible assumption) | (with_reducible refine Below.alloc ?_ ?_ _) | (with_reducible refine below_drewN ?_ _) | (with_reducible refine Below.drew ?_) | (with_reducible refine Below.setCell ?_ ?_ _) | (with_reducible refine below_call (by assumption) ?_ ?_) | (with_reducible refine below_grown (by assumption) ?_ ?_ ?_) | omega | (simp; done) | (simp; omega)))) (by simp; omega) hr3⟩, ?_⟩
                simp [intOf]; omega
              · rw [RF.out]
                exact made4 rfl (by omega) (by (repeat' (first | (with_reducible assumption) | (with_reducible exact blk_new _ _) | (with_reducible exact blk_new1 _ _ _) | (with_reducible exact blk_new2 _ _ _ _) | (with_reducible refine blk_alloc ?_ _) | (with_reducible refine blk_drewN ?_ _) | (with_reducible refine blk_down (by assumption) ?_) | (with_reducible refine blk_up (by assumption) (by omega) ?_) | (with_reducible refine blk_far ?_ _ (by simp; omega)))))
              · rw [RF.out]; rfl
        · have eb : decide (((k + 1 : Nat) : Int) < n) = false := decide_eq_false (by omega)
          have eb2 : decide ((k : Int) + 1 < n) = false := decide_eq_false (by omega)
          have eb3 : ¬ (k : Int) + 1 < n := by omega
          have hlast : linesU l k = (strokeL l half).length := by rw [strokeL_len]; congr 1; omega
          obtain ⟨N, hN⟩ : ∃ N, linesU l k = N := ⟨_, rfl⟩
          have hN8 : N ≤ 8 := by rw [← hN]; have := linesU_le l k; omega
          rw [hN] at HO hlast
          obtain ⟨A1, c1, rfl, k1, k2⟩ := HO.out.weak.form
          have HI : Hid (IsRs wo A1 N (strokeL l half)) := Lib.hid (HO.out.weak.isRs hlast.symm fun i r hr => by rw [strokeF, List.getD_eq_getElem?_getD, hr]; rfl)
          have hsR : Hid (sizeR (strokeL l half) ≤ 1048576) := Lib.hid (by rw [sizeR, ringsLen_four (strokeL l half) (strokeU_four l half _), ← hlast]; omega)
          have HLen := Lib.hid hlast
          obtain ⟨u, hu⟩ : ∃ u, ringsOk (strokeL l half) = u := ⟨_, rfl⟩
          have HU := Lib.hid hu
          have hou : ok = u := by rw [← HK.out, HS.out, hu]
          subst hou
          have HLL : Hid (ok = true → L = strokeL l half) := Lib.hid fun h => by rw [← HR.out, strokeR_ok (by rw [HK.out]; exact h)]
          have HLN : Hid (ok = false → L = []) := Lib.hid fun h => by rw [← HR.out, strokeR_no (by rw [HK.out]; exact h)]
          clear hN hlast hu
          go_wp2_with fail
          refine (ValidRings_eq c1 HI.out hsR.out HU.out).mono ?_
          rintro e w2 ⟨rfl, hb2⟩
          have hz2 := hb2.size
          cases ok with
          | false =>
            obtain rfl := HLN.out rfl
            go_wp2
            go_ret2
            exact ⟨_, rfl, RetS.none' _ _, by (repeat' (first | (with_reducible exact Below.refl _ _) | (with_reducible assumption) | (with_reducible refine Below.alloc ?_ ?_ _) | (with_reducible refine below_drewN ?_ _) | (with_reducible refine Below.drew ?_) | (with_reducible refine Below.setCell ?_ ?_ _) | (with_reducible refine below_call (by assumption) ?_ ?_) | (with_reducible refine below_grown (by assumption) ?_ ?_ ?_) | omega | (simp; done) | (simp; omega)))⟩
          | true =>
            obtain rfl := HLL.out rfl
            go_wp2_with ((go_at_call 27; (with_reducible refine (ClipS_eq k1 k2 _).mono ?_); rintro e w1 ⟨rfl, rfl⟩))
            go_ret2
            refine ⟨_, rfl, ?_, by (repeat' (first | (with_reducible exact Below.refl _ _) | (with_reducible assumption) | (with_reducible refine Below.alloc ?_ ?_ _) | (with_reducible refine below_drewN ?_ _) | (with_reducible refine Below.drew ?_) | (with_reducible refine Below.setCell ?_ ?_ _) | (with_reducible refine below_call (by assumption) ?_ ?_) | (with_reducible refine below_grown (by assumption) ?_ ?_ ?_) | omega | (simp; done) | (simp; omega)))⟩
            rw [← HLen.out]
            exact (HO.out.weak.clip.2.1).below hb2
    · obtain ⟨rfl, rfl⟩ := stroke_no hok hL (by rw [strokeOk, h1, h2]; simp)
      have H1 := Lib.hid h1
      have H2 := Lib.hid h2
      clear h1 h2 hok hL hl
      go_enter Try.func9, Try.ntmps9
      go_wp2_with fail
      refine (pointsValid_eq c (HP.out.below (by (repeat' (first | (with_reducible exact Below.refl _ _) | (with_reducible assumption) | (with_reducible refine Below.alloc ?_ ?_ _) | (with_reducible refine below_drewN ?_ _) | (with_reducible refine Below.drew ?_) | (with_reducible refine Below.setCell ?_ ?_ _) | (with_reducible refine below_call (by assumption) ?_ ?_) | go_size)))) (by omega) (Hid.out (by with_reducible assumption))).mono ?_
      rintro e w1 ⟨rfl, hb⟩
      go_wp2_with ((go_at_call 23; (with_reducible refine (in_eq (Hid.out (by with_reducible assumption)) _).mono ?_); rintro e w1 ⟨rfl, rfl⟩))
      go_ret2
      exact ⟨_, rfl, RetS.none' _ _, by (repeat' (first | (with_reducible exact Below.refl _ _) | (with_reducible assumption) | (with_reducible refine Below.alloc ?_ ?_ _) | (with_reducible refine below_drewN ?_ _) | (with_reducible refine Below.drew ?_) | (with_reducible refine Below.setCell ?_ ?_ _) | (with_reducible refine below_call (by assumption) ?_ ?_) | (with_reducible refine below_grown (by assumption) ?_ ?_ ?_) | omega | (simp; done) | (simp; omega)))⟩
  · obtain ⟨rfl, rfl⟩ := stroke_no hok hL (by rw [strokeOk, h1]; simp)
    have H1 := Lib.hid h1
    clear h1 hok hL hl
    go_enter Try.func9, Try.ntmps9
    go_wp2_with fail
    refine (pointsValid_eq c (HP.out.below (by (repeat' (first | (with_reducible exact Below.refl _ _) | (with_reducible assumption) | (with_reducible refine Below.alloc ?_ ?_ _) | (with_reducible refine below_drewN ?_ _) | (with_reducible refine Below.drew ?_) | (with_reducible refine Below.setCell ?_ ?_ _) | (with_reducible refine below_call (by assumption) ?_ ?_) | go_size)))) (by omega) (Hid.out (by with_reducible assumption))).mono ?_
    rintro e w1 ⟨rfl, hb⟩
    go_wp2
    go_ret2
    exact ⟨_, rfl, RetS.none' _ _, by (repeat' (first | (with_reducible exact Below.refl _ _) | (with_reducible assumption) | (with_reducible refine Below.alloc ?_ ?_ _) | (with_reducible refine below_drewN ?_ _) | (with_reducible refine Below.drew ?_) | (with_reducible refine Below.setCell ?_ ?_ _) | (with_reducible refine below_call (by assumption) ?_ ?_) | (with_reducible refine below_grown (by assumption) ?_ ?_ ?_) | omega | (simp; done) | (simp; omega)))⟩

end Go.Proofs.Ytbiddmimcdmnoaa
