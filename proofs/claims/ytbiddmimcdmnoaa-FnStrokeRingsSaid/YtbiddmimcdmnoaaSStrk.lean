/-
  StrokeRings of the reference.
-/
import Derived.Test.YtbiddmimcdmnoaaStk
import Derived.Test.YtbiddmimcdmnoaaStrk
namespace Go.Proofs.Ytbiddmimcdmnoaa
open Go.RowKit Pl

set_option linter.unusedSimpArgs false
set_option linter.unusedVariables false

def SlB (base : Nat) (r : List Pt) (v : Value) (w : World) : Prop := ∃ B d, v = .slice B 4 d ∧ OwnP base w (.slice B 4 d) r
theorem SlB.below {base : Nat} {r : List Pt} {v : Value} {w w' : World} (h : SlB base r v w) (hb : Below w.heap.size w w') : SlB base r v w' := by
  obtain ⟨B, d, e, h⟩ := h; exact ⟨B, d, e, h.below hb⟩

set_option maxRecDepth 100000 in
set_option maxHeartbeats 4000000 in
theorem sStrokeRings_eq {A : Option Addr} {n : Nat} {l : List Pt} {half : Int} {w : World} {ok : Bool} {L : List (List Pt)} (c : Nat) (h : IsPts w A n l) (hn : n ≤ 1000000000) (hok : strokeOk l half = ok) (hL : strokeR l half = L) :
    Calls Try.prog 7 #[.slice A n c, .int .i64 half] w (RetS L ok w) := by
  have HP := Lib.hid h
  have hl := h.1
  have HL := Lib.hid hl
  clear h
  rcases Bool.eq_false_or_eq_true (validL l) with h1 | h1
  · by_cases h8 : 8 < n
    · obtain ⟨rfl, rfl⟩ := stroke_no hok hL (by rw [strokeOk, decide_eq_false (by omega)]; rfl)
      have H1 := Lib.hid h1
      clear hok hL hl h1
      have e8 : decide ((8 : Int) < n) = true := decide_eq_true (by omega)
      have e8' : (8 : Int) < n := by omega
      go_enter Try.func7, Try.ntmps7
      go_wp2_with fail
      refine (validPoints_eq c (HP.out.below (by (repeat' (first | (with_reducible exact Below.refl _ _) | (with_reducible assumption) | (with_reducible refine Below.alloc ?_ ?_ _) | (with_reducible refine below_drewN ?_ _) | (with_reducible refine Below.drew ?_) | (with_reducible refine Below.setCell ?_ ?_ _) | (with_reducible refine below_call (by assumption) ?_ ?_) | go_size)))) (by omega) (Hid.out (by with_reducible assumption))).mono ?_
      rintro e w1 ⟨rfl, hb⟩
      go_wp2
      go_ret2
      exact ⟨_, rfl, RetS.none' _ _, by (repeat' (first | (with_reducible exact Below.refl _ _) | (with_reducible assumption) | (with_reducible refine Below.alloc ?_ ?_ _) | (with_reducible refine below_drewN ?_ _) | (with_reducible refine Below.drew ?_) | (with_reducible refine Below.setCell ?_ ?_ _) | (with_reducible refine below_call (by assumption) ?_ ?_) | (with_reducible refine below_grown (by assumption) ?_ ?_ ?_) | omega | (simp; done) | (simp; omega)))⟩
    have e8 : decide ((8 : Int) < n) = false := decide_eq_false (by omega)
    rcases Bool.eq_false_or_eq_true (inB half 1 100) with h2 | h2
    · have hst : strokeOk l half = ringsOk (strokeL l half) := by rw [strokeOk, h1, h2, decide_eq_true (by omega)]; rfl
      have e2 := inB_true.1 h2
      have hv := (validL_iff.1 h1).2
      have H1 := Lib.hid h1
      have H2 := Lib.hid h2
      have HV := Lib.hid hv
      have HS := Lib.hid hst
      have HK := Lib.hid hok
      have HR := Lib.hid hL
      clear h1 h2 hst hv hok hL
      go_enter Try.func7, Try.ntmps7
      go_wp2_with fail
      refine (validPoints_eq c (HP.out.below (by (repeat' (first | (with_reducible exact Below.refl _ _) | (with_reducible assumption) | (with_reducible refine Below.alloc ?_ ?_ _) | (with_reducible refine below_drewN ?_ _) | (with_reducible refine Below.drew ?_) | (with_reducible refine Below.setCell ?_ ?_ _) | (with_reducible refine below_call (by assumption) ?_ ?_) | go_size)))) (by omega) (Hid.out (by with_reducible assumption))).mono ?_
      rintro e w1 ⟨rfl, hb⟩
      have hz1 := hb.size
      simp at hz1
      have HE : Hid (OwnRL w.heap.size w1 (.slice (some ⟨w.heap.size, 0, none⟩) 0 0) 0 (strokeF l half)) := Lib.hid (OwnRL.empty rfl (Nat.le_refl _) (by (repeat' (first | (with_reducible assumption) | (with_reducible exact blk_new _ _) | (with_reducible exact blk_new1 _ _ _) | (with_reducible exact blk_new2 _ _ _ _) | (with_reducible refine blk_alloc ?_ _) | (with_reducible refine blk_drewN ?_ _) | (with_reducible refine blk_down (by assumption) ?_) | (with_reducible refine blk_up (by assumption) (by omega) ?_) | (with_reducible refine blk_far ?_ _ (by simp; omega))))) _)
      go_wp2_with ((go_at_call 18; (with_reducible refine (inRange_eq (Hid.out (by with_reducible assumption)) _).mono ?_); rintro e w1 ⟨rfl, rfl⟩))
      go_loopw [6, 7] (fun v i wr => ∃ k : Nat, (k + 1 ≤ n ∨ k = 0) ∧ i = .int .i64 ((k + 1 : Nat) : Int) ∧ OwnRL w.heap.size wr v (linesU l k) (strokeF l half) ∧ Below w.heap.size w wr) (fun _ i _ => n - (intOf i).toNat)
      case atStart => exact ⟨0, by omega, rfl, HE.out, by (repeat' (first | (with_reducible exact Below.refl _ _) | (with_reducible assumption) | (with_reducible refine Below.alloc ?_ ?_ _) | (with_reducible refine below_drewN ?_ _) | (with_reducible refine Below.drew ?_) | (with_reducible refine Below.setCell ?_ ?_ _) | (with_reducible refine below_call (by assumption) ?_ ?_) | (with_reducible refine below_grown (by assumption) ?_ ?_ ?_) | omega | (simp; done) | (simp; omega)))⟩
      case round =>
        obtain ⟨wo, rfl⟩ : ∃ wo : World, wo = wr := ⟨_, rfl⟩
        obtain ⟨k, hk, rfl, hown, hbel⟩ := hrel
        have hsz := hbel.size
        have HO := Lib.hid hown
        clear hown HE
        by_cases hlt : k + 1 < n
        · have hp0 := HV.out k
          have hp1 := HV.out (k + 1)
          obtain ⟨b, o, rfl, hbl, c00, c01⟩ := (HP.out.below hbel).at_ (k := k) (by omega)
          obtain ⟨b', o', e, _, c10, c11⟩ := (HP.out.below hbel).at_ (k := k + 1) hlt
          cases e
          obtain ⟨x, hx⟩ : ∃ x, px l k = x := ⟨_, rfl⟩
          obtain ⟨y, hy⟩ : ∃ x, py l k = x := ⟨_, rfl⟩
          obtain ⟨u, hu⟩ : ∃ x, px l (k + 1) = x := ⟨_, rfl⟩
          obtain ⟨v, hv⟩ : ∃ x, py l (k + 1) = x := ⟨_, rfl⟩
          rw [hx] at c00
          rw [hy] at c01
          rw [hu] at c10
          rw [hv] at c11
          obtain ⟨j, hj⟩ : ∃ j, k + 1 = j := ⟨_, rfl⟩
          rw [hj] at c10 c11 hlt ⊢
          have eb : decide ((j : Int) < n) = true := decide_eq_true (by omega)
          have hki : (j : Int) < n := by omega
          have hkn : (k : Int) < n := by omega
          have PX : Hid (ptA l k = (x, y)) := Lib.hid (by rw [ptA, hx, hy])
          have PU : Hid (ptA l (k + 1) = (u, v)) := Lib.hid (by rw [ptA, hu, hv])
          have HPX : Hid (ptB (x, y) = true) := Lib.hid (by have := hp0 (by rw [HL.out]; omega); simp only [inBx, unitBx, pt, hx, hy] at this; exact ptB_true.2 (by omega))
          have HPU : Hid (ptB (u, v) = true) := Lib.hid (by have := hp1 (by rw [HL.out]; omega); simp only [inBx, unitBx, pt, hu, hv] at this; exact ptB_true.2 (by omega))
          obtain ⟨h3, h4⟩ := e2
          clear hx hy hu hv hp0 hp1
          have t1 : IntKind.i64.wrap ((j : Int) - 1) = (k : Int) := by rw [IntWalk.i64_in _ (by omega)]; omega
          by_cases hxy : u = x ∧ v = y
          · obtain ⟨rfl, rfl⟩ := hxy
            have HS1 : Hid (linesU l (k + 1) = linesU l k) := Lib.hid (linesU_same (by rw [PX.out, PU.out]))
            go_wp2_with fail
            go_quiet (fail)
            go_wp2
            go_roundw
            case rel => exact ⟨k + 1, by omega, congrArg (Value.int .i64) (by push_cast; omega), by rw [HS1.out]; exact HO.out.below (by (repeat' (first | (with_reducible exact Below.refl _ _) | (with_reducible assumption) | (with_reducible refine Below.alloc ?_ ?_ _) | (with_reducible refine below_drewN ?_ _) | (with_reducible refine Below.drew ?_) | (with_reducible refine Below.setCell ?_ ?_ _) | (with_reducible refine below_call (by assumption) ?_ ?_) | (with_reducible refine below_grown (by assumption) ?_ ?_ ?_) | omega | (simp; done) | (simp; omega)))), by (repeat' (first | (with_reducible exact Below.refl _ _) | (with_reducible assumption) | (with_reducible refine Below.alloc ?_ ?_ _) | (with_reducible refine below_drewN ?_ _) | (with_reducible refine Below.drew ?_) | (with_reducible refine Below.setCell ?_ ?_ _) | (with_reducible refine below_call (by assumption) ?_ ?_) | (with_reducible refine below_grown (by assumption) ?_ ?_ ?_) | omega | (simp; done) | (simp; omega)))⟩
            case measure => simp [intOf]; omega
          · have hne : ((x, y) : Pt) ≠ (u, v) := fun h => hxy ⟨(congrArg Prod.fst h).symm, (congrArg Prod.snd h).symm⟩
            have HS1 : Hid (linesU l (k + 1) = linesU l k + 1) := Lib.hid (linesU_succ (by rw [PX.out, PU.out]; exact hne))
            have hF := strokeF_at (l := l) (half := half) (k := k) (by rw [HL.out]; omega) (by rw [PX.out, PU.out]; exact hne)
            rw [PX.out, PU.out] at hF
            have RF := Lib.hid hF
            have HNE := Lib.hid hne
            have E1 := fun α : Type => iteP_no (α := α) hxy
            have e1 : decide (u = x ∧ v = y) = false := by simpa using hxy
            have e2 : (decide (u = x) && decide (v = y)) = false := by simpa using hxy
            clear hF hne hxy
            go_wp2_with fail
            go_quiet (fail)
            go_wp2_with fail
            clear E1 e1 e2
            apply wp_region_pure (by kernel_rfl) ([] :: [] :: [] :: [2] :: [1, 3] :: [4] :: [] :: [] :: [6, 7] :: [8] :: [] :: [5, 9, 10] :: []) (RS.det [] _ :: RS.det [] _ :: RS.det [] _ :: RS.det [2] _ :: RS.det [1, 3] _ :: RS.det [4] _ :: RS.det [] _ :: RS.det [] _ :: RS.det [6, 7] _ :: RS.det [8] _ :: RS.det [] _ :: RS.q [5, 9, 10] (SlB wo.heap.size (barL (x, y) (u, v) half)) :: []) [0] rfl (by kernel_rfl) (by intro _ c a d v w h; cases d <;> exact h) (by kernel_rfl) (by kernel_rfl) (st_det (st_det (st_det (st_det (st_det (st_det (st_det (st_det (st_det (st_det (st_det (st_q (fun _ _ _ hR h => SlB.below h hR) st_nil)))))))))))) _ (fun v => by simp; rfl)
            case hop =>
              simp only [Obls]
              refine ⟨?_, ?_, ?_, ?_, ?_, ?_, ?_, ?_, ?_, ?_, ?_, ?_, trivial⟩
              · (intro v w1 K hb hF hK; (try simp at hF); simp at hK; (try simp only [hF] at hK); have hz := hb.size; (try simp at hz))
                go_simp
                (try simp only [])
                exact hK _ _ rfl (by (repeat' (first | (with_reducible exact Below.refl _ _) | (with_reducible assumption) | (with_reducible refine Below.alloc ?_ ?_ _) | (with_reducible refine below_drewN ?_ _) | (with_reducible refine Below.drew ?_) | (with_reducible refine Below.setCell ?_ ?_ _) | (with_reducible refine below_call (by assumption) ?_ ?_) | go_size)))
              · (intro v w1 K hb hF hK; (try simp at hF); simp at hK; (try simp only [hF] at hK); have hz := hb.size; (try simp at hz))
                go_simp
                (try simp only [])
                exact hK _ _ rfl (by (repeat' (first | (with_reducible exact Below.refl _ _) | (with_reducible assumption) | (with_reducible refine Below.alloc ?_ ?_ _) | (with_reducible refine below_drewN ?_ _) | (with_reducible refine Below.drew ?_) | (with_reducible refine Below.setCell ?_ ?_ _) | (with_reducible refine below_call (by assumption) ?_ ?_) | go_size)))
              · (intro v w1 K hb hF hK; (try simp at hF); simp at hK; (try simp only [hF] at hK); have hz := hb.size; (try simp at hz))
                go_simp
                (try simp only [])
                exact hK _ _ rfl (by (repeat' (first | (with_reducible exact Below.refl _ _) | (with_reducible assumption) | (with_reducible refine Below.alloc ?_ ?_ _) | (with_reducible refine below_drewN ?_ _) | (with_reducible refine Below.drew ?_) | (with_reducible refine Below.setCell ?_ ?_ _) | (with_reducible refine below_call (by assumption) ?_ ?_) | go_size)))
              · (intro v w1 K hb hF hK; (try simp at hF); simp at hK; (try simp only [hF] at hK); have hz := hb.size; (try simp at hz))
                go_simp
                (try simp only [])
                exact hK _ _ rfl (by (repeat' (first | (with_reducible exact Below.refl _ _) | (with_reducible assumption) | (with_reducible refine Below.alloc ?_ ?_ _) | (with_reducible refine below_drewN ?_ _) | (with_reducible refine Below.drew ?_) | (with_reducible refine Below.setCell ?_ ?_ _) | (with_reducible refine below_call (by assumption) ?_ ?_) | go_size)))
              · (intro v w1 K hb hF hK; (try simp at hF); simp at hK; (try simp only [hF] at hK); have hz := hb.size; (try simp at hz))
                go_simp
                (try simp only [])
                exact hK _ _ rfl (by (repeat' (first | (with_reducible exact Below.refl _ _) | (with_reducible assumption) | (with_reducible refine Below.alloc ?_ ?_ _) | (with_reducible refine below_drewN ?_ _) | (with_reducible refine Below.drew ?_) | (with_reducible refine Below.setCell ?_ ?_ _) | (with_reducible refine below_call (by assumption) ?_ ?_) | go_size)))
              · (intro v w1 K hb hF hK; (try simp at hF); simp at hK; (try simp only [hF] at hK); have hz := hb.size; (try simp at hz); (try (have hk := bcl hb (b) (by first | omega | (simp; done) | (simp; omega)); have hc := hk.1; have hf := hk.2.1; have hk := hk.2.2)))
                go_simp
                (try simp only [])
                exact hK _ _ rfl (by (repeat' (first | (with_reducible exact Below.refl _ _) | (with_reducible assumption) | (with_reducible refine Below.alloc ?_ ?_ _) | (with_reducible refine below_drewN ?_ _) | (with_reducible refine Below.drew ?_) | (with_reducible refine Below.setCell ?_ ?_ _) | (with_reducible refine below_call (by assumption) ?_ ?_) | go_size)))
              · (intro v w1 K hb hF hK; (try simp at hF); simp at hK; (try simp only [hF] at hK); have hz := hb.size; (try simp at hz))
                go_simp
                (try simp only [])
                exact hK _ _ rfl (by (repeat' (first | (with_reducible exact Below.refl _ _) | (with_reducible assumption) | (with_reducible refine Below.alloc ?_ ?_ _) | (with_reducible refine below_drewN ?_ _) | (with_reducible refine Below.drew ?_) | (with_reducible refine Below.setCell ?_ ?_ _) | (with_reducible refine below_call (by assumption) ?_ ?_) | go_size)))
              · (intro v w1 K hb hF hK; (try simp at hF); simp at hK; (try simp only [hF] at hK); have hz := hb.size; (try simp at hz))
                go_simp
                (try simp only [])
                exact hK _ _ rfl (by (repeat' (first | (with_reducible exact Below.refl _ _) | (with_reducible assumption) | (with_reducible refine Below.alloc ?_ ?_ _) | (with_reducible refine below_drewN ?_ _) | (with_reducible refine Below.drew ?_) | (with_reducible refine Below.setCell ?_ ?_ _) | (with_reducible refine below_call (by assumption) ?_ ?_) | go_size)))
              · (intro v w1 K hb hF hK; (try simp at hF); simp at hK; (try simp only [hF] at hK); have hz := hb.size; (try simp at hz))
                go_simp
                (try simp only [])
                exact hK _ _ rfl (by (repeat' (first | (with_reducible exact Below.refl _ _) | (with_reducible assumption) | (with_reducible refine Below.alloc ?_ ?_ _) | (with_reducible refine below_drewN ?_ _) | (with_reducible refine Below.drew ?_) | (with_reducible refine Below.setCell ?_ ?_ _) | (with_reducible refine below_call (by assumption) ?_ ?_) | go_size)))
              · (intro v w1 K hb hF hK; (try simp at hF); simp at hK; (try simp only [hF] at hK); have hz := hb.size; (try simp at hz); (try (have hk := bcl hb (b) (by first | omega | (simp; done) | (simp; omega)); have hc := hk.1; have hf := hk.2.1; have hk := hk.2.2)))
                go_simp
                (try simp only [])
                exact hK _ _ rfl (by (repeat' (first | (with_reducible exact Below.refl _ _) | (with_reducible assumption) | (with_reducible refine Below.alloc ?_ ?_ _) | (with_reducible refine below_drewN ?_ _) | (with_reducible refine Below.drew ?_) | (with_reducible refine Below.setCell ?_ ?_ _) | (with_reducible refine below_call (by assumption) ?_ ?_) | go_size)))
              · (intro v w1 K hb hF hK; (try simp at hF); simp at hK; (try simp only [hF] at hK); have hz := hb.size; (try simp at hz))
                go_simp
                (try simp only [])
                exact hK _ _ rfl (by (repeat' (first | (with_reducible exact Below.refl _ _) | (with_reducible assumption) | (with_reducible refine Below.alloc ?_ ?_ _) | (with_reducible refine below_drewN ?_ _) | (with_reducible refine Below.drew ?_) | (with_reducible refine Below.setCell ?_ ?_ _) | (with_reducible refine below_call (by assumption) ?_ ?_) | go_size)))
              · (intro v w1 K hb hF hK; (try simp at hF); simp at hK; (try simp only [hF] at hK); have hz := hb.size; (try simp at hz); (try (have hk := bcl hb (b) (by first | omega | (simp; done) | (simp; omega)); have hc := hk.1; have hf := hk.2.1; have hk := hk.2.2)))
                go_simp
                (first | (go_at_call 19; (with_reducible refine (bar_eq HPX.out HPU.out HNE.out h3 h4 rfl _).mono ?_); rintro e w2 ⟨v2, rfl, ho2, hb⟩; obtain ⟨A3, c3, rfl, _⟩ := ho2.form))
                (try simp only [])
                exact hK _ _ (⟨_, _, rfl, ho2.lower (by omega)⟩) (by (repeat' (first | (with_reducible exact Below.refl _ _) | (with_reducible assumption) | (with_reducible refine Below.alloc ?_ ?_ _) | (with_reducible refine below_drewN ?_ _) | (with_reducible refine Below.drew ?_) | (with_reducible refine Below.setCell ?_ ?_ _) | (with_reducible refine below_call (by assumption) ?_ ?_) | go_size)))
            case hfo => exact ⟨fun _ => rfl, trivial⟩
            (intro v w1 hb hF; simp [List.range, List.range.loop] at hF; have hz := hb.size; (try simp at hz); (try (have hk := bcl hb (b) (by first | omega | (simp; done) | (simp; omega)); have hc := hk.1; have hf := hk.2.1; have hk := hk.2.2)))
            obtain ⟨e0, e1, e2, e3, e4, e5, e6, e7, e8, e9, e10, B4, d4, e11, ho⟩ := hF
            simp only [List.length_cons, List.length_nil, List.drop_succ_cons, List.drop_zero, e0, e1, e2, e3, e4, e5, e6, e7, e8, e9, e10, e11]
            clear e0 e1 e2 e3 e4 e5 e6 e7 e8 e9 e10 e11 v
            have hz8 := hb.size
            have hbw : Below wo.heap.size wo w1 := by (repeat' (first | (with_reducible exact Below.refl _ _) | (with_reducible assumption) | (with_reducible refine Below.alloc ?_ ?_ _) | (with_reducible refine below_drewN ?_ _) | (with_reducible refine Below.drew ?_) | (with_reducible refine Below.setCell ?_ ?_ _) | (with_reducible refine below_call (by assumption) ?_ ?_) | (with_reducible refine below_grown (by assumption) ?_ ?_ ?_) | omega | (simp; done) | (simp; omega)))
            clear hb
            go_wp2_with (at_builtin
                         refine append_ro rfl (.tmp 38) (.tmp 50) rfl w.heap.size _ (linesU l k) (strokeF l half) wo rfl HO.out (by (repeat' (first | (with_reducible exact Below.refl _ _) | (with_reducible assumption) | (with_reducible refine Below.alloc ?_ ?_ _) | (with_reducible refine below_drewN ?_ _) | (with_reducible refine Below.drew ?_) | (with_reducible refine Below.setCell ?_ ?_ _) | (with_reducible refine below_call (by assumption) ?_ ?_) | (with_reducible refine below_grown (by assumption) ?_ ?_ ?_) | omega | (simp; done) | (simp; omega)))) _ 1 _ _ rfl (by (repeat' (first | (with_reducible assumption) | (with_reducible exact blk_new _ _) | (with_reducible exact blk_new1 _ _ _) | (with_reducible exact blk_new2 _ _ _ _) | (with_reducible refine blk_alloc ?_ _) | (with_reducible refine blk_drewN ?_ _) | (with_reducible refine blk_down (by assumption) ?_) | (with_reducible refine blk_up (by assumption) (by omega) ?_) | (with_reducible refine blk_far ?_ _ (by simp; omega))))) ?_ ?_ (by have := linesU_le l k; omega) (by omega) ?_
                         rotate_left 2
                         intro v3 w3 hown3 hg3 hr3)
            · refine ⟨⟨k + 1, by omega, congrArg (Value.int .i64) (by push_cast; omega), by rw [HS1.out]; exact hown3, below_own hg3 (by (repeat' (first | (with_reducible exact Below.refl _ _) | (with_reducible assumption) | (with_reducible refine Below.alloc ?_ ?_ _) | (with_reducible refine below_drewN ?_ _) | (with_reducible refine Below.drew ?_) | (with_reducible refine Below.setCell ?_ ?_ _) | (with_reducible refine below_call (by assumption) ?_ ?_) | (with_reducible refine below_grown (by assumption) ?_ ?_ ?_) | omega | (simp; done) | (simp; omega)))) (by simp; omega) hr3⟩, ?_⟩
              simp [intOf]; omega
            · rw [RF.out]
              exact ho.below (by (repeat' (first | (with_reducible exact Below.refl _ _) | (with_reducible assumption) | (with_reducible refine Below.alloc ?_ ?_ _) | (with_reducible refine below_drewN ?_ _) | (with_reducible refine Below.drew ?_) | (with_reducible refine Below.setCell ?_ ?_ _) | (with_reducible refine below_call (by assumption) ?_ ?_) | (with_reducible refine below_grown (by assumption) ?_ ?_ ?_) | omega | (simp; done) | (simp; omega))))
            · rw [RF.out]; rfl
        · have eb : decide (((k + 1 : Nat) : Int) < n) = false := decide_eq_false (by omega)
          have eb2 : decide ((k : Int) + 1 < n) = false := decide_eq_false (by omega)
          have eb3 : ¬ (k : Int) + 1 < n := by omega
          have hlast : linesU l k = (strokeL l half).length := by rw [strokeL_len]; congr 1; omega
          obtain ⟨N, hN⟩ : ∃ N, linesU l k = N := ⟨_, rfl⟩
          have hN8 : N ≤ 8 := by rw [← hN]; have := linesU_le l k; omega
          rw [hN] at HO hlast
          obtain ⟨A1, c1, rfl, k1, k2⟩ := HO.out.weak.form
          have HI : Hid (IsRs wo A1 N (strokeL l half)) := Lib.hid (HO.out.weak.isRs hlast.symm fun i r hr => by rw [strokeF, List.getD_eq_getElem?_getD, hr]; rfl)
          have hsR : Hid (sizeR (strokeL l half) ≤ 1048576) := Lib.hid (by rw [sizeR, ringsLen_four (strokeL l half) (strokeU_four l half _), ← hlast]; omega)
          have HLen := Lib.hid hlast
          obtain ⟨u, hu⟩ : ∃ u, ringsOk (strokeL l half) = u := ⟨_, rfl⟩
          have HU := Lib.hid hu
          have hou : ok = u := by rw [← HK.out, HS.out, hu]
          subst hou
          have HLL : Hid (ok = true → L = strokeL l half) := Lib.hid fun h => by rw [← HR.out, strokeR_ok (by rw [HK.out]; exact h)]
          have HLN : Hid (ok = false → L = []) := Lib.hid fun h => by rw [← HR.out, strokeR_no (by rw [HK.out]; exact h)]
          clear hN hlast hu
          go_wp2_with fail
          refine (validRings_eq c1 HI.out hsR.out HU.out).mono ?_
          rintro e w2 ⟨rfl, hb2⟩
          have hz2 := hb2.size
          cases ok with
          | false =>
            obtain rfl := HLN.out rfl
            go_wp2
            go_ret2
            exact ⟨_, rfl, RetS.none' _ _, by (repeat' (first | (with_reducible exact Below.refl _ _) | (with_reducible assumption) | (with_reducible refine Below.alloc ?_ ?_ _) | (with_reducible refine below_drewN ?_ _) | (with_reducible refine Below.drew ?_) | (with_reducible refine Below.setCell ?_ ?_ _) | (with_reducible refine below_call (by assumption) ?_ ?_) | (with_reducible refine below_grown (by assumption) ?_ ?_ ?_) | omega | (simp; done) | (simp; omega)))⟩
          | true =>
            obtain rfl := HLL.out rfl
            go_wp2
            go_ret2
            refine ⟨_, rfl, ?_, by (repeat' (first | (with_reducible exact Below.refl _ _) | (with_reducible assumption) | (with_reducible refine Below.alloc ?_ ?_ _) | (with_reducible refine below_drewN ?_ _) | (with_reducible refine Below.drew ?_) | (with_reducible refine Below.setCell ?_ ?_ _) | (with_reducible refine below_call (by assumption) ?_ ?_) | (with_reducible refine below_grown (by assumption) ?_ ?_ ?_) | omega | (simp; done) | (simp; omega)))⟩
            rw [← HLen.out]
            exact HO.out.weak.below hb2
    · obtain ⟨rfl, rfl⟩ := stroke_no hok hL (by rw [strokeOk, h1, h2]; simp)
      have H1 := Lib.hid h1
      have H2 := Lib.hid h2
      clear h1 h2 hok hL hl
      go_enter Try.func7, Try.ntmps7
      go_wp2_with fail
      refine (validPoints_eq c (HP.out.below (by (repeat' (first | (with_reducible exact Below.refl _ _) | (with_reducible assumption) | (with_reducible refine Below.alloc ?_ ?_ _) | (with_reducible refine below_drewN ?_ _) | (with_reducible refine Below.drew ?_) | (with_reducible refine Below.setCell ?_ ?_ _) | (with_reducible refine below_call (by assumption) ?_ ?_) | go_size)))) (by omega) (Hid.out (by with_reducible assumption))).mono ?_
      rintro e w1 ⟨rfl, hb⟩
      go_wp2_with ((go_at_call 18; (with_reducible refine (inRange_eq (Hid.out (by with_reducible assumption)) _).mono ?_); rintro e w1 ⟨rfl, rfl⟩))
      go_ret2
      exact ⟨_, rfl, RetS.none' _ _, by (repeat' (first | (with_reducible exact Below.refl _ _) | (with_reducible assumption) | (with_reducible refine Below.alloc ?_ ?_ _) | (with_reducible refine below_drewN ?_ _) | (with_reducible refine Below.drew ?_) | (with_reducible refine Below.setCell ?_ ?_ _) | (with_reducible refine below_call (by assumption) ?_ ?_) | (with_reducible refine below_grown (by assumption) ?_ ?_ ?_) | omega | (simp; done) | (simp; omega)))⟩
  · obtain ⟨rfl, rfl⟩ := stroke_no hok hL (by rw [strokeOk, h1]; simp)
    have H1 := Lib.hid h1
    clear h1 hok hL hl
    go_enter Try.func7, Try.ntmps7
    go_wp2_with fail
    refine (validPoints_eq c (HP.out.below (by (repeat' (first | (with_reducible exact Below.refl _ _) | (with_reducible assumption) | (with_reducible refine Below.alloc ?_ ?_ _) | (with_reducible refine below_drewN ?_ _) | (with_reducible refine Below.drew ?_) | (with_reducible refine Below.setCell ?_ ?_ _) | (with_reducible refine below_call (by assumption) ?_ ?_) | go_size)))) (by omega) (Hid.out (by with_reducible assumption))).mono ?_
    rintro e w1 ⟨rfl, hb⟩
    go_wp2
    go_ret2
    exact ⟨_, rfl, RetS.none' _ _, by (repeat' (first | (with_reducible exact Below.refl _ _) | (with_reducible assumption) | (with_reducible refine Below.alloc ?_ ?_ _) | (with_reducible refine below_drewN ?_ _) | (with_reducible refine Below.drew ?_) | (with_reducible refine Below.setCell ?_ ?_ _) | (with_reducible refine below_call (by assumption) ?_ ?_) | (with_reducible refine below_grown (by assumption) ?_ ?_ ?_) | omega | (simp; done) | (simp; omega)))⟩

end Go.Proofs.Ytbiddmimcdmnoaa
