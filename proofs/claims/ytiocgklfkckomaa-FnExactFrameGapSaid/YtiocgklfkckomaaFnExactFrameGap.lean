/-
  FnExactFrameGap holds. No condition.
-/
import Derived.Test.YtiocgklfkckomaaColX
import Derived.Test.YtiocgklfkckomaaRegQ
import Derived.ProofKit
import Derived.OpenShut
import Derived.ShutString
import Derived.ChangeOld
import Derived.Lib.SmallJoins
namespace Go.Proofs.Ytiocgklfkckomaa
open Go.RowKit Pl Go.ChangeShapes Go.WideShapes Go.ChangeAt
open Go.ChangeMaps (open_string shut_string)

set_option linter.unusedSimpArgs false
set_option linter.unusedVariables false

/-- A frame that has been made. -/
def FQ (x y : Int) (n : Nat) (l : List Cl) (v : Value) (w : World) : Prop := ∃ A c, v = .agg #[.int .i64 x, .int .i64 y, .slice A n c] ∧ IsCs w A n l
theorem FQ.below {x y : Int} {n : Nat} {l : List Cl} {v : Value} {w w' : World} (hR : Ext w w') (h : FQ x y n l v w) : FQ x y n l v w' := by
  obtain ⟨A, c, e, h⟩ := h; exact ⟨A, c, e, h.below hR⟩

set_option maxRecDepth 100000 in
set_option maxHeartbeats 2000000 in
theorem FnExactFrameGap_walk (w : World) (x y : Int) (A : Option Addr) (n c : Nat) (l : List Cl) (h : IsCs w A n l) (hm : n ≤ maxLen) (x' y' : Int) (A' : Option Addr) (n' c' : Nat) (l' : List Cl) (h' : IsCs w A' n' l') (hm' : n' ≤ maxLen) :
    Calls Try.prog 3 #[.agg #[.int .i64 x, .int .i64 y, .slice A n c], .agg #[.int .i64 x', .int .i64 y', .slice A' n' c']] w fun e w' => e = .returned (.bool true) ∧ Below w.heap.size w w' := by
  unfold maxLen at hm hm'
  have HP := Lib.hid h
  have HP' := Lib.hid h'
  clear h h'
  obtain ⟨z1, hz1⟩ : ∃ z, (if (n : Int) ≤ 1048576 then 1048576 - (n : Int) else -1) = z := ⟨_, rfl⟩
  have HZ1 := Lib.hid hz1
  by_cases h1 : (n : Int) ≤ 1048576
  · have hz1' : z1 = 1048576 - n := by rw [← hz1, if_pos h1]
    have hnz1 : ¬ z1 < 0 := by omega
    obtain ⟨z2, hz2⟩ : ∃ z, (if (n' : Int) ≤ z1 then z1 - (n' : Int) else -1) = z := ⟨_, rfl⟩
    have HZ2 := Lib.hid hz2
    have hb0 : 0 ≤ z1 ∧ z1 ≤ 1048576 := by omega
    have hn1 : n ≤ 1048576 := by omega
    clear hz1
    by_cases h2 : (n' : Int) ≤ z1
    · have hz2' : z2 = z1 - n' := by rw [← hz2, if_pos h2]
      have hnz2 : ¬ z2 < 0 := by omega
      have hn2 : n' ≤ 1048576 := by omega
      clear hz2 hz1' hz2'
      obtain ⟨g, hg⟩ : ∃ g, gapR x y l x' y' l' = g := ⟨_, rfl⟩
      have HG := Lib.hid hg
      clear hg
      go_enter Try.func3, Try.ntmps3
      go_wp2_with fail
      refine (szFrame_eq (by omega) (by omega) (by omega) HZ1.out _).mono ?_
      rintro e w1 ⟨rfl, hw1⟩
      have hs1 := hw1.size
      simp at hs1
      have ha1 := blk_below (blk_alloc (blk_new w (.cells #[.int .i64 x, .int .i64 y, .slice A n c] 24)) (.cells #[.int .i64 x', .int .i64 y', .slice A' n' c'] 24)) hw1
      have hb1 := blk_below (blk_new1 w (.cells #[.int .i64 x, .int .i64 y, .slice A n c] 24) (.cells #[.int .i64 x', .int .i64 y', .slice A' n' c'] 24)) hw1
      have hca1 := blk_cell ha1
      have hla1 := blk_lt ha1
      have hcb1 := blk_cell hb1
      have hlb1 := blk_lt hb1
      go_wp2_with fail
      refine (szFrame_eq (by omega) hb0.1 hb0.2 HZ2.out _).mono ?_
      rintro e w2 ⟨rfl, hw2⟩
      have hs2 := hw2.size
      have ha2 := blk_below ha1 hw2
      have hb2 := blk_below hb1 hw2
      have HA2 := Lib.hid ha2
      have HB2 := Lib.hid hb2
      have HPa := Lib.hid (HP.out.below (show Below w.heap.size w w2 by (repeat' (first | (with_reducible exact Below.refl _ _) | (with_reducible assumption) | (with_reducible refine Below.alloc ?_ ?_ _) | (with_reducible refine below_drewN ?_ _) | (with_reducible refine Below.drew ?_) | (with_reducible refine Below.setCell ?_ ?_ _) | (with_reducible refine below_call (by assumption) ?_ ?_) | (with_reducible refine below_grown (by assumption) ?_ ?_ ?_) | omega | (simp; done) | (simp; omega)))))
      have HPb := Lib.hid (HP'.out.below (show Below w.heap.size w w2 by (repeat' (first | (with_reducible exact Below.refl _ _) | (with_reducible assumption) | (with_reducible refine Below.alloc ?_ ?_ _) | (with_reducible refine below_drewN ?_ _) | (with_reducible refine Below.drew ?_) | (with_reducible refine Below.setCell ?_ ?_ _) | (with_reducible refine below_call (by assumption) ?_ ?_) | (with_reducible refine below_grown (by assumption) ?_ ?_ ?_) | omega | (simp; done) | (simp; omega)))))
      have B2 : Hid (Below w.heap.size w w2) := Lib.hid (by (repeat' (first | (with_reducible exact Below.refl _ _) | (with_reducible assumption) | (with_reducible refine Below.alloc ?_ ?_ _) | (with_reducible refine below_drewN ?_ _) | (with_reducible refine Below.drew ?_) | (with_reducible refine Below.setCell ?_ ?_ _) | (with_reducible refine below_call (by assumption) ?_ ?_) | (with_reducible refine below_grown (by assumption) ?_ ?_ ?_) | omega | (simp; done) | (simp; omega))))
      have hca2 := blk_cell ha2
      have hla2 := blk_lt ha2
      have hcb2 := blk_cell hb2
      have hlb2 := blk_lt hb2
      clear hca1 hla1 hcb1 hlb1 ha1 hb1 ha2 hb2
      go_wp2_with fail
      apply wp_region_pure (by kernel_rfl) ([] :: [0] :: [] :: [2] :: [1, 3] :: []) (RS.det [] _ :: RS.q [0] (FQ x y n l) :: RS.det [] _ :: RS.q [2] (FQ x' y' n' l') :: RS.det [1, 3] _ :: []) [] rfl (by kernel_rfl) (fun h => absurd rfl h) (by kernel_rfl) (by kernel_rfl) (st_det (st_q (fun _ _ _ hR h => h.below hR) (st_det (st_q (fun _ _ _ hR h => h.below hR) (st_det st_nil))))) _ (fun v => by simp; rfl)
      case hop =>
        simp only [Obls]
        refine ⟨?_, ?_, ?_, ?_, ?_, trivial⟩
        · (intro v w1 K hb hF hK; (try simp at hF); simp at hK; (try simp only [hF] at hK); have hz := hb.size; (try simp at hz); (try (have hk := bcl hb (w.heap.size) (by first | omega | (simp; done) | (simp; omega)); have hc := hk.1; have hf := hk.2.1; have hk := hk.2.2)); (try (have hk := bcl hb (w.heap.size + 1) (by first | omega | (simp; done) | (simp; omega)); have hc := hk.1; have hf := hk.2.1; have hk := hk.2.2)))
          go_simp
          (try simp only [])
          exact hK _ _ rfl (by (repeat' (first | (with_reducible exact Below.refl _ _) | (with_reducible assumption) | (with_reducible refine Below.alloc ?_ ?_ _) | (with_reducible refine below_drewN ?_ _) | (with_reducible refine Below.drew ?_) | (with_reducible refine Below.setCell ?_ ?_ _) | (with_reducible refine below_call (by assumption) ?_ ?_) | go_size)))
        · (intro v w1 K hb hF hK; (try simp at hF); simp at hK; (try simp only [hF] at hK); have hz := hb.size; (try simp at hz); (try (have hk := bcl hb (w.heap.size) (by first | omega | (simp; done) | (simp; omega)); have hc := hk.1; have hf := hk.2.1; have hk := hk.2.2)); (try (have hk := bcl hb (w.heap.size + 1) (by first | omega | (simp; done) | (simp; omega)); have hc := hk.1; have hf := hk.2.1; have hk := hk.2.2)))
          go_simp
          (first | (go_at_call 9; first | ((with_reducible refine (toFrame_any c (HPa.out.below (by (repeat' (first | (with_reducible exact Below.refl _ _) | (with_reducible assumption) | (with_reducible refine Below.alloc ?_ ?_ _) | (with_reducible refine below_drewN ?_ _) | (with_reducible refine Below.drew ?_) | (with_reducible refine Below.setCell ?_ ?_ _) | (with_reducible refine below_call (by assumption) ?_ ?_) | (with_reducible refine below_grown (by assumption) ?_ ?_ ?_) | omega | (simp; done) | (simp; omega))))) hn1).mono ?_); rintro e w7 ⟨A7, c7, rfl, hq7, hb7⟩) | ((with_reducible refine (toFrame_any c' (HPb.out.below (by (repeat' (first | (with_reducible exact Below.refl _ _) | (with_reducible assumption) | (with_reducible refine Below.alloc ?_ ?_ _) | (with_reducible refine below_drewN ?_ _) | (with_reducible refine Below.drew ?_) | (with_reducible refine Below.setCell ?_ ?_ _) | (with_reducible refine below_call (by assumption) ?_ ?_) | (with_reducible refine below_grown (by assumption) ?_ ?_ ?_) | omega | (simp; done) | (simp; omega))))) hn2).mono ?_); rintro e w7 ⟨A7, c7, rfl, hq7, hb7⟩)) | (go_at_call 8; (with_reducible refine (sFrameGap_eq c1 c3 hq1 hq3 (by omega) (by omega) HG.out).mono ?_); rintro e w7 ⟨rfl, hb7⟩))
          (try simp only [])
          exact hK _ _ (⟨_, _, rfl, hq7⟩) (by (repeat' (first | (with_reducible exact Below.refl _ _) | (with_reducible assumption) | (with_reducible refine Below.alloc ?_ ?_ _) | (with_reducible refine below_drewN ?_ _) | (with_reducible refine Below.drew ?_) | (with_reducible refine Below.setCell ?_ ?_ _) | (with_reducible refine below_call (by assumption) ?_ ?_) | go_size)))
        · (intro v w1 K hb hF hK; (try simp at hF); simp at hK; (try simp only [hF] at hK); have hz := hb.size; (try simp at hz); (try (have hk := bcl hb (w.heap.size) (by first | omega | (simp; done) | (simp; omega)); have hc := hk.1; have hf := hk.2.1; have hk := hk.2.2)); (try (have hk := bcl hb (w.heap.size + 1) (by first | omega | (simp; done) | (simp; omega)); have hc := hk.1; have hf := hk.2.1; have hk := hk.2.2)))
          go_simp
          (try simp only [])
          exact hK _ _ rfl (by (repeat' (first | (with_reducible exact Below.refl _ _) | (with_reducible assumption) | (with_reducible refine Below.alloc ?_ ?_ _) | (with_reducible refine below_drewN ?_ _) | (with_reducible refine Below.drew ?_) | (with_reducible refine Below.setCell ?_ ?_ _) | (with_reducible refine below_call (by assumption) ?_ ?_) | go_size)))
        · (intro v w1 K hb hF hK; (try simp at hF); simp at hK; (try simp only [hF] at hK); have hz := hb.size; (try simp at hz); (try (have hk := bcl hb (w.heap.size) (by first | omega | (simp; done) | (simp; omega)); have hc := hk.1; have hf := hk.2.1; have hk := hk.2.2)); (try (have hk := bcl hb (w.heap.size + 1) (by first | omega | (simp; done) | (simp; omega)); have hc := hk.1; have hf := hk.2.1; have hk := hk.2.2)))
          go_simp
          (first | (go_at_call 9; first | ((with_reducible refine (toFrame_any c (HPa.out.below (by (repeat' (first | (with_reducible exact Below.refl _ _) | (with_reducible assumption) | (with_reducible refine Below.alloc ?_ ?_ _) | (with_reducible refine below_drewN ?_ _) | (with_reducible refine Below.drew ?_) | (with_reducible refine Below.setCell ?_ ?_ _) | (with_reducible refine below_call (by assumption) ?_ ?_) | (with_reducible refine below_grown (by assumption) ?_ ?_ ?_) | omega | (simp; done) | (simp; omega))))) hn1).mono ?_); rintro e w7 ⟨A7, c7, rfl, hq7, hb7⟩) | ((with_reducible refine (toFrame_any c' (HPb.out.below (by (repeat' (first | (with_reducible exact Below.refl _ _) | (with_reducible assumption) | (with_reducible refine Below.alloc ?_ ?_ _) | (with_reducible refine below_drewN ?_ _) | (with_reducible refine Below.drew ?_) | (with_reducible refine Below.setCell ?_ ?_ _) | (with_reducible refine below_call (by assumption) ?_ ?_) | (with_reducible refine below_grown (by assumption) ?_ ?_ ?_) | omega | (simp; done) | (simp; omega))))) hn2).mono ?_); rintro e w7 ⟨A7, c7, rfl, hq7, hb7⟩)) | (go_at_call 8; (with_reducible refine (sFrameGap_eq c1 c3 hq1 hq3 (by omega) (by omega) HG.out).mono ?_); rintro e w7 ⟨rfl, hb7⟩))
          (try simp only [])
          exact hK _ _ (⟨_, _, rfl, hq7⟩) (by (repeat' (first | (with_reducible exact Below.refl _ _) | (with_reducible assumption) | (with_reducible refine Below.alloc ?_ ?_ _) | (with_reducible refine below_drewN ?_ _) | (with_reducible refine Below.drew ?_) | (with_reducible refine Below.setCell ?_ ?_ _) | (with_reducible refine below_call (by assumption) ?_ ?_) | go_size)))
        · (intro v w1 K hb hF hK; (try simp at hF); simp at hK; (try simp only [hF] at hK); have hz := hb.size; (try simp at hz); (try (have hk := bcl hb (w.heap.size) (by first | omega | (simp; done) | (simp; omega)); have hc := hk.1; have hf := hk.2.1; have hk := hk.2.2)); (try (have hk := bcl hb (w.heap.size + 1) (by first | omega | (simp; done) | (simp; omega)); have hc := hk.1; have hf := hk.2.1; have hk := hk.2.2)))
          obtain ⟨⟨A1, c1, f1, hq1⟩, A3, c3, f3, hq3⟩ := hF
          (try simp only [f1, f3] at hK)
          go_simp
          (first | (go_at_call 9; first | ((with_reducible refine (toFrame_any c (HPa.out.below (by (repeat' (first | (with_reducible exact Below.refl _ _) | (with_reducible assumption) | (with_reducible refine Below.alloc ?_ ?_ _) | (with_reducible refine below_drewN ?_ _) | (with_reducible refine Below.drew ?_) | (with_reducible refine Below.setCell ?_ ?_ _) | (with_reducible refine below_call (by assumption) ?_ ?_) | (with_reducible refine below_grown (by assumption) ?_ ?_ ?_) | omega | (simp; done) | (simp; omega))))) hn1).mono ?_); rintro e w7 ⟨A7, c7, rfl, hq7, hb7⟩) | ((with_reducible refine (toFrame_any c' (HPb.out.below (by (repeat' (first | (with_reducible exact Below.refl _ _) | (with_reducible assumption) | (with_reducible refine Below.alloc ?_ ?_ _) | (with_reducible refine below_drewN ?_ _) | (with_reducible refine Below.drew ?_) | (with_reducible refine Below.setCell ?_ ?_ _) | (with_reducible refine below_call (by assumption) ?_ ?_) | (with_reducible refine below_grown (by assumption) ?_ ?_ ?_) | omega | (simp; done) | (simp; omega))))) hn2).mono ?_); rintro e w7 ⟨A7, c7, rfl, hq7, hb7⟩)) | (go_at_call 8; (with_reducible refine (sFrameGap_eq c1 c3 hq1 hq3 (by omega) (by omega) HG.out).mono ?_); rintro e w7 ⟨rfl, hb7⟩))
          (try simp only [])
          exact hK _ _ rfl (by (repeat' (first | (with_reducible exact Below.refl _ _) | (with_reducible assumption) | (with_reducible refine Below.alloc ?_ ?_ _) | (with_reducible refine below_drewN ?_ _) | (with_reducible refine Below.drew ?_) | (with_reducible refine Below.setCell ?_ ?_ _) | (with_reducible refine below_call (by assumption) ?_ ?_) | go_size)))
      case hfo => exact trivial
      (intro v w1 hb hF; simp [List.range, List.range.loop] at hF; have hz := hb.size; (try simp at hz); (try (have hk := bcl hb (w.heap.size) (by first | omega | (simp; done) | (simp; omega)); have hc := hk.1; have hf := hk.2.1; have hk := hk.2.2)); (try (have hk := bcl hb (w.heap.size + 1) (by first | omega | (simp; done) | (simp; omega)); have hc := hk.1; have hf := hk.2.1; have hk := hk.2.2)))
      obtain ⟨e0, ⟨A1, c1, e1, hq1⟩, e2, ⟨A3, c3, e3, hq3⟩, e4⟩ := hF
      simp only [List.length_cons, List.length_nil, List.drop_succ_cons, List.drop_zero, e0, e1, e2, e3, e4]
      clear e0 e1 e2 e3 e4 v
      clear hc hf hk hq1 hq3
      obtain ⟨w3, hw3e⟩ : ∃ q, q = w1 := ⟨_, rfl⟩
      subst hw3e
      have hw3 : Below w2.heap.size w2 w3 := hb
      have hs3 := hw3.size
      have HA3 := Lib.hid (blk_below HA2.out hw3)
      have HB3 := Lib.hid (blk_below HB2.out hw3)
      have HP3a := Lib.hid (HPa.out.below hw3)
      have HP3b := Lib.hid (HPb.out.below hw3)
      have B3 : Hid (Below w.heap.size w w3) := Lib.hid (B2.out.trans (hw3.mono (by omega)))
      go_wp2_with fail
      refine (toFrame_any c HP3a.out hn1).mono ?_
      rintro e w5 ⟨A5, c5, rfl, hq5, hw5⟩
      have hs5 := hw5.size
      have ha5 := blk_below HA3.out hw5
      have hb5 := blk_below HB3.out hw5
      have HA5 := Lib.hid ha5
      have HB5 := Lib.hid hb5
      have HQ5 := Lib.hid hq5
      have B5 : Hid (Below w.heap.size w w5) := Lib.hid (B3.out.trans (hw5.mono (by omega)))
      have hcb5 := blk_cell hb5
      have hlb5 := blk_lt hb5
      clear hca2 hla2 hcb2 hlb2 hq5 ha5 hb5
      go_wp2_with fail
      refine (toFrame_any c' (HP3b.out.below (show Below w3.heap.size w3 _ by (repeat' (first | (with_reducible exact Below.refl _ _) | (with_reducible assumption) | (with_reducible refine Below.alloc ?_ ?_ _) | (with_reducible refine below_drewN ?_ _) | (with_reducible refine Below.drew ?_) | (with_reducible refine Below.setCell ?_ ?_ _) | (with_reducible refine below_call (by assumption) ?_ ?_) | (with_reducible refine below_grown (by assumption) ?_ ?_ ?_) | omega | (simp; done) | (simp; omega))))) hn2).mono ?_
      rintro e w6 ⟨A6, c6, rfl, hq6, hw6⟩
      have hs6 := hw6.size
      simp at hs6
      have ha6 := blk_below (blk_alloc HA5.out (.cells #[.int .i64 x, .int .i64 y, .slice A5 n c5] 29)) hw6
      have hb6 := blk_below (blk_alloc HB5.out (.cells #[.int .i64 x, .int .i64 y, .slice A5 n c5] 29)) hw6
      have hx6 := blk_below (blk_new w5 (.cells #[.int .i64 x, .int .i64 y, .slice A5 n c5] 29)) hw6
      have HA6 := Lib.hid ha6
      have HB6 := Lib.hid hb6
      have HX6 := Lib.hid hx6
      have HQ6 := Lib.hid hq6
      have hcx6 := blk_cell hx6
      have hlx6 := blk_lt hx6
      have B6 : Hid (Below w.heap.size w w6) := Lib.hid (B5.out.trans ((show Below w5.heap.size w5 w6 by (repeat' (first | (with_reducible exact Below.refl _ _) | (with_reducible assumption) | (with_reducible refine Below.alloc ?_ ?_ _) | (with_reducible refine below_drewN ?_ _) | (with_reducible refine Below.drew ?_) | (with_reducible refine Below.setCell ?_ ?_ _) | (with_reducible refine below_call (by assumption) ?_ ?_) | (with_reducible refine below_grown (by assumption) ?_ ?_ ?_) | omega | (simp; done) | (simp; omega)))).mono (by omega)))
      clear hcb5 hlb5 hq6 ha6 hb6 hx6
      go_wp2_with fail
      refine (FrameGap_eq c5 c6 (HQ5.out.below (show Below w5.heap.size w5 _ by (repeat' (first | (with_reducible exact Below.refl _ _) | (with_reducible assumption) | (with_reducible refine Below.alloc ?_ ?_ _) | (with_reducible refine below_drewN ?_ _) | (with_reducible refine Below.drew ?_) | (with_reducible refine Below.setCell ?_ ?_ _) | (with_reducible refine below_call (by assumption) ?_ ?_) | (with_reducible refine below_grown (by assumption) ?_ ?_ ?_) | omega | (simp; done) | (simp; omega))))) (HQ6.out.below (show Below w6.heap.size w6 _ by (repeat' (first | (with_reducible exact Below.refl _ _) | (with_reducible assumption) | (with_reducible refine Below.alloc ?_ ?_ _) | (with_reducible refine below_drewN ?_ _) | (with_reducible refine Below.drew ?_) | (with_reducible refine Below.setCell ?_ ?_ _) | (with_reducible refine below_call (by assumption) ?_ ?_) | (with_reducible refine below_grown (by assumption) ?_ ?_ ?_) | omega | (simp; done) | (simp; omega))))) (by omega) (by omega) HG.out).mono ?_
      rintro e w7 ⟨rfl, hw7⟩
      have hs7 := hw7.size
      simp at hs7
      have ha7 := blk_below (blk_alloc HA6.out (.cells #[.int .i64 x', .int .i64 y', .slice A6 n' c6] 29)) hw7
      have hb7 := blk_below (blk_alloc HB6.out (.cells #[.int .i64 x', .int .i64 y', .slice A6 n' c6] 29)) hw7
      have hx7 := blk_below (blk_alloc HX6.out (.cells #[.int .i64 x', .int .i64 y', .slice A6 n' c6] 29)) hw7
      have hy7 := blk_below (blk_new w6 (.cells #[.int .i64 x', .int .i64 y', .slice A6 n' c6] 29)) hw7
      have HA7 := Lib.hid ha7
      have HB7 := Lib.hid hb7
      have HX7 := Lib.hid hx7
      have HY7 := Lib.hid hy7
      have hca7 := blk_cell ha7
      have hla7 := blk_lt ha7
      have hcx7 := blk_cell hx7
      have hlx7 := blk_lt hx7
      have B7 : Hid (Below w.heap.size w w7) := Lib.hid (B6.out.trans ((show Below w6.heap.size w6 w7 by (repeat' (first | (with_reducible exact Below.refl _ _) | (with_reducible assumption) | (with_reducible refine Below.alloc ?_ ?_ _) | (with_reducible refine below_drewN ?_ _) | (with_reducible refine Below.drew ?_) | (with_reducible refine Below.setCell ?_ ?_ _) | (with_reducible refine below_call (by assumption) ?_ ?_) | (with_reducible refine below_grown (by assumption) ?_ ?_ ?_) | omega | (simp; done) | (simp; omega)))).mono (by omega)))
      have HQ57 := Lib.hid (HQ5.out.below (show Below w5.heap.size w5 w7 by (repeat' (first | (with_reducible exact Below.refl _ _) | (with_reducible assumption) | (with_reducible refine Below.alloc ?_ ?_ _) | (with_reducible refine below_drewN ?_ _) | (with_reducible refine Below.drew ?_) | (with_reducible refine Below.setCell ?_ ?_ _) | (with_reducible refine below_call (by assumption) ?_ ?_) | (with_reducible refine below_grown (by assumption) ?_ ?_ ?_) | omega | (simp; done) | (simp; omega)))))
      have HQ67 := Lib.hid (HQ6.out.below (show Below w6.heap.size w6 w7 by (repeat' (first | (with_reducible exact Below.refl _ _) | (with_reducible assumption) | (with_reducible refine Below.alloc ?_ ?_ _) | (with_reducible refine below_drewN ?_ _) | (with_reducible refine Below.drew ?_) | (with_reducible refine Below.setCell ?_ ?_ _) | (with_reducible refine below_call (by assumption) ?_ ?_) | (with_reducible refine below_grown (by assumption) ?_ ?_ ?_) | omega | (simp; done) | (simp; omega)))))
      have HP7a := Lib.hid (HP3a.out.below (show Below w3.heap.size w3 w7 by (repeat' (first | (with_reducible exact Below.refl _ _) | (with_reducible assumption) | (with_reducible refine Below.alloc ?_ ?_ _) | (with_reducible refine below_drewN ?_ _) | (with_reducible refine Below.drew ?_) | (with_reducible refine Below.setCell ?_ ?_ _) | (with_reducible refine below_call (by assumption) ?_ ?_) | (with_reducible refine below_grown (by assumption) ?_ ?_ ?_) | omega | (simp; done) | (simp; omega)))))
      have HP7b := Lib.hid (HP3b.out.below (show Below w3.heap.size w3 w7 by (repeat' (first | (with_reducible exact Below.refl _ _) | (with_reducible assumption) | (with_reducible refine Below.alloc ?_ ?_ _) | (with_reducible refine below_drewN ?_ _) | (with_reducible refine Below.drew ?_) | (with_reducible refine Below.setCell ?_ ?_ _) | (with_reducible refine below_call (by assumption) ?_ ?_) | (with_reducible refine below_grown (by assumption) ?_ ?_ ?_) | omega | (simp; done) | (simp; omega)))))
      clear hcx6 hlx6 ha7 hb7 hx7 hy7
      go_wp2_with fail
      apply wp_region_pure (by kernel_rfl) ([] :: [] :: [1] :: [0, 2] :: []) (RS.det [] _ :: RS.det [] _ :: RS.q [1] (FQ x y n l) :: RS.det [0, 2] _ :: []) [] rfl (by kernel_rfl) (fun h => absurd rfl h) (by kernel_rfl) (by kernel_rfl) (st_det (st_det (st_q (fun _ _ _ hR h => h.below hR) (st_det st_nil)))) _ (fun v => by simp; rfl)
      case hop =>
        simp only [Obls]
        refine ⟨?_, ?_, ?_, ?_, trivial⟩
        · (intro v w1 K hb hF hK; (try simp at hF); simp at hK; (try simp only [hF] at hK); have hz := hb.size; (try simp at hz); (try (have hk := bcl hb (w.heap.size) (by first | omega | (simp; done) | (simp; omega)); have hc := hk.1; have hf := hk.2.1; have hk := hk.2.2)); (try (have hk := bcl hb (w5.heap.size) (by first | omega | (simp; done) | (simp; omega)); have hc := hk.1; have hf := hk.2.1; have hk := hk.2.2)))
          go_simp
          (try simp only [])
          exact hK _ _ rfl (by (repeat' (first | (with_reducible exact Below.refl _ _) | (with_reducible assumption) | (with_reducible refine Below.alloc ?_ ?_ _) | (with_reducible refine below_drewN ?_ _) | (with_reducible refine Below.drew ?_) | (with_reducible refine Below.setCell ?_ ?_ _) | (with_reducible refine below_call (by assumption) ?_ ?_) | go_size)))
        · (intro v w1 K hb hF hK; (try simp at hF); simp at hK; (try simp only [hF] at hK); have hz := hb.size; (try simp at hz); (try (have hk := bcl hb (w.heap.size) (by first | omega | (simp; done) | (simp; omega)); have hc := hk.1; have hf := hk.2.1; have hk := hk.2.2)); (try (have hk := bcl hb (w5.heap.size) (by first | omega | (simp; done) | (simp; omega)); have hc := hk.1; have hf := hk.2.1; have hk := hk.2.2)))
          go_simp
          (try simp only [])
          exact hK _ _ rfl (by (repeat' (first | (with_reducible exact Below.refl _ _) | (with_reducible assumption) | (with_reducible refine Below.alloc ?_ ?_ _) | (with_reducible refine below_drewN ?_ _) | (with_reducible refine Below.drew ?_) | (with_reducible refine Below.setCell ?_ ?_ _) | (with_reducible refine below_call (by assumption) ?_ ?_) | go_size)))
        · (intro v w1 K hb hF hK; (try simp at hF); simp at hK; (try simp only [hF] at hK); have hz := hb.size; (try simp at hz); (try (have hk := bcl hb (w.heap.size) (by first | omega | (simp; done) | (simp; omega)); have hc := hk.1; have hf := hk.2.1; have hk := hk.2.2)); (try (have hk := bcl hb (w5.heap.size) (by first | omega | (simp; done) | (simp; omega)); have hc := hk.1; have hf := hk.2.1; have hk := hk.2.2)))
          go_simp
          (first | (go_at_call 9; (with_reducible refine (toFrame_any c (HP7a.out.below (by (repeat' (first | (with_reducible exact Below.refl _ _) | (with_reducible assumption) | (with_reducible refine Below.alloc ?_ ?_ _) | (with_reducible refine below_drewN ?_ _) | (with_reducible refine Below.drew ?_) | (with_reducible refine Below.setCell ?_ ?_ _) | (with_reducible refine below_call (by assumption) ?_ ?_) | (with_reducible refine below_grown (by assumption) ?_ ?_ ?_) | omega | (simp; done) | (simp; omega))))) hn1).mono ?_); rintro e w8 ⟨A8, c8, rfl, hq8, hb8⟩) | (go_at_call 11; (with_reducible refine (eqFrame_same c5 c2 (HQ57.out.below (by (repeat' (first | (with_reducible exact Below.refl _ _) | (with_reducible assumption) | (with_reducible refine Below.alloc ?_ ?_ _) | (with_reducible refine below_drewN ?_ _) | (with_reducible refine Below.drew ?_) | (with_reducible refine Below.setCell ?_ ?_ _) | (with_reducible refine below_call (by assumption) ?_ ?_) | (with_reducible refine below_grown (by assumption) ?_ ?_ ?_) | omega | (simp; done) | (simp; omega))))) hq2 (by omega)).mono ?_); rintro e w8 ⟨rfl, hb8⟩))
          (try simp only [])
          exact hK _ _ (⟨_, _, rfl, hq8⟩) (by (repeat' (first | (with_reducible exact Below.refl _ _) | (with_reducible assumption) | (with_reducible refine Below.alloc ?_ ?_ _) | (with_reducible refine below_drewN ?_ _) | (with_reducible refine Below.drew ?_) | (with_reducible refine Below.setCell ?_ ?_ _) | (with_reducible refine below_call (by assumption) ?_ ?_) | go_size)))
        · (intro v w1 K hb hF hK; (try simp at hF); simp at hK; (try simp only [hF] at hK); have hz := hb.size; (try simp at hz); (try (have hk := bcl hb (w.heap.size) (by first | omega | (simp; done) | (simp; omega)); have hc := hk.1; have hf := hk.2.1; have hk := hk.2.2)); (try (have hk := bcl hb (w5.heap.size) (by first | omega | (simp; done) | (simp; omega)); have hc := hk.1; have hf := hk.2.1; have hk := hk.2.2)))
          obtain ⟨f0, A2, c2, f2, hq2⟩ := hF
          (try simp only [f0, f2] at hK)
          go_simp
          (first | (go_at_call 9; (with_reducible refine (toFrame_any c (HP7a.out.below (by (repeat' (first | (with_reducible exact Below.refl _ _) | (with_reducible assumption) | (with_reducible refine Below.alloc ?_ ?_ _) | (with_reducible refine below_drewN ?_ _) | (with_reducible refine Below.drew ?_) | (with_reducible refine Below.setCell ?_ ?_ _) | (with_reducible refine below_call (by assumption) ?_ ?_) | (with_reducible refine below_grown (by assumption) ?_ ?_ ?_) | omega | (simp; done) | (simp; omega))))) hn1).mono ?_); rintro e w8 ⟨A8, c8, rfl, hq8, hb8⟩) | (go_at_call 11; (with_reducible refine (eqFrame_same c5 c2 (HQ57.out.below (by (repeat' (first | (with_reducible exact Below.refl _ _) | (with_reducible assumption) | (with_reducible refine Below.alloc ?_ ?_ _) | (with_reducible refine below_drewN ?_ _) | (with_reducible refine Below.drew ?_) | (with_reducible refine Below.setCell ?_ ?_ _) | (with_reducible refine below_call (by assumption) ?_ ?_) | (with_reducible refine below_grown (by assumption) ?_ ?_ ?_) | omega | (simp; done) | (simp; omega))))) hq2 (by omega)).mono ?_); rintro e w8 ⟨rfl, hb8⟩))
          (try simp only [])
          exact hK _ _ rfl (by (repeat' (first | (with_reducible exact Below.refl _ _) | (with_reducible assumption) | (with_reducible refine Below.alloc ?_ ?_ _) | (with_reducible refine below_drewN ?_ _) | (with_reducible refine Below.drew ?_) | (with_reducible refine Below.setCell ?_ ?_ _) | (with_reducible refine below_call (by assumption) ?_ ?_) | go_size)))
      case hfo => exact trivial
      (intro v w1 hb hF; simp [List.range, List.range.loop] at hF; have hz := hb.size; (try simp at hz); (try (have hk := bcl hb (w.heap.size) (by first | omega | (simp; done) | (simp; omega)); have hc := hk.1; have hf := hk.2.1; have hk := hk.2.2)); (try (have hk := bcl hb (w5.heap.size) (by first | omega | (simp; done) | (simp; omega)); have hc := hk.1; have hf := hk.2.1; have hk := hk.2.2)))
      obtain ⟨e0, e1, ⟨A2, c2, e2, hq2⟩, e3⟩ := hF
      simp only [List.length_cons, List.length_nil, List.drop_succ_cons, List.drop_zero, e0, e1, e2, e3]
      clear e0 e1 e2 e3 v
      obtain ⟨w8, hw8e⟩ : ∃ q, q = w1 := ⟨_, rfl⟩
      subst hw8e
      have hw8 : Below w7.heap.size w7 w8 := hb
      have hs8 := hw8.size
      have hcb7 := blk_cell HB7.out
      have hlb7 := blk_lt HB7.out
      have hcy7 := blk_cell HY7.out
      have hly7 := blk_lt HY7.out
      have ha8 := blk_below HA7.out hw8
      have hb8 := blk_below HB7.out hw8
      have hy8 := blk_below HY7.out hw8
      have hcb8 := blk_cell hb8
      have hlb8 := blk_lt hb8
      have hcy8 := blk_cell hy8
      have hly8 := blk_lt hy8
      have HQ68 := Lib.hid (HQ67.out.below hw8)
      have HP8b := Lib.hid (HP7b.out.below hw8)
      have B8 : Hid (Below w.heap.size w w8) := Lib.hid (B7.out.trans (hw8.mono (by omega)))
      clear hca7 hla7 hcx7 hlx7 hcb7 hlb7 hcy7 hly7 hq2 ha8 hb8 hy8
      go_wp2_with fail
      apply wp_region_pure (by kernel_rfl) ([] :: [] :: [1] :: [0, 2] :: []) (RS.det [] _ :: RS.det [] _ :: RS.q [1] (FQ x' y' n' l') :: RS.det [0, 2] _ :: []) [] rfl (by kernel_rfl) (fun h => absurd rfl h) (by kernel_rfl) (by kernel_rfl) (st_det (st_det (st_q (fun _ _ _ hR h => h.below hR) (st_det st_nil)))) _ (fun v => by simp; rfl)
      case hop =>
        simp only [Obls]
        refine ⟨?_, ?_, ?_, ?_, trivial⟩
        · (intro v w1 K hb hF hK; (try simp at hF); simp at hK; (try simp only [hF] at hK); have hz := hb.size; (try simp at hz); (try (have hk := bcl hb (w.heap.size + 1) (by first | omega | (simp; done) | (simp; omega)); have hc := hk.1; have hf := hk.2.1; have hk := hk.2.2)); (try (have hk := bcl hb (w6.heap.size) (by first | omega | (simp; done) | (simp; omega)); have hc := hk.1; have hf := hk.2.1; have hk := hk.2.2)))
          go_simp
          (try simp only [])
          exact hK _ _ rfl (by (repeat' (first | (with_reducible exact Below.refl _ _) | (with_reducible assumption) | (with_reducible refine Below.alloc ?_ ?_ _) | (with_reducible refine below_drewN ?_ _) | (with_reducible refine Below.drew ?_) | (with_reducible refine Below.setCell ?_ ?_ _) | (with_reducible refine below_call (by assumption) ?_ ?_) | go_size)))
        · (intro v w1 K hb hF hK; (try simp at hF); simp at hK; (try simp only [hF] at hK); have hz := hb.size; (try simp at hz); (try (have hk := bcl hb (w.heap.size + 1) (by first | omega | (simp; done) | (simp; omega)); have hc := hk.1; have hf := hk.2.1; have hk := hk.2.2)); (try (have hk := bcl hb (w6.heap.size) (by first | omega | (simp; done) | (simp; omega)); have hc := hk.1; have hf := hk.2.1; have hk := hk.2.2)))
          go_simp
          (try simp only [])
          exact hK _ _ rfl (by (repeat' (first | (with_reducible exact Below.refl _ _) | (with_reducible assumption) | (with_reducible refine Below.alloc ?_ ?_ _) | (with_reducible refine below_drewN ?_ _) | (with_reducible refine Below.drew ?_) | (with_reducible refine Below.setCell ?_ ?_ _) | (with_reducible refine below_call (by assumption) ?_ ?_) | go_size)))
        · (intro v w1 K hb hF hK; (try simp at hF); simp at hK; (try simp only [hF] at hK); have hz := hb.size; (try simp at hz); (try (have hk := bcl hb (w.heap.size + 1) (by first | omega | (simp; done) | (simp; omega)); have hc := hk.1; have hf := hk.2.1; have hk := hk.2.2)); (try (have hk := bcl hb (w6.heap.size) (by first | omega | (simp; done) | (simp; omega)); have hc := hk.1; have hf := hk.2.1; have hk := hk.2.2)))
          go_simp
          (first | (go_at_call 9; (with_reducible refine (toFrame_any c' (HP8b.out.below (by (repeat' (first | (with_reducible exact Below.refl _ _) | (with_reducible assumption) | (with_reducible refine Below.alloc ?_ ?_ _) | (with_reducible refine below_drewN ?_ _) | (with_reducible refine Below.drew ?_) | (with_reducible refine Below.setCell ?_ ?_ _) | (with_reducible refine below_call (by assumption) ?_ ?_) | (with_reducible refine below_grown (by assumption) ?_ ?_ ?_) | omega | (simp; done) | (simp; omega))))) hn2).mono ?_); rintro e w9 ⟨A9, c9, rfl, hq9, hb9⟩) | (go_at_call 11; (with_reducible refine (eqFrame_same c6 c2 (HQ68.out.below (by (repeat' (first | (with_reducible exact Below.refl _ _) | (with_reducible assumption) | (with_reducible refine Below.alloc ?_ ?_ _) | (with_reducible refine below_drewN ?_ _) | (with_reducible refine Below.drew ?_) | (with_reducible refine Below.setCell ?_ ?_ _) | (with_reducible refine below_call (by assumption) ?_ ?_) | (with_reducible refine below_grown (by assumption) ?_ ?_ ?_) | omega | (simp; done) | (simp; omega))))) hq2 (by omega)).mono ?_); rintro e w9 ⟨rfl, hb9⟩))
          (try simp only [])
          exact hK _ _ (⟨_, _, rfl, hq9⟩) (by (repeat' (first | (with_reducible exact Below.refl _ _) | (with_reducible assumption) | (with_reducible refine Below.alloc ?_ ?_ _) | (with_reducible refine below_drewN ?_ _) | (with_reducible refine Below.drew ?_) | (with_reducible refine Below.setCell ?_ ?_ _) | (with_reducible refine below_call (by assumption) ?_ ?_) | go_size)))
        · (intro v w1 K hb hF hK; (try simp at hF); simp at hK; (try simp only [hF] at hK); have hz := hb.size; (try simp at hz); (try (have hk := bcl hb (w.heap.size + 1) (by first | omega | (simp; done) | (simp; omega)); have hc := hk.1; have hf := hk.2.1; have hk := hk.2.2)); (try (have hk := bcl hb (w6.heap.size) (by first | omega | (simp; done) | (simp; omega)); have hc := hk.1; have hf := hk.2.1; have hk := hk.2.2)))
          obtain ⟨f0, A2', c2, f2, hq2⟩ := hF
          (try simp only [f0, f2] at hK)
          go_simp
          (first | (go_at_call 9; (with_reducible refine (toFrame_any c' (HP8b.out.below (by (repeat' (first | (with_reducible exact Below.refl _ _) | (with_reducible assumption) | (with_reducible refine Below.alloc ?_ ?_ _) | (with_reducible refine below_drewN ?_ _) | (with_reducible refine Below.drew ?_) | (with_reducible refine Below.setCell ?_ ?_ _) | (with_reducible refine below_call (by assumption) ?_ ?_) | (with_reducible refine below_grown (by assumption) ?_ ?_ ?_) | omega | (simp; done) | (simp; omega))))) hn2).mono ?_); rintro e w9 ⟨A9, c9, rfl, hq9, hb9⟩) | (go_at_call 11; (with_reducible refine (eqFrame_same c6 c2 (HQ68.out.below (by (repeat' (first | (with_reducible exact Below.refl _ _) | (with_reducible assumption) | (with_reducible refine Below.alloc ?_ ?_ _) | (with_reducible refine below_drewN ?_ _) | (with_reducible refine Below.drew ?_) | (with_reducible refine Below.setCell ?_ ?_ _) | (with_reducible refine below_call (by assumption) ?_ ?_) | (with_reducible refine below_grown (by assumption) ?_ ?_ ?_) | omega | (simp; done) | (simp; omega))))) hq2 (by omega)).mono ?_); rintro e w9 ⟨rfl, hb9⟩))
          (try simp only [])
          exact hK _ _ rfl (by (repeat' (first | (with_reducible exact Below.refl _ _) | (with_reducible assumption) | (with_reducible refine Below.alloc ?_ ?_ _) | (with_reducible refine below_drewN ?_ _) | (with_reducible refine Below.drew ?_) | (with_reducible refine Below.setCell ?_ ?_ _) | (with_reducible refine below_call (by assumption) ?_ ?_) | go_size)))
      case hfo => exact trivial
      (intro v w1 hb hF; simp [List.range, List.range.loop] at hF; have hz := hb.size; (try simp at hz); (try (have hk := bcl hb (w.heap.size + 1) (by first | omega | (simp; done) | (simp; omega)); have hc := hk.1; have hf := hk.2.1; have hk := hk.2.2)); (try (have hk := bcl hb (w6.heap.size) (by first | omega | (simp; done) | (simp; omega)); have hc := hk.1; have hf := hk.2.1; have hk := hk.2.2)))
      obtain ⟨e0, e1, ⟨A2', c2, e2, hq2⟩, e3⟩ := hF
      simp only [List.length_cons, List.length_nil, List.drop_succ_cons, List.drop_zero, e0, e1, e2, e3]
      clear e0 e1 e2 e3 v
      have B9 : Hid (Below w.heap.size w w1) := Lib.hid (B8.out.trans (hb.mono (by omega)))
      go_wp2
      go_ret
      exact ⟨rfl, B9.out⟩
    · have hz2' : z2 = -1 := by rw [← hz2, if_neg h2]
      subst hz2'
      clear hz2 hz1'
      go_enter Try.func3, Try.ntmps3
      go_wp2_with fail
      refine (szFrame_eq (by omega) (by omega) (by omega) HZ1.out _).mono ?_
      rintro e w1 ⟨rfl, hw1⟩
      have hs1 := hw1.size
      simp at hs1
      have hb1 := blk_below (blk_new1 w (.cells #[.int .i64 x, .int .i64 y, .slice A n c] 24) (.cells #[.int .i64 x', .int .i64 y', .slice A' n' c'] 24)) hw1
      have hcb1 := blk_cell hb1
      have hlb1 := blk_lt hb1
      go_wp2_with fail
      refine (szFrame_eq (by omega) hb0.1 hb0.2 HZ2.out _).mono ?_
      rintro e w2 ⟨rfl, hw2⟩
      go_wp2
      go_ret
      exact ⟨rfl, by (repeat' (first | (with_reducible exact Below.refl _ _) | (with_reducible assumption) | (with_reducible refine Below.alloc ?_ ?_ _) | (with_reducible refine below_drewN ?_ _) | (with_reducible refine Below.drew ?_) | (with_reducible refine Below.setCell ?_ ?_ _) | (with_reducible refine below_call (by assumption) ?_ ?_) | (with_reducible refine below_grown (by assumption) ?_ ?_ ?_) | omega | (simp; done) | (simp; omega)))⟩
  · have hz1' : z1 = -1 := by rw [← hz1, if_neg h1]
    subst hz1'
    clear hz1
    go_enter Try.func3, Try.ntmps3
    go_wp2_with fail
    refine (szFrame_eq (by omega) (by omega) (by omega) HZ1.out _).mono ?_
    rintro e w1 ⟨rfl, hw1⟩
    go_wp2
    go_ret
    exact ⟨rfl, by (repeat' (first | (with_reducible exact Below.refl _ _) | (with_reducible assumption) | (with_reducible refine Below.alloc ?_ ?_ _) | (with_reducible refine below_drewN ?_ _) | (with_reducible refine Below.drew ?_) | (with_reducible refine Below.setCell ?_ ?_ _) | (with_reducible refine below_call (by assumption) ?_ ?_) | (with_reducible refine below_grown (by assumption) ?_ ?_ ?_) | omega | (simp; done) | (simp; omega)))⟩

theorem FnExactFrameGap_own : ownKnob Try.prog.godebug = none := by kernel_rfl
theorem FnExactFrameGap_laid : laidOutB Try.prog = true := by kernel_rfl

set_option maxRecDepth 100000 in
theorem FnExactFrameGap_lifted (os : Os) (started : os.Started) (H : Type) (enc : TypeId × Value → H) :
    ReturnsInHanded {} Try.checked os 3 .any (Rows.fnExactFrameGapSpec.pre6 enc Try.prog Try.f3 Rows.fnExactFrameGapRow.domain false) (Rows.fnExactFrameGapSpec.post enc Try.prog Try.f3 false true false false) := by
  refine returnsInHanded_of_change (C := Try.checked) FnExactFrameGap_own started (by kernel_rfl) Try.func3
    (ChangeSpec.witness6 (enc := enc) (C := Try.checked) false ⟨#[], #[.agg #[.int .i64 0, .int .i64 0, .slice none 0 0], .agg #[.int .i64 0, .int .i64 0, .slice none 0 0]], []⟩ 8 (by kernel_rfl) (by kernel_rfl) (by kernel_rfl) (by kernel_rfl)) ?_
  intro W base args ds gs before hval0 hW hcnd _
  have hval : ∀ (j : Nat) t v, Try.f3.params[j]? = some t → args[j]? = some v → Value.okWide Try.prog W .any base t v := hval0
  have hW' := hW
  obtain ⟨p, q, hA0, hV, rfl, hfz, hnd⟩ := hW
  have hA : DataW.TrodAll enc Try.prog W 0 (fun _ => true) true Try.f3.params.toList args.toList ds p := hA0
  rw [Try.params3] at hA hval
  obtain ⟨v0, vs0, d0, ds0, p0, q0, hargs, rfl, rfl, h0, r0⟩ := trodAll_cons hA
  obtain ⟨v1, vs1, d1, ds1, p1, q1, rfl, rfl, rfl, h1, r1⟩ := trodAll_cons r0
  obtain ⟨rfl, rfl, rfl⟩ := trodAll_nil r1
  obtain rfl : args = #[v0, v1] := by cases args; simp_all
  obtain ⟨rfl, rfl⟩ := trodVars_none hV
  have k0 := h0
  have lt0 : ∀ x ∈ p0, x.block < W.heap.size := by obtain ⟨m, hm⟩ := k0; exact DataW.trod_lt m _ _ _ hm
  obtain ⟨x0, y0, a0, len0, cap0, rfl, mx0, l0, w0⟩ := frame_of (e := 73) (by kernel_rfl) Try.underlying24 (by kernel_rfl) (by kernel_rfl) rfl Try.underlying73 (by kernel_rfl) (by kernel_rfl) (by kernel_rfl) (hval 0 24 v0 rfl rfl) h0
  have k1 := h1
  have lt1 : ∀ x ∈ p1, x.block < W.heap.size := by obtain ⟨m, hm⟩ := k1; exact DataW.trod_lt m _ _ _ hm
  obtain ⟨x1, y1, a1, len1, cap1, rfl, mx1, l1, w1⟩ := frame_of (e := 73) (by kernel_rfl) Try.underlying24 (by kernel_rfl) (by kernel_rfl) rfl Try.underlying73 (by kernel_rfl) (by kernel_rfl) (by kernel_rfl) (hval 1 24 v1 rfl rfl) h1
  clear hA0 hval0
  refine (FnExactFrameGap_walk W _ _ _ _ _ _ w0 mx0 _ _ _ _ _ _ w1 mx1).mono fun e W' ⟨he, bel⟩ => ?_
  subst he
  exact ⟨_, rfl, _, _, _, [], _, [], hW', trodAll_mk1 (shut_bool Try.underlying4 _), (trodAll_cons_mk (Below.trod FnExactFrameGap_laid (by kernel_rfl) (of_decide_eq_true (by kernel_rfl)) k0 bel lt0) (trodAll_cons_mk (Below.trod FnExactFrameGap_laid (by kernel_rfl) (of_decide_eq_true (by kernel_rfl)) k1 bel lt1) trodAll_mk0)), rfl, bel.frame _, fun h => by cases h⟩

theorem FnExactFrameGap_over : Rows.fnExactFrameGapRow.holds Try.pinned (OpenSpec.ofChange Rows.fnExactFrameGapSpec) :=
  OpenClaim.holds_of_wide 3 Try.f3 rfl rfl rfl rfl rfl rfl rfl ⟨rfl, rfl, rfl, rfl, rfl⟩ rfl rfl rfl rfl rfl (by kernel_rfl) Try.func3 (by kernel_rfl)
    (of_decide_eq_true (by kernel_rfl)) (by unfold Func.isWrapper; first | (rw [if_pos (by decide +kernel)]; kernel_rfl) | (rw [if_neg (by decide +kernel)]; exact ⟨rfl, rfl⟩))
    (fun os started H enc _ => FnExactFrameGap_lifted os started H enc)

/-- The statement. -/
theorem FnExactFrameGap_holds : Rows.FnExactFrameGapSaid := FnExactFrameGap_over
#print axioms FnExactFrameGap_holds

end Go.Proofs.Ytiocgklfkckomaa
