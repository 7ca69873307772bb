/-
  Rings compared; rings reversed.
-/
import Derived.Test.YtbiddmimcdmnoaaRings
import Derived.Test.YtbiddmimcdmnoaaLPts
namespace Go.Proofs.Ytbiddmimcdmnoaa
open Go.RowKit Pl

set_option linter.unusedSimpArgs false
set_option linter.unusedVariables false

/-- Slices of points that come back. -/
def RetRs (L : List (List Pt)) (w : World) (e : Ending) (w' : World) : Prop := ∃ v, e = .returned v ∧ OwnRs w.heap.size w' v L ∧ Below w.heap.size w w'

set_option maxHeartbeats 1000000 in
theorem equalRings_same {A A' : Option Addr} {n : Nat} {L : List (List Pt)} {w : World} (c c' : Nat) (h : IsRs w A n L) (h' : IsRs w A' n L) (hn : n ≤ 1000000000000) (hr : ∀ r ∈ L, r.length ≤ 1000000000000) :
    Calls Try.prog 16 #[.slice A n c, .slice A' n c'] w fun e w' => e = .returned (.bool true) ∧ Below w.heap.size w w' := by
  have HP := Lib.hid h
  have HP' := Lib.hid h'
  have HR := Lib.hid hr
  clear h h' hr
  go_enter Try.func16, Try.ntmps16
  go_wp2
  go_loopw [5] (fun i wr => ∃ k : Nat, k ≤ n ∧ i = .int .i64 k ∧ Below w.heap.size w wr) (fun i _ => n - (intOf i).toNat)
  case atStart => exact ⟨0, by omega, rfl, by (repeat' (first | (with_reducible exact Below.refl _ _) | (with_reducible assumption) | (with_reducible refine Below.alloc ?_ ?_ _) | (with_reducible refine below_drewN ?_ _) | (with_reducible refine Below.drew ?_) | (with_reducible refine Below.setCell ?_ ?_ _) | (with_reducible refine below_call (by assumption) ?_ ?_) | (with_reducible refine below_grown (by assumption) ?_ ?_ ?_) | omega | (simp; done) | (simp; omega)))⟩
  case round =>
    obtain ⟨k, hk, rfl, hbel⟩ := hrel
    have hsz := hbel.size
    by_cases hlt : k < n
    · have eb : decide ((k : Int) < n) = true := by simp; omega
      have hki : (k : Int) < n := by omega
      obtain ⟨r, b, o, B, d, hr, rfl, hbl, c0, q1, q2, q3⟩ := (HP.out.below hbel).at_ hlt
      obtain ⟨r', b', o', B', d', hr', rfl, hbl', c0', q1', q2', q3'⟩ := (HP'.out.below hbel).at_ hlt
      obtain rfl : r = r' := by rw [hr] at hr'; exact Option.some.inj hr'
      have hrl : r.length ≤ 1000000000000 := HR.out r (List.mem_of_getElem? hr)
      obtain ⟨nr, hnr⟩ : ∃ m, r.length = m := ⟨_, rfl⟩
      rw [hnr] at c0 c0' q3 q3' hrl
      have Q3 := Lib.hid q3
      have Q3' := Lib.hid q3'
      have HN := Lib.hid hnr
      clear hr hr' q1 q2 q3 q1' q2' q3' hnr
      go_wp2_with fail
      apply wp_region_pure (by kernel_rfl) ([] :: [] :: [0, 1] :: [2] :: [] :: [] :: [4, 5] :: [6] :: [3, 7] :: [8] :: []) (RS.det [] _ :: RS.det [] _ :: RS.det [0, 1] _ :: RS.det [2] _ :: RS.det [] _ :: RS.det [] _ :: RS.det [4, 5] _ :: RS.det [6] _ :: RS.det [3, 7] _ :: RS.det [8] _ :: []) [] rfl (by kernel_rfl) (fun h => absurd rfl h) (by kernel_rfl) (by kernel_rfl) (st_det (st_det (st_det (st_det (st_det (st_det (st_det (st_det (st_det (st_det st_nil)))))))))) _ (fun v => by simp; rfl)
      case hop =>
        simp only [Obls]
        refine ⟨?_, ?_, ?_, ?_, ?_, ?_, ?_, ?_, ?_, ?_, trivial⟩
        · (intro v w1 K hb hF hK; (try simp at hF); simp at hK; (try simp only [hF] at hK); have hz := hb.size; (try simp at hz))
          go_simp
          (try simp only [])
          exact hK _ _ rfl (by (repeat' (first | (with_reducible exact Below.refl _ _) | (with_reducible assumption) | (with_reducible refine Below.alloc ?_ ?_ _) | (with_reducible refine below_drewN ?_ _) | (with_reducible refine Below.drew ?_) | (with_reducible refine Below.setCell ?_ ?_ _) | (with_reducible refine below_call (by assumption) ?_ ?_) | go_size)))
        · (intro v w1 K hb hF hK; (try simp at hF); simp at hK; (try simp only [hF] at hK); have hz := hb.size; (try simp at hz))
          go_simp
          (try simp only [])
          exact hK _ _ rfl (by (repeat' (first | (with_reducible exact Below.refl _ _) | (with_reducible assumption) | (with_reducible refine Below.alloc ?_ ?_ _) | (with_reducible refine below_drewN ?_ _) | (with_reducible refine Below.drew ?_) | (with_reducible refine Below.setCell ?_ ?_ _) | (with_reducible refine below_call (by assumption) ?_ ?_) | go_size)))
        · (intro v w1 K hb hF hK; (try simp at hF); simp at hK; (try simp only [hF] at hK); have hz := hb.size; (try simp at hz))
          go_simp
          (try simp only [])
          exact hK _ _ rfl (by (repeat' (first | (with_reducible exact Below.refl _ _) | (with_reducible assumption) | (with_reducible refine Below.alloc ?_ ?_ _) | (with_reducible refine below_drewN ?_ _) | (with_reducible refine Below.drew ?_) | (with_reducible refine Below.setCell ?_ ?_ _) | (with_reducible refine below_call (by assumption) ?_ ?_) | go_size)))
        · (intro v w1 K hb hF hK; (try simp at hF); simp at hK; (try simp only [hF] at hK); have hz := hb.size; (try simp at hz); (try (have hk := bcl hb (b) (by first | omega | (simp; done) | (simp; omega)); have hc := hk.1; have hf := hk.2.1; have hk := hk.2.2)); (try (have hk := bcl hb (b') (by first | omega | (simp; done) | (simp; omega)); have hc := hk.1; have hf := hk.2.1; have hk := hk.2.2)))
          go_simp
          (try simp only [])
          exact hK _ _ rfl (by (repeat' (first | (with_reducible exact Below.refl _ _) | (with_reducible assumption) | (with_reducible refine Below.alloc ?_ ?_ _) | (with_reducible refine below_drewN ?_ _) | (with_reducible refine Below.drew ?_) | (with_reducible refine Below.setCell ?_ ?_ _) | (with_reducible refine below_call (by assumption) ?_ ?_) | go_size)))
        · (intro v w1 K hb hF hK; (try simp at hF); simp at hK; (try simp only [hF] at hK); have hz := hb.size; (try simp at hz))
          go_simp
          (try simp only [])
          exact hK _ _ rfl (by (repeat' (first | (with_reducible exact Below.refl _ _) | (with_reducible assumption) | (with_reducible refine Below.alloc ?_ ?_ _) | (with_reducible refine below_drewN ?_ _) | (with_reducible refine Below.drew ?_) | (with_reducible refine Below.setCell ?_ ?_ _) | (with_reducible refine below_call (by assumption) ?_ ?_) | go_size)))
        · (intro v w1 K hb hF hK; (try simp at hF); simp at hK; (try simp only [hF] at hK); have hz := hb.size; (try simp at hz))
          go_simp
          (try simp only [])
          exact hK _ _ rfl (by (repeat' (first | (with_reducible exact Below.refl _ _) | (with_reducible assumption) | (with_reducible refine Below.alloc ?_ ?_ _) | (with_reducible refine below_drewN ?_ _) | (with_reducible refine Below.drew ?_) | (with_reducible refine Below.setCell ?_ ?_ _) | (with_reducible refine below_call (by assumption) ?_ ?_) | go_size)))
        · (intro v w1 K hb hF hK; (try simp at hF); simp at hK; (try simp only [hF] at hK); have hz := hb.size; (try simp at hz))
          go_simp
          (try simp only [])
          exact hK _ _ rfl (by (repeat' (first | (with_reducible exact Below.refl _ _) | (with_reducible assumption) | (with_reducible refine Below.alloc ?_ ?_ _) | (with_reducible refine below_drewN ?_ _) | (with_reducible refine Below.drew ?_) | (with_reducible refine Below.setCell ?_ ?_ _) | (with_reducible refine below_call (by assumption) ?_ ?_) | go_size)))
        · (intro v w1 K hb hF hK; (try simp at hF); simp at hK; (try simp only [hF] at hK); have hz := hb.size; (try simp at hz); (try (have hk := bcl hb (b) (by first | omega | (simp; done) | (simp; omega)); have hc := hk.1; have hf := hk.2.1; have hk := hk.2.2)); (try (have hk := bcl hb (b') (by first | omega | (simp; done) | (simp; omega)); have hc := hk.1; have hf := hk.2.1; have hk := hk.2.2)))
          go_simp
          (try simp only [])
          exact hK _ _ rfl (by (repeat' (first | (with_reducible exact Below.refl _ _) | (with_reducible assumption) | (with_reducible refine Below.alloc ?_ ?_ _) | (with_reducible refine below_drewN ?_ _) | (with_reducible refine Below.drew ?_) | (with_reducible refine Below.setCell ?_ ?_ _) | (with_reducible refine below_call (by assumption) ?_ ?_) | go_size)))
        · (intro v w1 K hb hF hK; (try simp at hF); simp at hK; (try simp only [hF] at hK); have hz := hb.size; (try simp at hz); (try (have hk := bcl hb (b) (by first | omega | (simp; done) | (simp; omega)); have hc := hk.1; have hf := hk.2.1; have hk := hk.2.2)); (try (have hk := bcl hb (b') (by first | omega | (simp; done) | (simp; omega)); have hc := hk.1; have hf := hk.2.1; have hk := hk.2.2)))
          go_simp
          (first | (go_at_call 34; (with_reducible refine (equalPoints_same _ _ (Q3.out.below hb) (Q3'.out.below hb) hrl).mono ?_); rintro e w1 ⟨rfl, hb⟩; have hz := hb.size; (try simp at hz); (try (have hk := bcl hb (b) (by first | omega | (simp; done) | (simp; omega)); have hc := hk.1; have hf := hk.2.1; have hk := hk.2.2)); (try (have hk := bcl hb (b') (by first | omega | (simp; done) | (simp; omega)); have hc := hk.1; have hf := hk.2.1; have hk := hk.2.2))))
          (try simp only [])
          exact hK _ _ rfl (by (repeat' (first | (with_reducible exact Below.refl _ _) | (with_reducible assumption) | (with_reducible refine Below.alloc ?_ ?_ _) | (with_reducible refine below_drewN ?_ _) | (with_reducible refine Below.drew ?_) | (with_reducible refine Below.setCell ?_ ?_ _) | (with_reducible refine below_call (by assumption) ?_ ?_) | go_size)))
        · (intro v w1 K hb hF hK; (try simp at hF); simp at hK; (try simp only [hF] at hK); have hz := hb.size; (try simp at hz))
          go_simp
          (try simp only [])
          exact hK _ _ rfl (by (repeat' (first | (with_reducible exact Below.refl _ _) | (with_reducible assumption) | (with_reducible refine Below.alloc ?_ ?_ _) | (with_reducible refine below_drewN ?_ _) | (with_reducible refine Below.drew ?_) | (with_reducible refine Below.setCell ?_ ?_ _) | (with_reducible refine below_call (by assumption) ?_ ?_) | go_size)))
      case hfo => exact trivial
      (intro v w1 hb hF; simp [List.range, List.range.loop] at hF; have hz := hb.size; (try simp at hz); (try (have hk := bcl hb (b) (by first | omega | (simp; done) | (simp; omega)); have hc := hk.1; have hf := hk.2.1; have hk := hk.2.2)); (try (have hk := bcl hb (b') (by first | omega | (simp; done) | (simp; omega)); have hc := hk.1; have hf := hk.2.1; have hk := hk.2.2)))
      obtain ⟨e0, e1, e2, e3, e4, e5, e6, e7, e8, e9⟩ := hF
      simp only [List.length_cons, List.length_nil, List.drop_succ_cons, List.drop_zero, e0, e1, e2, e3, e4, e5, e6, e7, e8, e9]
      clear e0 e1 e2 e3 e4 e5 e6 e7 e8 e9 v
      go_wp2
      go_roundw
      case rel => exact ⟨k + 1, by omega, by go_num, by (repeat' (first | (with_reducible exact Below.refl _ _) | (with_reducible assumption) | (with_reducible refine Below.alloc ?_ ?_ _) | (with_reducible refine below_drewN ?_ _) | (with_reducible refine Below.drew ?_) | (with_reducible refine Below.setCell ?_ ?_ _) | (with_reducible refine below_call (by assumption) ?_ ?_) | (with_reducible refine below_grown (by assumption) ?_ ?_ ?_) | omega | (simp; done) | (simp; omega)))⟩
      case measure => simp [intOf]; omega
    · obtain rfl : k = n := by omega
      have eb : decide ((k : Int) < k) = false := by simp
      go_wp2
      go_ret
      exact ⟨rfl, by (repeat' (first | (with_reducible exact Below.refl _ _) | (with_reducible assumption) | (with_reducible refine Below.alloc ?_ ?_ _) | (with_reducible refine below_drewN ?_ _) | (with_reducible refine Below.drew ?_) | (with_reducible refine Below.setCell ?_ ?_ _) | (with_reducible refine below_call (by assumption) ?_ ?_) | (with_reducible refine below_grown (by assumption) ?_ ?_ ?_) | omega | (simp; done) | (simp; omega)))⟩

end Go.Proofs.Ytbiddmimcdmnoaa
