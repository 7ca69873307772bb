/-
  Rings compared; rings reversed.
-/
import Derived.Test.YtmddkhincpibhaaRings
import Derived.Test.YtmddkhincpibhaaLPts
namespace Go.Proofs.Ytmddkhincpibhaa
open Go.RowKit Pl

set_option linter.unusedSimpArgs false
set_option linter.unusedVariables false

/-- Slices of points that come back. -/
def RetRs (L : List (List Pt)) (w : World) (e : Ending) (w' : World) : Prop := ∃ v, e = .returned v ∧ OwnRs w.heap.size w' v L ∧ Below w.heap.size w w'

set_option maxHeartbeats 1000000 in
theorem equalRings_same {A A' : Option Addr} {n : Nat} {L : List (List Pt)} {w : World} (c c' : Nat) (h : IsRs w A n L) (h' : IsRs w A' n L) (hn : n ≤ 1000000000000) (hr : ∀ r ∈ L, r.length ≤ 1000000000000) :
    Calls Try.prog 37 #[.slice A n c, .slice A' n c'] w fun e w' => e = .returned (.bool true) ∧ Below w.heap.size w w' := by
  have HP := Lib.hid h
  have HP' := Lib.hid h'
  have HR := Lib.hid hr
  clear h h' hr
  go_enter Try.func37, Try.ntmps37
  go_wp2
  go_loopw [5] (fun i wr => ∃ k : Nat, k ≤ n ∧ i = .int .i64 k ∧ Below w.heap.size w wr) (fun i _ => n - (intOf i).toNat)
  case atStart => exact ⟨0, by omega, rfl, by (repeat' (first | (with_reducible exact Below.refl _ _) | (with_reducible assumption) | (with_reducible refine Below.alloc ?_ ?_ _) | (with_reducible refine below_drewN ?_ _) | (with_reducible refine Below.drew ?_) | (with_reducible refine Below.setCell ?_ ?_ _) | (with_reducible refine below_call (by assumption) ?_ ?_) | (with_reducible refine below_grown (by assumption) ?_ ?_ ?_) | omega | (simp; done) | (simp; omega)))⟩
  case round =>
    obtain ⟨k, hk, rfl, hbel⟩ := hrel
    have hsz := hbel.size
    by_cases hlt : k < n
    · have eb : decide ((k : Int) < n) = true := by simp; omega
      have hki : (k : Int) < n := by omega
      obtain ⟨r, b, o, B, d, hr, rfl, hbl, c0, q1, q2, q3⟩ := (HP.out.below hbel).at_ hlt
      obtain ⟨r', b', o', B', d', hr', rfl, hbl', c0', q1', q2', q3'⟩ := (HP'.out.below hbel).at_ hlt
      obtain rfl : r = r' := by rw [hr] at hr'; exact Option.some.inj hr'
      have hrl : r.length ≤ 1000000000000 := HR.out r (List.mem_of_getElem? hr)
      obtain ⟨nr, hnr⟩ : ∃ m, r.length = m := ⟨_, rfl⟩
      rw [hnr] at c0 c0' q3 q3' hrl
      have Q3 := Lib.hid q3
      have Q3' := Lib.hid q3'
      have HN := Lib.hid hnr
      clear hr hr' q1 q2 q3 q1' q2' q3' hnr
      go_wp2_with fail
      apply wp_region_pure (by kernel_rfl) ([] :: [] :: [0, 1] :: [2] :: [] :: [] :: [4, 5] :: [6] :: [3, 7] :: [8] :: []) (RS.det [] _ :: RS.det [] _ :: RS.det [0, 1] _ :: RS.det [2] _ :: RS.det [] _ :: RS.det [] _ :: RS.det [4, 5] _ :: RS.det [6] _ :: RS.det [3, 7] _ :: RS.det [8] _ :: []) [] rfl (by kernel_rfl) (fun h => absurd rfl h) (by kernel_rfl) (by kernel_rfl) (st_det (st_det (st_det (st_det (st_det (st_det (st_det (st_det (st_det (st_det st_nil)))))))))) _ (fun v => by simp; rfl)
      case hop =>
        simp only [Obls]
        refine ⟨?_, ?_, ?_, ?_, ?_, ?_, ?_, ?_, ?_, ?_, trivial⟩
        · (intro v w1 K hb hF hK; (try simp at hF); simp at hK; (try simp only [hF] at hK); have hz := hb.size; (try simp at hz))
          go_simp
          (try simp only [])
          exact hK _ _ rfl (by (repeat' (first | (with_reducible exact Below.refl _ _) | (with_reducible assumption) | (with_reducible refine Below.alloc ?_ ?_ _) | (with_reducible refine below_drewN ?_ _) | (with_reducible refine Below.drew ?_) | (with_reducible refine Below.setCell ?_ ?_ _) | (with_reducible refine below_call (by assumption) ?_ ?_) | go_size)))
        · (intro v w1 K hb hF hK; (try simp at hF); simp at hK; (try simp only [hF] at hK); have hz := hb.size; (try simp at hz))
          go_simp
          (try simp only [])
          exact hK _ _ rfl (by (repeat' (first | (with_reducible exact Below.refl _ _) | (with_reducible assumption) | (with_reducible refine Below.alloc ?_ ?_ _) | (with_reducible refine below_drewN ?_ _) | (with_reducible refine Below.drew ?_) | (with_reducible refine Below.setCell ?_ ?_ _) | (with_reducible refine below_call (by assumption) ?_ ?_) | go_size)))
        · (intro v w1 K hb hF hK; (try simp at hF); simp at hK; (try simp only [hF] at hK); have hz := hb.size; (try simp at hz))
          go_simp
          (try simp only [])
          exact hK _ _ rfl (by (repeat' (first | (with_reducible exact Below.refl _ _) | (with_reducible assumption) | (with_reducible refine Below.alloc ?_ ?_ _) | (with_reducible refine below_drewN ?_ _) | (with_reducible refine Below.drew ?_) | (with_reducible refine Below.setCell ?_ ?_ _) | (with_reducible refine below_call (by assumption) ?_ ?_) | go_size)))
        · (intro v w1 K hb hF hK; (try simp at hF); simp at hK; (try simp only [hF] at hK); have hz := hb.size; (try simp at hz); (try (have hk := bcl hb (b) (by first | omega | (simp; done) | (simp; omega)); have hc := hk.1; have hf := hk.2.1; have hk := hk.2.2)); (try (have hk := bcl hb (b') (by first | omega | (simp; done) | (simp; omega)); have hc := hk.1; have hf := hk.2.1; have hk := hk.2.2)))
          go_simp
          (try simp only [])
          exact hK _ _ rfl (by (repeat' (first | (with_reducible exact Below.refl _ _) | (with_reducible assumption) | (with_reducible refine Below.alloc ?_ ?_ _) | (with_reducible refine below_drewN ?_ _) | (with_reducible refine Below.drew ?_) | (with_reducible refine Below.setCell ?_ ?_ _) | (with_reducible refine below_call (by assumption) ?_ ?_) | go_size)))
        · (intro v w1 K hb hF hK; (try simp at hF); simp at hK; (try simp only [hF] at hK); have hz := hb.size; (try simp at hz))
          go_simp
          (try simp only [])
          exact hK _ _ rfl (by (repeat' (first | (with_reducible exact Below.refl _ _) | (with_reducible assumption) | (with_reducible refine Below.alloc ?_ ?_ _) | (with_reducible refine below_drewN ?_ _) | (with_reducible refine Below.drew ?_) | (with_reducible refine Below.setCell ?_ ?_ _) | (with_reducible refine below_call (by assumption) ?_ ?_) | go_size)))
        · (intro v w1 K hb hF hK; (try simp at hF); simp at hK; (try simp only [hF] at hK); have hz := hb.size; (try simp at hz))
          go_simp
          (try simp only [])
          exact hK _ _ rfl (by (repeat' (first | (with_reducible exact Below.refl _ _) | (with_reducible assumption) | (with_reducible refine Below.alloc ?_ ?_ _) | (with_reducible refine below_drewN ?_ _) | (with_reducible refine Below.drew ?_) | (with_reducible refine Below.setCell ?_ ?_ _) | (with_reducible refine below_call (by assumption) ?_ ?_) | go_size)))
        · (intro v w1 K hb hF hK; (try simp at hF); simp at hK; (try simp only [hF] at hK); have hz := hb.size; (try simp at hz))
          go_simp
          (try simp only [])
          exact hK _ _ rfl (by (repeat' (first | (with_reducible exact Below.refl _ _) | (with_reducible assumption) | (with_reducible refine Below.alloc ?_ ?_ _) | (with_reducible refine below_drewN ?_ _) | (with_reducible refine Below.drew ?_) | (with_reducible refine Below.setCell ?_ ?_ _) | (with_reducible refine below_call (by assumption) ?_ ?_) | go_size)))
        · (intro v w1 K hb hF hK; (try simp at hF); simp at hK; (try simp only [hF] at hK); have hz := hb.size; (try simp at hz); (try (have hk := bcl hb (b) (by first | omega | (simp; done) | (simp; omega)); have hc := hk.1; have hf := hk.2.1; have hk := hk.2.2)); (try (have hk := bcl hb (b') (by first | omega | (simp; done) | (simp; omega)); have hc := hk.1; have hf := hk.2.1; have hk := hk.2.2)))
          go_simp
          (try simp only [])
          exact hK _ _ rfl (by (repeat' (first | (with_reducible exact Below.refl _ _) | (with_reducible assumption) | (with_reducible refine Below.alloc ?_ ?_ _) | (with_reducible refine below_drewN ?_ _) | (with_reducible refine Below.drew ?_) | (with_reducible refine Below.setCell ?_ ?_ _) | (with_reducible refine below_call (by assumption) ?_ ?_) | go_size)))
        · (intro v w1 K hb hF hK; (try simp at hF); simp at hK; (try simp only [hF] at hK); have hz := hb.size; (try simp at hz); (try (have hk := bcl hb (b) (by first | omega | (simp; done) | (simp; omega)); have hc := hk.1; have hf := hk.2.1; have hk := hk.2.2)); (try (have hk := bcl hb (b') (by first | omega | (simp; done) | (simp; omega)); have hc := hk.1; have hf := hk.2.1; have hk := hk.2.2)))
          go_simp
          (first | (go_at_call 18; (with_reducible refine (equalPoints_same _ _ (Q3.out.below hb) (Q3'.out.below hb) hrl).mono ?_); rintro e w1 ⟨rfl, hb⟩; have hz := hb.size; (try simp at hz); (try (have hk := bcl hb (b) (by first | omega | (simp; done) | (simp; omega)); have hc := hk.1; have hf := hk.2.1; have hk := hk.2.2)); (try (have hk := bcl hb (b') (by first | omega | (simp; done) | (simp; omega)); have hc := hk.1; have hf := hk.2.1; have hk := hk.2.2))))
          (try simp only [])
          exact hK _ _ rfl (by (repeat' (first | (with_reducible exact Below.refl _ _) | (with_reducible assumption) | (with_reducible refine Below.alloc ?_ ?_ _) | (with_reducible refine below_drewN ?_ _) | (with_reducible refine Below.drew ?_) | (with_reducible refine Below.setCell ?_ ?_ _) | (with_reducible refine below_call (by assumption) ?_ ?_) | go_size)))
        · (intro v w1 K hb hF hK; (try simp at hF); simp at hK; (try simp only [hF] at hK); have hz := hb.size; (try simp at hz))
          go_simp
          (try simp only [])
          exact hK _ _ rfl (by (repeat' (first | (with_reducible exact Below.refl _ _) | (with_reducible assumption) | (with_reducible refine Below.alloc ?_ ?_ _) | (with_reducible refine below_drewN ?_ _) | (with_reducible refine Below.drew ?_) | (with_reducible refine Below.setCell ?_ ?_ _) | (with_reducible refine below_call (by assumption) ?_ ?_) | go_size)))
      case hfo => exact trivial
      (intro v w1 hb hF; simp [List.range, List.range.loop] at hF; have hz := hb.size; (try simp at hz); (try (have hk := bcl hb (b) (by first | omega | (simp; done) | (simp; omega)); have hc := hk.1; have hf := hk.2.1; have hk := hk.2.2)); (try (have hk := bcl hb (b') (by first | omega | (simp; done) | (simp; omega)); have hc := hk.1; have hf := hk.2.1; have hk := hk.2.2)))
      obtain ⟨e0, e1, e2, e3, e4, e5, e6, e7, e8, e9⟩ := hF
      simp only [List.length_cons, List.length_nil, List.drop_succ_cons, List.drop_zero, e0, e1, e2, e3, e4, e5, e6, e7, e8, e9]
      clear e0 e1 e2 e3 e4 e5 e6 e7 e8 e9 v
      go_wp2
      go_roundw
      case rel => exact ⟨k + 1, by omega, by go_num, by (repeat' (first | (with_reducible exact Below.refl _ _) | (with_reducible assumption) | (with_reducible refine Below.alloc ?_ ?_ _) | (with_reducible refine below_drewN ?_ _) | (with_reducible refine Below.drew ?_) | (with_reducible refine Below.setCell ?_ ?_ _) | (with_reducible refine below_call (by assumption) ?_ ?_) | (with_reducible refine below_grown (by assumption) ?_ ?_ ?_) | omega | (simp; done) | (simp; omega)))⟩
      case measure => simp [intOf]; omega
    · obtain rfl : k = n := by omega
      have eb : decide ((k : Int) < k) = false := by simp
      go_wp2
      go_ret
      exact ⟨rfl, by (repeat' (first | (with_reducible exact Below.refl _ _) | (with_reducible assumption) | (with_reducible refine Below.alloc ?_ ?_ _) | (with_reducible refine below_drewN ?_ _) | (with_reducible refine Below.drew ?_) | (with_reducible refine Below.setCell ?_ ?_ _) | (with_reducible refine below_call (by assumption) ?_ ?_) | (with_reducible refine below_grown (by assumption) ?_ ?_ ?_) | omega | (simp; done) | (simp; omega)))⟩

set_option maxHeartbeats 2000000 in
theorem reversed_any {A : Option Addr} {n : Nat} {L : List (List Pt)} {w : World} (c : Nat) (h : IsRs w A n L) (hn : n ≤ 1000) (hr : ∀ r ∈ L, r.length ≤ 1000) :
    Calls Try.prog 36 #[.slice A n c] w (RetRs (L.map List.reverse) w) := by
  have HP := Lib.hid h
  have HR := Lib.hid hr
  have HL := Lib.hid h.len
  clear h hr
  go_enter Try.func36, Try.ntmps36
  go_wp2
  go_loopw [3, 4] (fun v i wr => ∃ k : Nat, k ≤ n ∧ i = .int .i64 k ∧ OwnRs w.heap.size wr v ((L.map List.reverse).take k) ∧ Below w.heap.size w wr) (fun _ i _ => n - (intOf i).toNat)
  case atStart => exact ⟨0, by omega, rfl, OwnRs.empty rfl (Nat.le_refl _) (blk_new w _), by (repeat' (first | (with_reducible exact Below.refl _ _) | (with_reducible assumption) | (with_reducible refine Below.alloc ?_ ?_ _) | (with_reducible refine below_drewN ?_ _) | (with_reducible refine Below.drew ?_) | (with_reducible refine Below.setCell ?_ ?_ _) | (with_reducible refine below_call (by assumption) ?_ ?_) | (with_reducible refine below_grown (by assumption) ?_ ?_ ?_) | omega | (simp; done) | (simp; omega)))⟩
  case round =>
    obtain ⟨wo, rfl⟩ : ∃ wo : World, wo = wr := ⟨_, rfl⟩
    obtain ⟨k, hk, rfl, hown, hbel⟩ := hrel
    have hsz := hbel.size
    have HO := Lib.hid hown
    clear hown
    by_cases hlt : k < n
    · have eb : decide ((k : Int) < n) = true := by simp; omega
      have hki : (k : Int) < n := by omega
      obtain ⟨r, b, o, B, d, hr, rfl, hbl, c0, q1, q2, q3⟩ := (HP.out.below hbel).at_ hlt
      have hrl : r.length ≤ 1000 := HR.out r (List.mem_of_getElem? hr)
      have HT : Hid ((L.map List.reverse).take k ++ [r.reverse] = (L.map List.reverse).take (k + 1)) := Lib.hid (by
        rw [List.take_add_one, List.getElem?_map, hr]; rfl)
      obtain ⟨nr, hnr⟩ : ∃ m, r.length = m := ⟨_, rfl⟩
      rw [hnr] at c0 q3 hrl
      have Q3 := Lib.hid q3
      have HN := Lib.hid hnr
      clear hr q1 q2 q3 hnr
      have t1 : IntKind.i64.wrap ((nr : Int) - 1) = (nr : Int) - 1 := IntWalk.i64_in _ (by omega)
      go_wp2
      go_loopw [5, 6] (fun v j wr => ∃ t : Nat, t ≤ nr ∧ j = .int .i64 ((nr : Int) - 1 - t) ∧ OwnPts wo.heap.size wr v (r.reverse.take t) ∧ Below wo.heap.size wo wr) (fun _ j _ => (intOf j + 1).toNat)
      case atStart => exact ⟨0, by omega, by simp, OwnPts.empty rfl (Nat.le_refl _) (blk_new wo _), by (repeat' (first | (with_reducible exact Below.refl _ _) | (with_reducible assumption) | (with_reducible refine Below.alloc ?_ ?_ _) | (with_reducible refine below_drewN ?_ _) | (with_reducible refine Below.drew ?_) | (with_reducible refine Below.setCell ?_ ?_ _) | (with_reducible refine below_call (by assumption) ?_ ?_) | (with_reducible refine below_grown (by assumption) ?_ ?_ ?_) | omega | (simp; done) | (simp; omega)))⟩
      case round =>
        obtain ⟨t, ht, rfl, hown, hbel2⟩ := hrel
        have hsz2 := hbel2.size
        have HO2 := Lib.hid hown
        clear hown
        by_cases hlt2 : t < nr
        · obtain ⟨q, hq⟩ : ∃ q : Nat, (nr : Int) - 1 - t = (q : Int) := ⟨nr - 1 - t, by omega⟩
          rw [hq]
          have hqn : q < nr := by omega
          have hqi : (q : Int) < nr := by omega
          have eb2 : decide ((0 : Int) ≤ (q : Int)) = true := decide_eq_true (by omega)
          have c0' : wr.cell? ⟨b, o + k, none⟩ = some (.slice B nr d) := (hbel2.cell (p := ⟨b, o + k, none⟩) hbl).trans c0
          have hbl2 : b < wr.heap.size := by omega
          obtain ⟨b1, o1, rfl, hbl1, d0, d1⟩ := (Q3.out.below hbel2).at_ hqn
          obtain ⟨x, hx⟩ : ∃ x, px r q = x := ⟨_, rfl⟩
          obtain ⟨y, hy⟩ : ∃ y, py r q = y := ⟨_, rfl⟩
          rw [hx] at d0
          rw [hy] at d1
          have HT2 : Hid (r.reverse.take t ++ [(x, y)] = r.reverse.take (t + 1)) := Lib.hid (by
            rw [List.take_add_one, List.getElem?_reverse (by rw [HN.out]; exact hlt2), HN.out, show nr - 1 - t = q by omega, List.getElem?_eq_getElem (by rw [HN.out]; exact hqn), ← hx, ← hy, ← pt_eq (by rw [HN.out]; exact hqn)]; rfl)
          have t2 : IntKind.i64.wrap ((q : Int) - 1) = (q : Int) - 1 := IntWalk.i64_in _ (by omega)
          clear hx hy
          go_wp2_with (at_builtin
                       refine append_pts rfl (.tmp 25) (.tmp 33) rfl wo.heap.size _ _ rfl (HO2.out.below (by (repeat' (first | (with_reducible exact Below.refl _ _) | (with_reducible assumption) | (with_reducible refine Below.alloc ?_ ?_ _) | (with_reducible refine below_drewN ?_ _) | (with_reducible refine Below.drew ?_) | (with_reducible refine Below.setCell ?_ ?_ _) | (with_reducible refine below_call (by assumption) ?_ ?_) | (with_reducible refine below_grown (by assumption) ?_ ?_ ?_) | omega | (simp; done) | (simp; omega))))) wr.heap.size 1 _ _ _ rfl (blk_new wr _) (by rw [List.length_take]; omega) (by simp; omega) ?_
                       intro v3 w3 hown3 hg3)
          go_roundw
          case rel => exact ⟨t + 1, by omega, congrArg (Value.int .i64) (by try omega), by rw [← HT2.out]; exact hown3, Below.grown (by (repeat' (first | (with_reducible exact Below.refl _ _) | (with_reducible assumption) | (with_reducible refine Below.alloc ?_ ?_ _) | (with_reducible refine below_drewN ?_ _) | (with_reducible refine Below.drew ?_) | (with_reducible refine Below.setCell ?_ ?_ _) | (with_reducible refine below_call (by assumption) ?_ ?_) | (with_reducible refine below_grown (by assumption) ?_ ?_ ?_) | omega | (simp; done) | (simp; omega)))) hg3 (by simp; omega) (fun r hr => by have := HO2.out.row r hr; omega)⟩
          case measure => first | (simp [intOf]; done) | (simp [intOf]; omega)
        · obtain rfl : t = nr := by omega
          have eb2 : decide ((0 : Int) ≤ (t : Int) - 1 - t) = false := decide_eq_false (by omega)
          have eb3 : ¬ (0 : Int) ≤ (t : Int) - 1 - t := by omega
          have HO3 : Hid (OwnPts wo.heap.size wr u5 r.reverse) := Lib.hid (by have := HO2.out; rwa [List.take_of_length_le (by rw [List.length_reverse, HN.out]; exact Nat.le_refl _)] at this)
          obtain ⟨A2, c2, e2, hP2, k1, k2, k3⟩ := HO3.out.form
          have hrl2 : r.reverse.length = t := by rw [List.length_reverse, HN.out]
          rw [hrl2] at e2
          subst e2
          have HD : Hid (IsHd wr (.slice A2 t c2) r.reverse) := Lib.hid ⟨A2, c2, by rw [hrl2], k1, k2, hP2⟩
          have HB := Lib.hid (blkA_ge (fun a ha => (k3 a ha).1))
          have RW := Lib.hid HO.out.row
          have HOr := Lib.hid (HO.out.below hbel2)
          have hln : r.reverse.length ≤ 1000 := by rw [List.length_reverse, HN.out]; exact hrl
          clear hP2 k1 k2 k3 hrl2
          go_wp2_with (at_builtin
                       refine append_r rfl (.tmp 35) (.tmp 37) rfl w.heap.size _ _ rfl (HOr.out.below (by (repeat' (first | (with_reducible exact Below.refl _ _) | (with_reducible assumption) | (with_reducible refine Below.alloc ?_ ?_ _) | (with_reducible refine below_drewN ?_ _) | (with_reducible refine Below.drew ?_) | (with_reducible refine Below.setCell ?_ ?_ _) | (with_reducible refine below_call (by assumption) ?_ ?_) | (with_reducible refine below_grown (by assumption) ?_ ?_ ?_) | omega | (simp; done) | (simp; omega))))) wr.heap.size 1 _ r.reverse _ rfl (blk_new wr _) (HD.out.below (by (repeat' (first | (with_reducible exact Below.refl _ _) | (with_reducible assumption) | (with_reducible refine Below.alloc ?_ ?_ _) | (with_reducible refine below_drewN ?_ _) | (with_reducible refine Below.drew ?_) | (with_reducible refine Below.setCell ?_ ?_ _) | (with_reducible refine below_call (by assumption) ?_ ?_) | (with_reducible refine below_grown (by assumption) ?_ ?_ ?_) | omega | (simp; done) | (simp; omega))))) (fun _ => by rw [blkA_own]; exact (Sep.far (fun g hg => (RW.out g hg).2) HB.out).symm) (by rw [List.length_take]; omega) (by simp; omega) ?_
                       intro v3 w3 hown3 hg3 ha3)
          go_roundw
          case rel => exact ⟨k + 1, by omega, by go_num, by rw [← HT.out]; exact hown3, below_own hg3 (by (repeat' (first | (with_reducible exact Below.refl _ _) | (with_reducible assumption) | (with_reducible refine Below.alloc ?_ ?_ _) | (with_reducible refine below_drewN ?_ _) | (with_reducible refine Below.drew ?_) | (with_reducible refine Below.setCell ?_ ?_ _) | (with_reducible refine below_call (by assumption) ?_ ?_) | (with_reducible refine below_grown (by assumption) ?_ ?_ ?_) | omega | (simp; done) | (simp; omega)))) (by simp; omega) (fun r hr => (RW.out r hr).1)⟩
          case measure => simp [intOf]; omega
    · obtain rfl : k = n := by omega
      have eb : decide ((k : Int) < k) = false := by simp
      have HD : Hid (OwnRs w.heap.size wo u3 (L.map List.reverse)) := Lib.hid (by have := HO.out; rwa [List.take_of_length_le (by rw [List.length_map, HL.out]; exact Nat.le_refl _)] at this)
      go_wp2
      go_ret
      exact ⟨_, rfl, HD.out, by (repeat' (first | (with_reducible exact Below.refl _ _) | (with_reducible assumption) | (with_reducible refine Below.alloc ?_ ?_ _) | (with_reducible refine below_drewN ?_ _) | (with_reducible refine Below.drew ?_) | (with_reducible refine Below.setCell ?_ ?_ _) | (with_reducible refine below_call (by assumption) ?_ ?_) | (with_reducible refine below_grown (by assumption) ?_ ?_ ?_) | omega | (simp; done) | (simp; omega)))⟩

end Go.Proofs.Ytmddkhincpibhaa
