/-
  What the functions on lists of numbers return: copies, ranges, comparisons.
-/
import Derived.Test.YtclfocdghbmmlaaInts
namespace Go.Proofs.Ytclfocdghbmmlaa
open Go.RowKit Pl

set_option linter.unusedSimpArgs false
set_option linter.unusedVariables false

set_option maxHeartbeats 1000000 in
theorem CloneI_nil (c : Nat) (w : World) : Calls Try.prog 74 #[.slice none 0 c] w fun e w' => e = .returned (.slice none 0 0) ∧ w = w' := by
  have hn := fun (w : World) => Lib.run_eql_slice_nil (P := Try.prog) w 22 3 none 0 c 0 0 Try.underlying22
  go_enter Try.func74, Try.ntmps74
  go_wp2
  go_ret
  exact ⟨rfl, rfl⟩

set_option maxHeartbeats 1000000 in
theorem CloneI_some {a : Addr} {n : Nat} {l : List Int} {w : World} (c : Nat) (hp : IsI w (some a) n l) (hn : n ≤ 900000) :
    Calls Try.prog 74 #[.slice (some a) n c] w fun e w' => ∃ v, e = .returned v ∧ OwnI w.heap.size w' v l ∧ Below w.heap.size w w' := by
  have hnl := fun (w : World) => Lib.run_eql_slice_nil (P := Try.prog) w 22 3 (some a) n c 0 0 Try.underlying22
  have hl := hp.len
  have Hp := Lib.hid hp
  clear hp
  go_enter Try.func74, Try.ntmps74
  go_wp2_with (at_builtin
               refine append_is rfl (.tmp 5) (.tmp 6) rfl w.heap.size (.slice (some ⟨w.heap.size, 0, none⟩) 0 0) [] rfl (OwnI.empty rfl (Nat.le_refl _) (blk_new w _)) a n c l rfl (Hp.out.below (by (repeat' (first | (with_reducible exact Below.refl _ _) | (with_reducible assumption) | (with_reducible refine Below.alloc ?_ ?_ _) | (with_reducible refine below_drewN ?_ _) | (with_reducible refine Below.drew ?_) | (with_reducible refine Below.setCell ?_ ?_ _) | (with_reducible refine below_call (by assumption) ?_ ?_) | go_size)))) (by simp; omega) (by simp) ?_
               intro v1 w1 hown1 hg1 _)
  go_ret
  simp only [List.nil_append] at hown1
  exact ⟨v1, rfl, hown1, below_own hg1 (by (repeat' (first | (with_reducible exact Below.refl _ _) | (with_reducible assumption) | (with_reducible refine Below.alloc ?_ ?_ _) | (with_reducible refine below_drewN ?_ _) | (with_reducible refine Below.drew ?_) | (with_reducible refine Below.setCell ?_ ?_ _) | (with_reducible refine below_call (by assumption) ?_ ?_) | go_size))) (by simp) (fun g hg => by simp only [Value.ownBlock, Option.some.injEq] at hg; omega)⟩

set_option maxHeartbeats 400000 in
theorem ClipI_eq {A : Option Addr} {n c : Nat} (hc : n ≤ c) (hm : c ≤ maxLen) (w : World) : Calls Try.prog 48 #[.slice A n c] w fun e w' => e = .returned (.slice A n n) ∧ w = w' := by
  unfold maxLen at hm
  go_enter Try.func48, Try.ntmps48
  go_wp2
  go_ret
  exact ⟨rfl, rfl⟩

set_option maxHeartbeats 400000 in
theorem cloneI_any {A : Option Addr} {n : Nat} {l : List Int} {w : World} (c : Nat) (h : IsI w A n l) (hn : n ≤ 900000) :
    Calls Try.prog 65 #[.slice A n c] w (RetJ l w) := by
  have hl := h.len
  cases A with
  | none =>
    have h0 : n = 0 := by
      rcases Nat.eq_zero_or_pos n with h0 | h0
      · exact h0
      · obtain ⟨b, o, e, _⟩ := h.2 h0; cases e
    subst h0
    obtain rfl := List.length_eq_zero_iff.1 hl
    clear h hl
    go_enter Try.func65, Try.ntmps65
    go_wp2_with (first | (go_at_call 74; (with_reducible refine (CloneI_nil _ _).mono ?_); rintro e w1 ⟨rfl, rfl⟩) | (go_at_call 48; (with_reducible refine (ClipI_eq (by omega) (by unfold maxLen; omega) _).mono ?_); rintro e w1 ⟨rfl, rfl⟩))
    go_ret
    exact ⟨_, rfl, OwnJ.nil _ _, by (repeat' (first | (with_reducible exact Below.refl _ _) | (with_reducible assumption) | (with_reducible refine Below.alloc ?_ ?_ _) | (with_reducible refine below_drewN ?_ _) | (with_reducible refine Below.drew ?_) | (with_reducible refine Below.setCell ?_ ?_ _) | (with_reducible refine below_call (by assumption) ?_ ?_) | go_size))⟩
  | some a =>
    have HP := Lib.hid h
    clear h hl
    go_enter Try.func65, Try.ntmps65
    go_wp2_with fail
    refine (CloneI_some c HP.out hn).mono ?_
    rintro e w1 ⟨v, rfl, hv, hb⟩
    obtain ⟨A', c', rfl, _⟩ := hv.weak.form
    obtain ⟨_, hcl, h1, h2⟩ := hv.weak.clip
    clear hv
    go_wp2_with ((go_at_call 48; (with_reducible refine (ClipI_eq h1 h2 _).mono ?_); rintro e w1 ⟨rfl, rfl⟩))
    go_ret
    exact ⟨_, rfl, hcl, by (repeat' (first | (with_reducible exact Below.refl _ _) | (with_reducible assumption) | (with_reducible refine Below.alloc ?_ ?_ _) | (with_reducible refine below_drewN ?_ _) | (with_reducible refine Below.drew ?_) | (with_reducible refine Below.setCell ?_ ?_ _) | (with_reducible refine below_call (by assumption) ?_ ?_) | go_size))⟩

set_option maxHeartbeats 1000000 in
theorem copyInts_any {A : Option Addr} {n : Nat} {l : List Int} {w : World} (c : Nat) (h : IsI w A n l) (hn : n ≤ 900000) :
    Calls Try.prog 66 #[.slice A n c] w fun e w' => ∃ v, e = .returned v ∧ OwnI w.heap.size w' v l ∧ Below w.heap.size w w' := by
  have hl := h.len
  cases A with
  | none =>
    have h0 : n = 0 := by
      rcases Nat.eq_zero_or_pos n with h0 | h0
      · exact h0
      · obtain ⟨b, o, e, _⟩ := h.2 h0; cases e
    subst h0
    obtain rfl := List.length_eq_zero_iff.1 hl
    clear h hl
    go_enter Try.func66, Try.ntmps66
    go_wp2
    go_ret
    exact ⟨_, rfl, OwnI.empty rfl (Nat.le_refl _) (blk_new w _), by (repeat' (first | (with_reducible exact Below.refl _ _) | (with_reducible assumption) | (with_reducible refine Below.alloc ?_ ?_ _) | (with_reducible refine below_drewN ?_ _) | (with_reducible refine Below.drew ?_) | (with_reducible refine Below.setCell ?_ ?_ _) | (with_reducible refine below_call (by assumption) ?_ ?_) | go_size))⟩
  | some a =>
    have Hp := Lib.hid h
    clear h
    go_enter Try.func66, Try.ntmps66
    go_wp2_with (at_builtin
                 refine append_is rfl (.tmp 3) (.tmp 4) rfl w.heap.size (.slice (some ⟨w.heap.size, 0, none⟩) 0 0) [] rfl (OwnI.empty rfl (Nat.le_refl _) (blk_new w _)) a n c l rfl (Hp.out.below (by (repeat' (first | (with_reducible exact Below.refl _ _) | (with_reducible assumption) | (with_reducible refine Below.alloc ?_ ?_ _) | (with_reducible refine below_drewN ?_ _) | (with_reducible refine Below.drew ?_) | (with_reducible refine Below.setCell ?_ ?_ _) | (with_reducible refine below_call (by assumption) ?_ ?_) | go_size)))) (by simp; omega) (by simp) ?_
                 intro v1 w1 hown1 hg1 _)
    go_ret
    simp only [List.nil_append] at hown1
    exact ⟨v1, rfl, hown1, below_own hg1 (by (repeat' (first | (with_reducible exact Below.refl _ _) | (with_reducible assumption) | (with_reducible refine Below.alloc ?_ ?_ _) | (with_reducible refine below_drewN ?_ _) | (with_reducible refine Below.drew ?_) | (with_reducible refine Below.setCell ?_ ?_ _) | (with_reducible refine below_call (by assumption) ?_ ?_) | go_size))) (by simp) (fun g hg => by simp only [Value.ownBlock, Option.some.injEq] at hg; omega)⟩

/-- The first k numbers lie in a range. -/
def allR (l : List Int) (lo hi : Int) (k : Nat) : Bool := (l.take k).all fun x => inB x lo hi
theorem allR_succ {l : List Int} {lo hi : Int} {k : Nat} (h : k < l.length) : allR l lo hi (k + 1) = (allR l lo hi k && inB (nt l k) lo hi) := by
  rw [allR, List.take_succ_eq_append_getElem h, List.all_append, nt_eq h]; simp [allR]
theorem allR_not {l : List Int} {lo hi : Int} {k : Nat} (h : k < l.length) (hv : inB (nt l k) lo hi = false) : (l.all fun x => inB x lo hi) = false := by
  rw [nt_eq h] at hv
  rw [List.all_eq_false]
  exact ⟨_, List.getElem_mem h, by rw [hv]; decide⟩

set_option maxHeartbeats 1000000 in
theorem allIn_eq {A : Option Addr} {n : Nat} {l : List Int} {w : World} {lo hi : Int} {v : Bool} (c : Nat) (h : IsI w A n l) (hn : n ≤ 1000000000000) (hv : (l.all fun x => inB x lo hi) = v) :
    Calls Try.prog 63 #[.slice A n c, .int .i64 lo, .int .i64 hi] w fun e w' => e = .returned (.bool v) ∧ Below w.heap.size w w' := by
  subst hv
  have hl := h.len
  have HP := Lib.hid h
  clear h
  go_enter Try.func63, Try.ntmps63
  go_wp2
  go_loopw [7] (fun i wr => ∃ k : Nat, k ≤ n ∧ i = .int .i64 k ∧ allR l lo hi k = true ∧ Below w.heap.size w wr) (fun i _ => n - (intOf i).toNat)
  case atStart => exact ⟨0, by omega, rfl, rfl, by (repeat' (first | (with_reducible exact Below.refl _ _) | (with_reducible assumption) | (with_reducible refine Below.alloc ?_ ?_ _) | (with_reducible refine below_drewN ?_ _) | (with_reducible refine Below.drew ?_) | (with_reducible refine Below.setCell ?_ ?_ _) | (with_reducible refine below_call (by assumption) ?_ ?_) | (with_reducible refine below_grown (by assumption) ?_ ?_ ?_) | omega | (simp; done) | (simp; omega)))⟩
  case round =>
    obtain ⟨k, hk, rfl, hv, hbel⟩ := hrel
    have hsz := hbel.size
    have HV := Lib.hid hv
    have HL := Lib.hid hl
    clear hv hl
    by_cases hlt : k < n
    · have eb : decide ((k : Int) < n) = true := by simp; omega
      obtain ⟨b, o, rfl, hbl, c0⟩ := (HP.out.below hbel).at_ hlt
      rcases Bool.eq_false_or_eq_true (inB (nt l k) lo hi) with h1 | h1
      · have H1 := Lib.hid h1
        clear h1
        go_wp2_with ((go_at_call 54; (with_reducible refine (inRange_eq (Hid.out (by with_reducible assumption)) _).mono ?_); rintro e w1 ⟨rfl, rfl⟩))
        go_roundw
        case rel => exact ⟨k + 1, by omega, by go_num, by rw [allR_succ (by rw [HL.out]; exact hlt), HV.out, H1.out]; rfl, by (repeat' (first | (with_reducible exact Below.refl _ _) | (with_reducible assumption) | (with_reducible refine Below.alloc ?_ ?_ _) | (with_reducible refine below_drewN ?_ _) | (with_reducible refine Below.drew ?_) | (with_reducible refine Below.setCell ?_ ?_ _) | (with_reducible refine below_call (by assumption) ?_ ?_) | (with_reducible refine below_grown (by assumption) ?_ ?_ ?_) | omega | (simp; done) | (simp; omega)))⟩
        case measure => simp [intOf]; omega
      · have H1 := Lib.hid h1
        have H2 := Lib.hid (allR_not (by rw [HL.out]; exact hlt) h1)
        clear h1
        go_wp2_with ((go_at_call 54; (with_reducible refine (inRange_eq (Hid.out (by with_reducible assumption)) _).mono ?_); rintro e w1 ⟨rfl, rfl⟩))
        go_ret
        exact ⟨by rw [H2.out]; rfl, by (repeat' (first | (with_reducible exact Below.refl _ _) | (with_reducible assumption) | (with_reducible refine Below.alloc ?_ ?_ _) | (with_reducible refine below_drewN ?_ _) | (with_reducible refine Below.drew ?_) | (with_reducible refine Below.setCell ?_ ?_ _) | (with_reducible refine below_call (by assumption) ?_ ?_) | (with_reducible refine below_grown (by assumption) ?_ ?_ ?_) | omega | (simp; done) | (simp; omega)))⟩
    · obtain rfl : k = n := by omega
      have H2 : Hid ((l.all fun x => inB x lo hi) = true) := Lib.hid (by have := HV.out; rw [allR, List.take_of_length_le (by rw [HL.out]; exact Nat.le_refl _)] at this; exact this)
      have eb : decide ((k : Int) < k) = false := by simp
      go_wp2
      go_ret
      exact ⟨by rw [H2.out]; rfl, by (repeat' (first | (with_reducible exact Below.refl _ _) | (with_reducible assumption) | (with_reducible refine Below.alloc ?_ ?_ _) | (with_reducible refine below_drewN ?_ _) | (with_reducible refine Below.drew ?_) | (with_reducible refine Below.setCell ?_ ?_ _) | (with_reducible refine below_call (by assumption) ?_ ?_) | (with_reducible refine below_grown (by assumption) ?_ ?_ ?_) | omega | (simp; done) | (simp; omega)))⟩

set_option maxHeartbeats 1000000 in
theorem equalInts_same {A A' : Option Addr} {n : Nat} {l : List Int} {w : World} (c c' : Nat) (h : IsI w A n l) (h' : IsI w A' n l) (hn : n ≤ 1000000000000) :
    Calls Try.prog 22 #[.slice A n c, .slice A' n c'] w fun e w' => e = .returned (.bool true) ∧ Below w.heap.size w w' := by
  have HP := Lib.hid h
  have HP' := Lib.hid h'
  clear h h'
  go_enter Try.func22, Try.ntmps22
  go_wp2
  go_loopw [5] (fun i wr => ∃ k : Nat, k ≤ n ∧ i = .int .i64 k ∧ Below w.heap.size w wr) (fun i _ => n - (intOf i).toNat)
  case atStart => exact ⟨0, by omega, rfl, by (repeat' (first | (with_reducible exact Below.refl _ _) | (with_reducible assumption) | (with_reducible refine Below.alloc ?_ ?_ _) | (with_reducible refine below_drewN ?_ _) | (with_reducible refine Below.drew ?_) | (with_reducible refine Below.setCell ?_ ?_ _) | (with_reducible refine below_call (by assumption) ?_ ?_) | (with_reducible refine below_grown (by assumption) ?_ ?_ ?_) | omega | (simp; done) | (simp; omega)))⟩
  case round =>
    obtain ⟨k, hk, rfl, hbel⟩ := hrel
    have hsz := hbel.size
    by_cases hlt : k < n
    · have eb : decide ((k : Int) < n) = true := by simp; omega
      have hki : (k : Int) < n := by omega
      obtain ⟨b, o, rfl, hbl, c0⟩ := (HP.out.below hbel).at_ hlt
      obtain ⟨b', o', rfl, hbl', c0'⟩ := (HP'.out.below hbel).at_ hlt
      go_wp2_with fail
      apply wp_region_pure (by kernel_rfl) ([] :: [] :: [0, 1] :: [2] :: [] :: [] :: [4, 5] :: [6] :: [3, 7] :: []) (RS.det [] _ :: RS.det [] _ :: RS.det [0, 1] _ :: RS.det [2] _ :: RS.det [] _ :: RS.det [] _ :: RS.det [4, 5] _ :: RS.det [6] _ :: RS.det [3, 7] _ :: []) [] rfl (by kernel_rfl) (fun h => absurd rfl h) (by kernel_rfl) (by kernel_rfl) (st_det (st_det (st_det (st_det (st_det (st_det (st_det (st_det (st_det st_nil))))))))) _ (fun v => by simp; rfl)
      case hop =>
        simp only [Obls]
        refine ⟨?_, ?_, ?_, ?_, ?_, ?_, ?_, ?_, ?_, trivial⟩
        · (intro v w1 K hb hF hK; (try simp at hF); simp at hK; (try simp only [hF] at hK); have hz := hb.size; (try simp at hz))
          go_simp
          (try simp only [])
          exact hK _ _ rfl (by (repeat' (first | (with_reducible exact Below.refl _ _) | (with_reducible assumption) | (with_reducible refine Below.alloc ?_ ?_ _) | (with_reducible refine below_drewN ?_ _) | (with_reducible refine Below.drew ?_) | (with_reducible refine Below.setCell ?_ ?_ _) | (with_reducible refine below_call (by assumption) ?_ ?_) | go_size)))
        · (intro v w1 K hb hF hK; (try simp at hF); simp at hK; (try simp only [hF] at hK); have hz := hb.size; (try simp at hz))
          go_simp
          (try simp only [])
          exact hK _ _ rfl (by (repeat' (first | (with_reducible exact Below.refl _ _) | (with_reducible assumption) | (with_reducible refine Below.alloc ?_ ?_ _) | (with_reducible refine below_drewN ?_ _) | (with_reducible refine Below.drew ?_) | (with_reducible refine Below.setCell ?_ ?_ _) | (with_reducible refine below_call (by assumption) ?_ ?_) | go_size)))
        · (intro v w1 K hb hF hK; (try simp at hF); simp at hK; (try simp only [hF] at hK); have hz := hb.size; (try simp at hz))
          go_simp
          (try simp only [])
          exact hK _ _ rfl (by (repeat' (first | (with_reducible exact Below.refl _ _) | (with_reducible assumption) | (with_reducible refine Below.alloc ?_ ?_ _) | (with_reducible refine below_drewN ?_ _) | (with_reducible refine Below.drew ?_) | (with_reducible refine Below.setCell ?_ ?_ _) | (with_reducible refine below_call (by assumption) ?_ ?_) | go_size)))
        · (intro v w1 K hb hF hK; (try simp at hF); simp at hK; (try simp only [hF] at hK); have hz := hb.size; (try simp at hz); (try (have hk := bcl hb (b) (by first | omega | (simp; done) | (simp; omega)); have hc := hk.1; have hf := hk.2.1; have hk := hk.2.2)); (try (have hk := bcl hb (b') (by first | omega | (simp; done) | (simp; omega)); have hc := hk.1; have hf := hk.2.1; have hk := hk.2.2)))
          go_simp
          (try simp only [])
          exact hK _ _ rfl (by (repeat' (first | (with_reducible exact Below.refl _ _) | (with_reducible assumption) | (with_reducible refine Below.alloc ?_ ?_ _) | (with_reducible refine below_drewN ?_ _) | (with_reducible refine Below.drew ?_) | (with_reducible refine Below.setCell ?_ ?_ _) | (with_reducible refine below_call (by assumption) ?_ ?_) | go_size)))
        · (intro v w1 K hb hF hK; (try simp at hF); simp at hK; (try simp only [hF] at hK); have hz := hb.size; (try simp at hz))
          go_simp
          (try simp only [])
          exact hK _ _ rfl (by (repeat' (first | (with_reducible exact Below.refl _ _) | (with_reducible assumption) | (with_reducible refine Below.alloc ?_ ?_ _) | (with_reducible refine below_drewN ?_ _) | (with_reducible refine Below.drew ?_) | (with_reducible refine Below.setCell ?_ ?_ _) | (with_reducible refine below_call (by assumption) ?_ ?_) | go_size)))
        · (intro v w1 K hb hF hK; (try simp at hF); simp at hK; (try simp only [hF] at hK); have hz := hb.size; (try simp at hz))
          go_simp
          (try simp only [])
          exact hK _ _ rfl (by (repeat' (first | (with_reducible exact Below.refl _ _) | (with_reducible assumption) | (with_reducible refine Below.alloc ?_ ?_ _) | (with_reducible refine below_drewN ?_ _) | (with_reducible refine Below.drew ?_) | (with_reducible refine Below.setCell ?_ ?_ _) | (with_reducible refine below_call (by assumption) ?_ ?_) | go_size)))
        · (intro v w1 K hb hF hK; (try simp at hF); simp at hK; (try simp only [hF] at hK); have hz := hb.size; (try simp at hz))
          go_simp
          (try simp only [])
          exact hK _ _ rfl (by (repeat' (first | (with_reducible exact Below.refl _ _) | (with_reducible assumption) | (with_reducible refine Below.alloc ?_ ?_ _) | (with_reducible refine below_drewN ?_ _) | (with_reducible refine Below.drew ?_) | (with_reducible refine Below.setCell ?_ ?_ _) | (with_reducible refine below_call (by assumption) ?_ ?_) | go_size)))
        · (intro v w1 K hb hF hK; (try simp at hF); simp at hK; (try simp only [hF] at hK); have hz := hb.size; (try simp at hz); (try (have hk := bcl hb (b) (by first | omega | (simp; done) | (simp; omega)); have hc := hk.1; have hf := hk.2.1; have hk := hk.2.2)); (try (have hk := bcl hb (b') (by first | omega | (simp; done) | (simp; omega)); have hc := hk.1; have hf := hk.2.1; have hk := hk.2.2)))
          go_simp
          (try simp only [])
          exact hK _ _ rfl (by (repeat' (first | (with_reducible exact Below.refl _ _) | (with_reducible assumption) | (with_reducible refine Below.alloc ?_ ?_ _) | (with_reducible refine below_drewN ?_ _) | (with_reducible refine Below.drew ?_) | (with_reducible refine Below.setCell ?_ ?_ _) | (with_reducible refine below_call (by assumption) ?_ ?_) | go_size)))
        · (intro v w1 K hb hF hK; (try simp at hF); simp at hK; (try simp only [hF] at hK); have hz := hb.size; (try simp at hz))
          go_simp
          (try simp only [])
          exact hK _ _ rfl (by (repeat' (first | (with_reducible exact Below.refl _ _) | (with_reducible assumption) | (with_reducible refine Below.alloc ?_ ?_ _) | (with_reducible refine below_drewN ?_ _) | (with_reducible refine Below.drew ?_) | (with_reducible refine Below.setCell ?_ ?_ _) | (with_reducible refine below_call (by assumption) ?_ ?_) | go_size)))
      case hfo => exact trivial
      (intro v w1 hb hF; simp [List.range, List.range.loop] at hF; have hz := hb.size; (try simp at hz); (try (have hk := bcl hb (b) (by first | omega | (simp; done) | (simp; omega)); have hc := hk.1; have hf := hk.2.1; have hk := hk.2.2)); (try (have hk := bcl hb (b') (by first | omega | (simp; done) | (simp; omega)); have hc := hk.1; have hf := hk.2.1; have hk := hk.2.2)))
      obtain ⟨e0, e1, e2, e3, e4, e5, e6, e7, e8⟩ := hF
      simp only [List.length_cons, List.length_nil, List.drop_succ_cons, List.drop_zero, e0, e1, e2, e3, e4, e5, e6, e7, e8]
      clear e0 e1 e2 e3 e4 e5 e6 e7 e8 v
      go_wp2
      go_roundw
      case rel => exact ⟨k + 1, by omega, by go_num, by (repeat' (first | (with_reducible exact Below.refl _ _) | (with_reducible assumption) | (with_reducible refine Below.alloc ?_ ?_ _) | (with_reducible refine below_drewN ?_ _) | (with_reducible refine Below.drew ?_) | (with_reducible refine Below.setCell ?_ ?_ _) | (with_reducible refine below_call (by assumption) ?_ ?_) | (with_reducible refine below_grown (by assumption) ?_ ?_ ?_) | omega | (simp; done) | (simp; omega)))⟩
      case measure => simp [intOf]; omega
    · obtain rfl : k = n := by omega
      have eb : decide ((k : Int) < k) = false := by simp
      go_wp2
      go_ret
      exact ⟨rfl, by (repeat' (first | (with_reducible exact Below.refl _ _) | (with_reducible assumption) | (with_reducible refine Below.alloc ?_ ?_ _) | (with_reducible refine below_drewN ?_ _) | (with_reducible refine Below.drew ?_) | (with_reducible refine Below.setCell ?_ ?_ _) | (with_reducible refine below_call (by assumption) ?_ ?_) | (with_reducible refine below_grown (by assumption) ?_ ?_ ?_) | omega | (simp; done) | (simp; omega)))⟩

end Go.Proofs.Ytclfocdghbmmlaa
