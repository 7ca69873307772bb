/-
  What the functions on lists of numbers return: copies, ranges, comparisons.
-/
import Derived.Test.YtadpmigppjjmhaaInts
namespace Go.Proofs.Ytadpmigppjjmhaa
open Go.RowKit Pl

set_option linter.unusedSimpArgs false
set_option linter.unusedVariables false

set_option maxHeartbeats 1000000 in
theorem copyInts_any {A : Option Addr} {n : Nat} {l : List Int} {w : World} (c : Nat) (h : IsI w A n l) (hn : n ≤ 900000) :
    Calls Try.prog 34 #[.slice A n c] w fun e w' => ∃ v, e = .returned v ∧ OwnI w.heap.size w' v l ∧ Below w.heap.size w w' := by
  have hl := h.len
  cases A with
  | none =>
    have h0 : n = 0 := by
      rcases Nat.eq_zero_or_pos n with h0 | h0
      · exact h0
      · obtain ⟨b, o, e, _⟩ := h.2 h0; cases e
    subst h0
    obtain rfl := List.length_eq_zero_iff.1 hl
    clear h hl
    go_enter Try.func34, Try.ntmps34
    go_wp2
    go_ret
    exact ⟨_, rfl, OwnI.empty rfl (Nat.le_refl _) (blk_new w _), by (repeat' (first | (with_reducible exact Below.refl _ _) | (with_reducible assumption) | (with_reducible refine Below.alloc ?_ ?_ _) | (with_reducible refine below_drewN ?_ _) | (with_reducible refine Below.drew ?_) | (with_reducible refine Below.setCell ?_ ?_ _) | (with_reducible refine below_call (by assumption) ?_ ?_) | go_size))⟩
  | some a =>
    have Hp := Lib.hid h
    clear h
    go_enter Try.func34, Try.ntmps34
    go_wp2_with (at_builtin
                 refine append_is rfl (.tmp 3) (.tmp 4) rfl w.heap.size (.slice (some ⟨w.heap.size, 0, none⟩) 0 0) [] rfl (OwnI.empty rfl (Nat.le_refl _) (blk_new w _)) a n c l rfl (Hp.out.below (by (repeat' (first | (with_reducible exact Below.refl _ _) | (with_reducible assumption) | (with_reducible refine Below.alloc ?_ ?_ _) | (with_reducible refine below_drewN ?_ _) | (with_reducible refine Below.drew ?_) | (with_reducible refine Below.setCell ?_ ?_ _) | (with_reducible refine below_call (by assumption) ?_ ?_) | go_size)))) (by simp; omega) (by simp) ?_
                 intro v1 w1 hown1 hg1 _)
    go_ret
    simp only [List.nil_append] at hown1
    exact ⟨v1, rfl, hown1, below_own hg1 (by (repeat' (first | (with_reducible exact Below.refl _ _) | (with_reducible assumption) | (with_reducible refine Below.alloc ?_ ?_ _) | (with_reducible refine below_drewN ?_ _) | (with_reducible refine Below.drew ?_) | (with_reducible refine Below.setCell ?_ ?_ _) | (with_reducible refine below_call (by assumption) ?_ ?_) | go_size))) (by simp) (fun g hg => by simp only [Value.ownBlock, Option.some.injEq] at hg; omega)⟩

/-- The first k numbers lie in a range. -/
def allR (l : List Int) (lo hi : Int) (k : Nat) : Bool := (l.take k).all fun x => inB x lo hi
theorem allR_succ {l : List Int} {lo hi : Int} {k : Nat} (h : k < l.length) : allR l lo hi (k + 1) = (allR l lo hi k && inB (nt l k) lo hi) := by
  rw [allR, List.take_succ_eq_append_getElem h, List.all_append, nt_eq h]; simp [allR]
theorem allR_not {l : List Int} {lo hi : Int} {k : Nat} (h : k < l.length) (hv : inB (nt l k) lo hi = false) : (l.all fun x => inB x lo hi) = false := by
  rw [nt_eq h] at hv
  rw [List.all_eq_false]
  exact ⟨_, List.getElem_mem h, by rw [hv]; decide⟩

set_option maxHeartbeats 1000000 in
theorem allIn_eq {A : Option Addr} {n : Nat} {l : List Int} {w : World} {lo hi : Int} {v : Bool} (c : Nat) (h : IsI w A n l) (hn : n ≤ 1000000000000) (hv : (l.all fun x => inB x lo hi) = v) :
    Calls Try.prog 32 #[.slice A n c, .int .i64 lo, .int .i64 hi] w fun e w' => e = .returned (.bool v) ∧ Below w.heap.size w w' := by
  subst hv
  have hl := h.len
  have HP := Lib.hid h
  clear h
  go_enter Try.func32, Try.ntmps32
  go_wp2
  go_loopw [7] (fun i wr => ∃ k : Nat, k ≤ n ∧ i = .int .i64 k ∧ allR l lo hi k = true ∧ Below w.heap.size w wr) (fun i _ => n - (intOf i).toNat)
  case atStart => exact ⟨0, by omega, rfl, rfl, by (repeat' (first | (with_reducible exact Below.refl _ _) | (with_reducible assumption) | (with_reducible refine Below.alloc ?_ ?_ _) | (with_reducible refine below_drewN ?_ _) | (with_reducible refine Below.drew ?_) | (with_reducible refine Below.setCell ?_ ?_ _) | (with_reducible refine below_call (by assumption) ?_ ?_) | (with_reducible refine below_grown (by assumption) ?_ ?_ ?_) | omega | (simp; done) | (simp; omega)))⟩
  case round =>
    obtain ⟨k, hk, rfl, hv, hbel⟩ := hrel
    have hsz := hbel.size
    have HV := Lib.hid hv
    have HL := Lib.hid hl
    clear hv hl
    by_cases hlt : k < n
    · have eb : decide ((k : Int) < n) = true := by simp; omega
      obtain ⟨b, o, rfl, hbl, c0⟩ := (HP.out.below hbel).at_ hlt
      rcases Bool.eq_false_or_eq_true (inB (nt l k) lo hi) with h1 | h1
      · have H1 := Lib.hid h1
        clear h1
        go_wp2_with ((go_at_call 14; (with_reducible refine (inRange_eq (Hid.out (by with_reducible assumption)) _).mono ?_); rintro e w1 ⟨rfl, rfl⟩))
        go_roundw
        case rel => exact ⟨k + 1, by omega, by go_num, by rw [allR_succ (by rw [HL.out]; exact hlt), HV.out, H1.out]; rfl, by (repeat' (first | (with_reducible exact Below.refl _ _) | (with_reducible assumption) | (with_reducible refine Below.alloc ?_ ?_ _) | (with_reducible refine below_drewN ?_ _) | (with_reducible refine Below.drew ?_) | (with_reducible refine Below.setCell ?_ ?_ _) | (with_reducible refine below_call (by assumption) ?_ ?_) | (with_reducible refine below_grown (by assumption) ?_ ?_ ?_) | omega | (simp; done) | (simp; omega)))⟩
        case measure => simp [intOf]; omega
      · have H1 := Lib.hid h1
        have H2 := Lib.hid (allR_not (by rw [HL.out]; exact hlt) h1)
        clear h1
        go_wp2_with ((go_at_call 14; (with_reducible refine (inRange_eq (Hid.out (by with_reducible assumption)) _).mono ?_); rintro e w1 ⟨rfl, rfl⟩))
        go_ret
        exact ⟨by rw [H2.out]; rfl, by (repeat' (first | (with_reducible exact Below.refl _ _) | (with_reducible assumption) | (with_reducible refine Below.alloc ?_ ?_ _) | (with_reducible refine below_drewN ?_ _) | (with_reducible refine Below.drew ?_) | (with_reducible refine Below.setCell ?_ ?_ _) | (with_reducible refine below_call (by assumption) ?_ ?_) | (with_reducible refine below_grown (by assumption) ?_ ?_ ?_) | omega | (simp; done) | (simp; omega)))⟩
    · obtain rfl : k = n := by omega
      have H2 : Hid ((l.all fun x => inB x lo hi) = true) := Lib.hid (by have := HV.out; rw [allR, List.take_of_length_le (by rw [HL.out]; exact Nat.le_refl _)] at this; exact this)
      have eb : decide ((k : Int) < k) = false := by simp
      go_wp2
      go_ret
      exact ⟨by rw [H2.out]; rfl, by (repeat' (first | (with_reducible exact Below.refl _ _) | (with_reducible assumption) | (with_reducible refine Below.alloc ?_ ?_ _) | (with_reducible refine below_drewN ?_ _) | (with_reducible refine Below.drew ?_) | (with_reducible refine Below.setCell ?_ ?_ _) | (with_reducible refine below_call (by assumption) ?_ ?_) | (with_reducible refine below_grown (by assumption) ?_ ?_ ?_) | omega | (simp; done) | (simp; omega)))⟩

end Go.Proofs.Ytadpmigppjjmhaa
