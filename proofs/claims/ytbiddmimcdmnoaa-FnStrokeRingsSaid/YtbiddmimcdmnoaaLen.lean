/-
  Roots and lengths, of the program and of the reference.
-/
import Derived.Test.YtbiddmimcdmnoaaNum
namespace Go.Proofs.Ytbiddmimcdmnoaa
open Go.RowKit Pl

set_option linter.unusedSimpArgs false

/-- Half of a power of two. -/
def hp (k : Nat) : Int := (2 ^ k : Int) / 2
theorem hp_zero : hp 0 = 0 := by decide
theorem hp_succ (k : Nat) : hp (k + 1) = 2 ^ k := by unfold hp; rw [Int.pow_succ]; exact Int.mul_ediv_cancel _ (by omega)
theorem hp_half (k : Nat) : hp (k + 1) / 2 = hp k := by rw [hp_succ]; rfl
theorem pow_pos (k : Nat) : (1 : Int) ≤ 2 ^ k := by
  induction k with
  | zero => decide
  | succ k ih => rw [Int.pow_succ]; omega
theorem pow_le16 {k : Nat} (h : k ≤ 15) : (2 : Int) ^ k ≤ 32768 := by
  have : k = 0 ∨ k = 1 ∨ k = 2 ∨ k = 3 ∨ k = 4 ∨ k = 5 ∨ k = 6 ∨ k = 7 ∨ k = 8 ∨ k = 9 ∨ k = 10 ∨ k = 11 ∨ k = 12 ∨ k = 13 ∨ k = 14 ∨ k = 15 := by omega
  rcases this with h | h | h | h | h | h | h | h | h | h | h | h | h | h | h | h <;> subst h <;> decide

set_option maxHeartbeats 1000000 in
theorem root_eq {n r : Int} (hr : IsRoot n r) (h0 : 0 ≤ n) (hn : n ≤ 100000000) (w : World) :
    Calls Try.prog 41 #[.int .i64 n] w fun e w' => e = .returned (.int .i64 r) ∧ w = w' := by
  have H := Lib.hid hr
  clear hr
  go_enter Try.func41, Try.ntmps41
  go_wp2
  go_loop [3, 4] (fun r s => ∃ (k : Nat) (q : Int), k ≤ 16 ∧ 0 ≤ q ∧ q ≤ 65536 ∧ r = .int .i64 q ∧ s = .int .i64 (hp k) ∧ q * q ≤ n ∧ n < (q + 2 ^ k) * (q + 2 ^ k)) (fun _ s => (intOf s).toNat)
  case atStart => exact ⟨16, 0, by omega, by omega, by omega, rfl, (by rw [show hp 16 = 32768 by decide]), by omega, by show n < (0 + 65536) * (0 + 65536); omega⟩
  case round =>
    obtain ⟨k, q, hk, hq0, hq1, rfl, rfl, hle, hlt⟩ := hrel
    cases k with
    | zero =>
      rw [hp_zero]
      rw [show (2 : Int) ^ 0 = 1 from rfl] at hlt
      have H2 := Lib.hid (IsRoot.unique H.out ⟨hq0, hle, hlt⟩)
      clear hle hlt
      go_wp2
      go_ret
      exact ⟨ret_int H2.out.symm, rfl⟩
    | succ k =>
      have hp1 := pow_pos k
      have hp2 := pow_le16 (k := k) (by omega)
      have Hh := Lib.hid (hp_half k)
      have Hs := Lib.hid (hp_succ k)
      rw [hp_succ] at *
      rw [Int.pow_succ] at hlt
      obtain ⟨u, hu⟩ : ∃ u : Int, (2 : Int) ^ k = u := ⟨_, rfl⟩
      rw [hu] at hp1 hp2 hlt ⊢
      have hq2 : q + u ≤ 98304 := by omega
      have hs1 := sq_nonneg (q + u)
      have hs2 := sq_le (a := q + u) (b := 98304) (by omega) hq2
      have hs3 : (q + u) * (q + u) ≤ 9663676416 := by simpa using hs2
      clear hs2
      have He : Hid (u / 2 = hp k) := by rw [← hu, ← Hs.out]; exact Hh.out
      have Hu := Lib.hid hu
      have Hle := Lib.hid hle
      have Hlt := Lib.hid hlt
      have hq3 : q < 10001 := by
        rcases Int.lt_or_le q 10001 with h | h
        · exact h
        · have h2 := sq_le (a := 10001) (b := q) (by omega) h; have h3 := Hle.out; simp at h2; omega
      clear hu hle hlt
      by_cases hc : (q + u) * (q + u) ≤ n
      · have Hc := Lib.hid hc
        go_wp2
        go_round
        case rel => exact ⟨k, q + u, by omega, by omega, by have := sq_nonneg (q + u); rcases Int.lt_or_le (q + u) 10001 with h | h; omega; have h2 := sq_le (a := 10001) (b := q + u) (by omega) h; simp at h2; omega, rfl, by rw [He.out], Hc.out, by have := Hlt.out; rw [Hu.out]; rwa [show q + u * 2 = q + u + u by omega] at this⟩
        case measure => simp [intOf]; omega
      · have Hc := Lib.hid hc
        go_wp2
        go_round
        case rel => exact ⟨k, q, by omega, by omega, by omega, rfl, by rw [He.out], Hle.out, by have := Hc.out; rw [Hu.out]; omega⟩
        case measure => simp [intOf]; omega

set_option maxHeartbeats 1000000 in
theorem rootOf_eq {n r : Int} (hr : IsRoot n r) (h0 : 0 ≤ n) (hn : n ≤ 100000000) (w : World) :
    Calls Try.prog 43 #[.int .i64 n] w fun e w' => e = .returned (.int .i64 r) ∧ w = w' := by
  have H := Lib.hid hr
  have hr1 := hr.le (M := 10000) (by omega) (by omega)
  clear hr
  go_enter Try.func43, Try.ntmps43
  go_wp2
  go_loop [3] (fun s => ∃ q : Int, 0 ≤ q ∧ q ≤ r ∧ s = .int .i64 q) (fun s => (r - intOf s).toNat)
  case atStart => exact ⟨0, by omega, H.out.1, rfl⟩
  case round =>
    obtain ⟨q, hq0, hq1, rfl⟩ := hrel
    have hs1 := sq_nonneg (q + 1)
    have hs2 := sq_le (a := q + 1) (b := 10001) (by omega) (by omega)
    have hs3 : (q + 1) * (q + 1) ≤ 100020001 := by simpa using hs2
    clear hs2
    by_cases hc : q < r
    · have hle : (q + 1) * (q + 1) ≤ n := Int.le_trans (sq_le (by omega) (by omega)) H.out.2.1
      go_wp2
      go_round
      case rel => exact ⟨q + 1, by omega, by omega, rfl⟩
      case measure => simp [intOf]; omega
    · obtain rfl : q = r := by omega
      have hle : ¬ (q + 1) * (q + 1) ≤ n := by have := H.out.2.2; omega
      go_wp2
      go_ret
      exact ⟨rfl, rfl⟩

set_option maxHeartbeats 1000000 in
theorem long_eq {x y u v r : Int} (hp : ptB (x, y) = true) (hq : ptB (u, v) = true) (hr : IsRoot (dist2 (x, y) (u, v)) r) (w : World) :
    Calls Try.prog 25 #[.agg #[.int .i64 x, .int .i64 y], .agg #[.int .i64 u, .int .i64 v]] w fun e w' => e = .returned (.int .i64 r) ∧ Below w.heap.size w w' := by
  have hd0 := dist2_nonneg (x, y) (u, v)
  have hd1 := dist2_le hp hq
  obtain ⟨_, _, _, _⟩ := ptB_true.1 hp
  obtain ⟨_, _, _, _⟩ := ptB_true.1 hq
  have hx := sq_bound (a := u - x) (M := 2000) (by omega) (by omega) (by omega)
  have hy := sq_bound (a := v - y) (M := 2000) (by omega) (by omega) (by omega)
  have hx0 := sq_nonneg (u - x)
  have hy0 := sq_nonneg (v - y)
  simp only [Int.reduceMul] at hx hy
  have H : Hid (IsRoot ((u - x) * (u - x) + (v - y) * (v - y)) r) := Lib.hid hr
  clear hp hq hr hd0 hd1
  go_enter Try.func25, Try.ntmps25
  go_wp2_with ((go_at_call 41; (with_reducible refine (root_eq (Hid.out (by with_reducible assumption)) (by omega) (by omega) _).mono ?_); rintro e w1 ⟨rfl, rfl⟩))
  go_ret
  exact ⟨rfl, by (repeat' (first | (with_reducible exact Below.refl _ _) | (with_reducible assumption) | (with_reducible refine Below.alloc ?_ ?_ _) | (with_reducible refine below_drewN ?_ _) | (with_reducible refine Below.drew ?_) | (with_reducible refine Below.setCell ?_ ?_ _) | (with_reducible refine below_call (by assumption) ?_ ?_) | go_size))⟩

end Go.Proofs.Ytbiddmimcdmnoaa
