/-
  Matrices: MapPoint and TurnMatrix, of the program and of the reference.
-/
import Derived.Test.YtaklcipdcnegbaaNum
import Derived.Test.YtaklcipdcnegbaaRdr
namespace Go.Proofs.Ytaklcipdcnegbaa
open Go.RowKit Pl

set_option linter.unusedSimpArgs false
set_option linter.unusedVariables false

/-- A point that comes back, and whether there is one. -/
def PtOk (x y : Int) (v : Bool) (w : World) (e : Ending) (w' : World) : Prop := e = .returned (.tuple #[.agg #[.int .i64 x, .int .i64 y], .bool v]) ∧ Below w.heap.size w w'
/-- A point that comes back. -/
def Ret2 (x y : Int) (w : World) (e : Ending) (w' : World) : Prop := e = .returned (.agg #[.int .i64 x, .int .i64 y]) ∧ Below w.heap.size w w'
/-- A matrix that comes back. -/
def RetM (m : Mx) (w : World) (e : Ending) (w' : World) : Prop := e = .returned (.agg #[.int .i64 m.a, .int .i64 m.b, .int .i64 m.c, .int .i64 m.d, .int .i64 m.e, .int .i64 m.f]) ∧ Below w.heap.size w w'

theorem rnd256_in {k : Int} (h1 : -2048000 ≤ k) (h2 : k ≤ 2048000) : -9000 ≤ rnd k 256 ∧ rnd k 256 ≤ 9000 := by unfold rnd; omega
def all4 (a b c d lo hi : Int) : Bool := inB a lo hi && (inB b lo hi && (inB c lo hi && inB d lo hi))
theorem all4_true {a b c d lo hi : Int} : all4 a b c d lo hi = true ↔ (lo ≤ a ∧ a ≤ hi) ∧ (lo ≤ b ∧ b ≤ hi) ∧ (lo ≤ c ∧ c ≤ hi) ∧ lo ≤ d ∧ d ≤ hi := by simp [all4, inB_true]
theorem all4_scale {a b c d e f : Int} : all4 a b c d (-1024) 1024 = scaleB ⟨a, b, c, d, e, f⟩ := by rw [Bool.eq_iff_iff, all4_true, scaleB_true]; omega

/-- A number of a short list. -/
def nth (l : List Int) (k : Nat) : Int := l.getD k 0
/-- The first numbers of the list are in the range. -/
def allU (l : List Int) (lo hi : Int) : Nat → Bool
  | 0 => true
  | k + 1 => allU l lo hi k && inB (nth l k) lo hi
theorem allU_not {l : List Int} {lo hi : Int} {k : Nat} (h : inB (nth l k) lo hi = false) : ∀ m, k < m → allU l lo hi m = false
  | 0, hm => by omega
  | m + 1, hm => by
    simp only [allU]
    by_cases e : k = m
    · subst e; rw [h, Bool.and_false]
    · rw [allU_not h m (by omega), Bool.false_and]
theorem allU4 {a b c d lo hi : Int} : allU [a, b, c, d] lo hi 4 = all4 a b c d lo hi := by simp [allU, all4, nth, Bool.and_assoc]
theorem allU2 {a b lo hi : Int} : allU [a, b] lo hi 2 = (inB a lo hi && inB b lo hi) := by simp [allU, nth]

set_option maxHeartbeats 400000 in
/-- allIn over numbers that lie in a block. -/
theorem allIn_any {l : List Int} {lo hi : Int} {v : Bool} {b o : Nat} {w : World} (n c : Nat) (hl : l.length = n) (hn : n ≤ 1000000) (hc : ∀ i, i < n → w.cell? ⟨b, o + i, none⟩ = some (.int .i64 (nth l i)))
    (h : allU l lo hi n = v) : Calls Try.prog 42 #[.slice (some ⟨b, o, none⟩) n c, .int .i64 lo, .int .i64 hi] w fun e w' => e = .returned (.bool v) ∧ w = w' := by
  have HC := Lib.hid hc
  have HV := Lib.hid h
  clear hc h hl
  go_enter Try.func42, Try.ntmps42
  go_wp2
  go_loop [7] (fun i => ∃ k : Nat, k ≤ n ∧ i = .int .i64 k ∧ allU l lo hi k = true) (fun i => n - (intOf i).toNat)
  case atStart => exact ⟨0, by omega, rfl, rfl⟩
  case round =>
    obtain ⟨k, hk, rfl, hok⟩ := hrel
    have HO := Lib.hid hok
    clear hok
    by_cases hlt : k < n
    · have c0 := HC.out k hlt
      rcases Bool.eq_false_or_eq_true (inB (nth l k) lo hi) with h1 | h1
      · have H1 := Lib.hid h1
        clear h1
        go_wp2_with ((go_at_call 43; (with_reducible refine (inRange_eq (Hid.out (by with_reducible assumption)) _).mono ?_); rintro e w1 ⟨rfl, rfl⟩))
        go_round
        case rel => exact ⟨k + 1, by omega, by go_num, by simp only [allU, HO.out, H1.out, Bool.and_self]⟩
        case measure => simp [intOf]; omega
      · have H1 := Lib.hid h1
        have H2 := Lib.hid ((allU_not h1 n hlt).symm.trans HV.out)
        clear h1
        go_wp2_with ((go_at_call 43; (with_reducible refine (inRange_eq (Hid.out (by with_reducible assumption)) _).mono ?_); rintro e w1 ⟨rfl, rfl⟩))
        go_ret
        exact ⟨by rw [H2.out]; rfl, rfl⟩
    · obtain rfl : k = n := by omega
      have H2 := Lib.hid (HO.out.symm.trans HV.out)
      go_wp2
      go_ret
      exact ⟨by rw [H2.out]; rfl, rfl⟩

theorem allIn4_eq {a b c d lo hi : Int} {v : Bool} {g : Nat} {T : TypeId} {w : World} (k : Nat) (hb : w.heap[g]? = some (.cells #[.int .i64 a, .int .i64 b, .int .i64 c, .int .i64 d] T (0, 0)))
    (h : all4 a b c d lo hi = v) : Calls Try.prog 42 #[.slice (some ⟨g, 0, none⟩) 4 k, .int .i64 lo, .int .i64 hi] w fun e w' => e = .returned (.bool v) ∧ w = w' :=
  allIn_any (l := [a, b, c, d]) 4 k rfl (by omega) (fun i hi => by
    rw [blk_cell hb, Nat.zero_add]
    match i, hi with
    | 0, _ => rfl
    | 1, _ => rfl
    | 2, _ => rfl
    | 3, _ => rfl) (by rw [allU4]; exact h)
theorem allIn2_eq {a b lo hi : Int} {v : Bool} {g : Nat} {T : TypeId} {w : World} (k : Nat) (hb : w.heap[g]? = some (.cells #[.int .i64 a, .int .i64 b] T (0, 0)))
    (h : (inB a lo hi && inB b lo hi) = v) : Calls Try.prog 42 #[.slice (some ⟨g, 0, none⟩) 2 k, .int .i64 lo, .int .i64 hi] w fun e w' => e = .returned (.bool v) ∧ w = w' :=
  allIn_any (l := [a, b]) 2 k rfl (by omega) (fun i hi => by
    rw [blk_cell hb, Nat.zero_add]
    match i, hi with
    | 0, _ => rfl
    | 1, _ => rfl) (by rw [allU2]; exact h)

set_option maxHeartbeats 400000 in
theorem TurnMatrix_eq {n : Int} {a b c d e f : Int} (h : turnM n = ⟨a, b, c, d, e, f⟩) (w : World) : Calls Try.prog 12 #[.int .i64 n] w (RetM ⟨a, b, c, d, e, f⟩ w) := by
  by_cases h0 : n = 0
  · subst h0; cases h
    go_enter Try.func12, Try.ntmps12
    go_wp2
    ((try simp only [Exit.inBlock, Exit.then]); refine bodyPost_ret (by simp [results, Try.results12, go_sem, *]; try rfl) rfl ?_)
    exact ⟨rfl, by (repeat' (first | (with_reducible exact Below.refl _ _) | (with_reducible assumption) | (with_reducible refine Below.alloc ?_ ?_ _) | (with_reducible refine below_drewN ?_ _) | (with_reducible refine Below.drew ?_) | (with_reducible refine Below.setCell ?_ ?_ _) | (with_reducible refine below_call (by assumption) ?_ ?_) | go_size))⟩
  by_cases h1 : n = 1
  · subst h1; cases h
    go_enter Try.func12, Try.ntmps12
    go_wp2
    ((try simp only [Exit.inBlock, Exit.then]); refine bodyPost_ret (by simp [results, Try.results12, go_sem, *]; try rfl) rfl ?_)
    exact ⟨rfl, by (repeat' (first | (with_reducible exact Below.refl _ _) | (with_reducible assumption) | (with_reducible refine Below.alloc ?_ ?_ _) | (with_reducible refine below_drewN ?_ _) | (with_reducible refine Below.drew ?_) | (with_reducible refine Below.setCell ?_ ?_ _) | (with_reducible refine below_call (by assumption) ?_ ?_) | go_size))⟩
  by_cases h2 : n = 2
  · subst h2; cases h
    go_enter Try.func12, Try.ntmps12
    go_wp2
    ((try simp only [Exit.inBlock, Exit.then]); refine bodyPost_ret (by simp [results, Try.results12, go_sem, *]; try rfl) rfl ?_)
    exact ⟨rfl, by (repeat' (first | (with_reducible exact Below.refl _ _) | (with_reducible assumption) | (with_reducible refine Below.alloc ?_ ?_ _) | (with_reducible refine below_drewN ?_ _) | (with_reducible refine Below.drew ?_) | (with_reducible refine Below.setCell ?_ ?_ _) | (with_reducible refine below_call (by assumption) ?_ ?_) | go_size))⟩
  by_cases h3 : n = 3
  · subst h3; cases h
    go_enter Try.func12, Try.ntmps12
    go_wp2
    ((try simp only [Exit.inBlock, Exit.then]); refine bodyPost_ret (by simp [results, Try.results12, go_sem, *]; try rfl) rfl ?_)
    exact ⟨rfl, by (repeat' (first | (with_reducible exact Below.refl _ _) | (with_reducible assumption) | (with_reducible refine Below.alloc ?_ ?_ _) | (with_reducible refine below_drewN ?_ _) | (with_reducible refine Below.drew ?_) | (with_reducible refine Below.setCell ?_ ?_ _) | (with_reducible refine below_call (by assumption) ?_ ?_) | go_size))⟩
  rw [show turnM n = ⟨0, 0, 0, 0, 0, 0⟩ by simp [turnM, h0, h1, h2, h3]] at h
  cases h
  have e0 : (n == 0) = false := by simpa using h0
  have e1 : (n == 1) = false := by simpa using h1
  have e2 : (n == 2) = false := by simpa using h2
  have e3 : (n == 3) = false := by simpa using h3
  go_enter Try.func12, Try.ntmps12
  go_wp2
  ((try simp only [Exit.inBlock, Exit.then]); refine bodyPost_ret (by simp [results, Try.results12, go_sem, *]; try rfl) rfl ?_)
  exact ⟨rfl, by (repeat' (first | (with_reducible exact Below.refl _ _) | (with_reducible assumption) | (with_reducible refine Below.alloc ?_ ?_ _) | (with_reducible refine below_drewN ?_ _) | (with_reducible refine Below.drew ?_) | (with_reducible refine Below.setCell ?_ ?_ _) | (with_reducible refine below_call (by assumption) ?_ ?_) | go_size))⟩

set_option maxHeartbeats 400000 in
theorem sTurnMatrix_eq {n : Int} {a b c d e f : Int} (h : turnM n = ⟨a, b, c, d, e, f⟩) (w : World) : Calls Try.prog 13 #[.int .i64 n] w (RetM ⟨a, b, c, d, e, f⟩ w) := by
  by_cases h0 : n = 0
  · subst h0; cases h
    go_enter Try.func13, Try.ntmps13
    go_wp2
    ((try simp only [Exit.inBlock, Exit.then]); refine bodyPost_ret (by simp [results, Try.results13, go_sem, *]; try rfl) rfl ?_)
    exact ⟨rfl, by (repeat' (first | (with_reducible exact Below.refl _ _) | (with_reducible assumption) | (with_reducible refine Below.alloc ?_ ?_ _) | (with_reducible refine below_drewN ?_ _) | (with_reducible refine Below.drew ?_) | (with_reducible refine Below.setCell ?_ ?_ _) | (with_reducible refine below_call (by assumption) ?_ ?_) | go_size))⟩
  by_cases h1 : n = 1
  · subst h1; cases h
    go_enter Try.func13, Try.ntmps13
    go_wp2
    ((try simp only [Exit.inBlock, Exit.then]); refine bodyPost_ret (by simp [results, Try.results13, go_sem, *]; try rfl) rfl ?_)
    exact ⟨rfl, by (repeat' (first | (with_reducible exact Below.refl _ _) | (with_reducible assumption) | (with_reducible refine Below.alloc ?_ ?_ _) | (with_reducible refine below_drewN ?_ _) | (with_reducible refine Below.drew ?_) | (with_reducible refine Below.setCell ?_ ?_ _) | (with_reducible refine below_call (by assumption) ?_ ?_) | go_size))⟩
  by_cases h2 : n = 2
  · subst h2; cases h
    go_enter Try.func13, Try.ntmps13
    go_wp2
    ((try simp only [Exit.inBlock, Exit.then]); refine bodyPost_ret (by simp [results, Try.results13, go_sem, *]; try rfl) rfl ?_)
    exact ⟨rfl, by (repeat' (first | (with_reducible exact Below.refl _ _) | (with_reducible assumption) | (with_reducible refine Below.alloc ?_ ?_ _) | (with_reducible refine below_drewN ?_ _) | (with_reducible refine Below.drew ?_) | (with_reducible refine Below.setCell ?_ ?_ _) | (with_reducible refine below_call (by assumption) ?_ ?_) | go_size))⟩
  by_cases h3 : n = 3
  · subst h3; cases h
    go_enter Try.func13, Try.ntmps13
    go_wp2
    ((try simp only [Exit.inBlock, Exit.then]); refine bodyPost_ret (by simp [results, Try.results13, go_sem, *]; try rfl) rfl ?_)
    exact ⟨rfl, by (repeat' (first | (with_reducible exact Below.refl _ _) | (with_reducible assumption) | (with_reducible refine Below.alloc ?_ ?_ _) | (with_reducible refine below_drewN ?_ _) | (with_reducible refine Below.drew ?_) | (with_reducible refine Below.setCell ?_ ?_ _) | (with_reducible refine below_call (by assumption) ?_ ?_) | go_size))⟩
  rw [show turnM n = ⟨0, 0, 0, 0, 0, 0⟩ by simp [turnM, h0, h1, h2, h3]] at h
  cases h
  have e0 : (n == 0) = false := by simpa using h0
  have e1 : (n == 1) = false := by simpa using h1
  have e2 : (n == 2) = false := by simpa using h2
  have e3 : (n == 3) = false := by simpa using h3
  go_enter Try.func13, Try.ntmps13
  go_wp2
  ((try simp only [Exit.inBlock, Exit.then]); refine bodyPost_ret (by simp [results, Try.results13, go_sem, *]; try rfl) rfl ?_)
  exact ⟨rfl, by (repeat' (first | (with_reducible exact Below.refl _ _) | (with_reducible assumption) | (with_reducible refine Below.alloc ?_ ?_ _) | (with_reducible refine below_drewN ?_ _) | (with_reducible refine Below.drew ?_) | (with_reducible refine Below.setCell ?_ ?_ _) | (with_reducible refine below_call (by assumption) ?_ ?_) | go_size))⟩

set_option maxHeartbeats 400000 in
theorem validMatrix_eq {a b c d e f : Int} {v : Bool} (h : (all4 a b c d (-1024) 1024 && (inB e (-1000) 1000 && inB f (-1000) 1000)) = v) (w : World) :
    Calls Try.prog 33 #[.agg #[.int .i64 a, .int .i64 b, .int .i64 c, .int .i64 d, .int .i64 e, .int .i64 f]] w fun e w' => e = .returned (.bool v) ∧ Below w.heap.size w w' := by
  subst h
  rcases Bool.eq_false_or_eq_true (all4 a b c d (-1024) 1024) with h1 | h1
  · obtain ⟨v2, h2⟩ : ∃ v2, (inB e (-1000) 1000 && inB f (-1000) 1000) = v2 := ⟨_, rfl⟩
    rw [h1, h2]
    have H1 := Lib.hid h1
    have H2 := Lib.hid h2
    clear h1 h2
    go_enter Try.func33, Try.ntmps33
    go_wp2_with fail
    refine (allIn4_eq _ (blk_new1 w _ _) (Hid.out (by with_reducible assumption))).mono ?_
    rintro e w1 ⟨rfl, rfl⟩
    go_wp2_with fail
    refine (allIn2_eq _ (blk_new2 w _ _ _) (Hid.out (by with_reducible assumption))).mono ?_
    rintro e w1 ⟨rfl, rfl⟩
    go_wp2
    go_ret
    exact ⟨rfl, by (repeat' (first | (with_reducible exact Below.refl _ _) | (with_reducible assumption) | (with_reducible refine Below.alloc ?_ ?_ _) | (with_reducible refine below_drewN ?_ _) | (with_reducible refine Below.drew ?_) | (with_reducible refine Below.setCell ?_ ?_ _) | (with_reducible refine below_call (by assumption) ?_ ?_) | go_size))⟩
  · rw [h1]
    have H1 := Lib.hid h1
    clear h1
    go_enter Try.func33, Try.ntmps33
    go_wp2_with fail
    refine (allIn4_eq _ (blk_new1 w _ _) (Hid.out (by with_reducible assumption))).mono ?_
    rintro e w1 ⟨rfl, rfl⟩
    go_wp2
    go_ret
    exact ⟨rfl, by (repeat' (first | (with_reducible exact Below.refl _ _) | (with_reducible assumption) | (with_reducible refine Below.alloc ?_ ?_ _) | (with_reducible refine below_drewN ?_ _) | (with_reducible refine Below.drew ?_) | (with_reducible refine Below.setCell ?_ ?_ _) | (with_reducible refine below_call (by assumption) ?_ ?_) | go_size))⟩

end Go.Proofs.Ytaklcipdcnegbaa
