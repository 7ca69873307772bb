/-
  Plain laws on strokes, with no program in sight.
-/
import Derived.Test.YtbiddmimcdmnoaaPlF
namespace Go.Proofs.Ytbiddmimcdmnoaa.Pl

def rootF : Nat → Nat
  | 0 => 0
  | n + 1 => if (rootF n + 1) * (rootF n + 1) ≤ n + 1 then rootF n + 1 else rootF n
theorem rootF_is : ∀ n : Nat, IsRoot (n : Int) (rootF n : Int)
  | 0 => by simp [IsRoot, rootF]
  | n + 1 => by
    obtain ⟨h0, h1, h2⟩ := rootF_is n
    simp only [rootF]
    by_cases h : (rootF n + 1) * (rootF n + 1) ≤ n + 1
    · rw [if_pos h]
      have h' : ((rootF n : Int) + 1) * ((rootF n : Int) + 1) ≤ (n : Int) + 1 := by exact_mod_cast h
      refine ⟨by omega, by push_cast; exact h', ?_⟩
      have e : ((rootF n : Int) + 1 + 1) * ((rootF n : Int) + 1 + 1) = ((rootF n : Int) + 1) * ((rootF n : Int) + 1) + 2 * ((rootF n : Int) + 1) + 1 := by simp only [Int.add_mul, Int.mul_add]; omega
      push_cast; rw [e]; omega
    · rw [if_neg h]
      have h' : ¬ ((rootF n : Int) + 1) * ((rootF n : Int) + 1) ≤ (n : Int) + 1 := fun x => h (by exact_mod_cast x)
      exact ⟨by omega, by push_cast; omega, by push_cast; omega⟩
def rootI (n : Int) : Int := rootF n.toNat
theorem rootI_is {n : Int} (h : 0 ≤ n) : IsRoot n (rootI n) := by
  have := rootF_is n.toNat
  rwa [show ((n.toNat : Nat) : Int) = n by omega] at this
theorem rootI_eq {n r : Int} (h : IsRoot n r) : rootI n = r := (rootI_is (by have := h.2.1; have := sq_nonneg r; omega)).unique h
theorem rootI_pos {n : Int} (h : 1 ≤ n) : 1 ≤ rootI n := by
  obtain ⟨h0, h1, h2⟩ := rootI_is (n := n) (by omega)
  rcases Int.lt_or_le (rootI n) 1 with h' | h'
  · have e : rootI n = 0 := by omega
    rw [e] at h2; omega
  · exact h'
def barX (a b : Pt) (half : Int) : Int := rnd ((a.2 - b.2) * half) (rootI (dist2 a b))
def barY (a b : Pt) (half : Int) : Int := rnd ((b.1 - a.1) * half) (rootI (dist2 a b))
def barL (a b : Pt) (half : Int) : List Pt := [(a.1 + barX a b half, a.2 + barY a b half), (b.1 + barX a b half, b.2 + barY a b half), (b.1 - barX a b half, b.2 - barY a b half), (a.1 - barX a b half, a.2 - barY a b half)]
/-- The polygons of the first n lines. -/
def strokeU (l : List Pt) (half : Int) : Nat → List (List Pt)
  | 0 => []
  | n + 1 => strokeU l half n ++ if ptA l n = ptA l (n + 1) then [] else [barL (ptA l n) (ptA l (n + 1)) half]
def strokeL (l : List Pt) (half : Int) : List (List Pt) := strokeU l half (l.length - 1)
def strokeOk (l : List Pt) (half : Int) : Bool := decide (l.length ≤ 8) && (validL l && (inB half 1 100 && ringsOk (strokeL l half)))
def strokeR (l : List Pt) (half : Int) : List (List Pt) := if strokeOk l half then strokeL l half else []
theorem strokeOk_parts {l : List Pt} {half : Int} (h : strokeOk l half = true) : l.length ≤ 8 ∧ validL l = true ∧ (1 ≤ half ∧ half ≤ 100) ∧ ringsOk (strokeL l half) = true := by
  simp only [strokeOk, Bool.and_eq_true, decide_eq_true_eq, inB_true] at h; exact ⟨h.1, h.2.1, h.2.2.1, h.2.2.2⟩
theorem strokeU_congr {l m : List Pt} {half : Int} : ∀ n, (∀ i, i ≤ n → ptA l i = ptA m i) → strokeU l half n = strokeU m half n
  | 0, _ => rfl
  | n + 1, h => by simp only [strokeU]; rw [strokeU_congr n fun i hi => h i (by omega), h n (by omega), h (n + 1) (by omega)]
theorem ptA_drop (l : List Pt) (i : Nat) : ptA (l.drop 1) i = ptA l (i + 1) := by
  simp [ptA, px, py]
theorem ptA_take {l : List Pt} {n i : Nat} (h : i < n) : ptA (l.take n) i = ptA l i := by
  simp [ptA, px, py, h]
theorem strokeU_cons (l : List Pt) (half : Int) : ∀ n, strokeU l half (n + 1) = strokeU l half 1 ++ strokeU (l.drop 1) half n
  | 0 => by simp [strokeU]
  | n + 1 => by
    have e : strokeU (l.drop 1) half (n + 1) = strokeU (l.drop 1) half n ++ if ptA l (n + 1) = ptA l (n + 1 + 1) then [] else [barL (ptA l (n + 1)) (ptA l (n + 1 + 1)) half] := by
      rw [strokeU, ptA_drop, ptA_drop]
    rw [strokeU, strokeU_cons l half n, List.append_assoc, e]
theorem stroke_parts {l : List Pt} (half : Int) (h : 2 ≤ l.length) : strokeL (l.take 2) half ++ strokeL (l.drop 1) half = strokeL l half := by
  unfold strokeL
  rw [show l.length - 1 = (l.length - 2) + 1 by omega, strokeU_cons]
  congr 1
  · rw [show (l.take 2).length - 1 = 1 by simp; omega]
    exact strokeU_congr 1 fun i hi => ptA_take (by omega)
  · rw [show (l.drop 1).length - 1 = l.length - 2 by simp; omega]
theorem ringsOk_left {l m : List (List Pt)} (h : ringsOk (l ++ m) = true) : ringsOk l = true ∧ ringsOk m = true := by
  obtain ⟨h1, h2, h3⟩ := ringsOk_parts h
  rw [ringsLen_append] at h3
  rw [List.length_append] at h2
  simp only [ringsOk, Bool.and_eq_true, List.all_eq_true, decide_eq_true_eq]
  exact ⟨⟨fun r hr => h1 r (by simp [hr]), by omega, by omega⟩, fun r hr => h1 r (by simp [hr]), by omega, by omega⟩
theorem validL_take {l : List Pt} (h : validL l = true) (n : Nat) : validL (l.take n) = true := by
  simp only [validL, Bool.and_eq_true, decide_eq_true_eq, List.all_eq_true] at h ⊢
  exact ⟨by simp; omega, fun p hp => h.2 p (List.mem_of_mem_take hp)⟩
theorem validL_drop {l : List Pt} (h : validL l = true) (n : Nat) : validL (l.drop n) = true := by
  simp only [validL, Bool.and_eq_true, decide_eq_true_eq, List.all_eq_true] at h ⊢
  exact ⟨by simp; omega, fun p hp => h.2 p (List.mem_of_mem_drop hp)⟩
theorem stroke_take {l : List Pt} {half : Int} (h : strokeOk l half = true) (h2 : 2 ≤ l.length) : strokeOk (l.take 2) half = true ∧ strokeOk (l.drop 1) half = true := by
  obtain ⟨a, b, c, d⟩ := strokeOk_parts h
  rw [← stroke_parts half h2] at d
  have := ringsOk_left d
  simp only [strokeOk, Bool.and_eq_true, decide_eq_true_eq, inB_true]
  exact ⟨⟨by simp; omega, validL_take b 2, c, this.1⟩, by simp; omega, validL_drop b 1, c, this.2⟩
/-- How many of the first n lines have a length. -/
def linesU (l : List Pt) : Nat → Nat
  | 0 => 0
  | n + 1 => linesU l n + if ptA l n = ptA l (n + 1) then 0 else 1
theorem strokeU_len (l : List Pt) (half : Int) : ∀ n, (strokeU l half n).length = linesU l n
  | 0 => rfl
  | n + 1 => by simp only [strokeU, linesU, List.length_append, strokeU_len l half n]; split <;> simp
theorem linesU_mono (l : List Pt) {n m : Nat} (h : n ≤ m) : linesU l n ≤ linesU l m := by
  induction m with
  | zero => obtain rfl : n = 0 := by omega
            exact Nat.le_refl _
  | succ m ih =>
    by_cases e : n = m + 1
    · subst e; exact Nat.le_refl _
    · have := ih (by omega); simp only [linesU]; omega
theorem strokeU_at (l : List Pt) (half : Int) : ∀ {n m : Nat}, n < m → ptA l n ≠ ptA l (n + 1) → (strokeU l half m)[linesU l n]? = some (barL (ptA l n) (ptA l (n + 1)) half)
  | n, 0, h, _ => by omega
  | n, m + 1, h, hne => by
    simp only [strokeU]
    by_cases e : n = m
    · subst e
      rw [if_neg hne, List.getElem?_append_right (by rw [strokeU_len]; exact Nat.le_refl _), strokeU_len]; simp
    · have ih := strokeU_at l half (n := n) (m := m) (by omega) hne
      rw [List.getElem?_append_left (List.getElem?_eq_some_iff.1 ih).1, ih]
theorem rnd_small {a b : Int} (hb : 1 ≤ b) {M : Int} (h1 : -M ≤ a) (h2 : a ≤ M) (_hM : 0 ≤ M) : -(2 * M) - 1 ≤ rnd a b ∧ rnd a b ≤ 2 * M + 1 := by
  unfold rnd
  have e : 2 * a + b = 2 * a + b := rfl
  constructor
  · rw [Int.le_ediv_iff_mul_le (by omega)]
    have k : (2 * M + 1) * 1 ≤ (2 * M + 1) * b := Int.mul_le_mul_of_nonneg_left hb (by omega)
    have e : (-(2 * M) - 1) * (2 * b) = -2 * ((2 * M + 1) * b) := by
      rw [show -(2 * M) - 1 = -(2 * M + 1) by omega, Int.neg_mul, Int.mul_left_comm]; omega
    rw [e]; omega
  · have : (2 * a + b) / (2 * b) < 2 * M + 2 := by
      rw [Int.ediv_lt_iff_lt_mul (by omega)]
      have k : (2 * M + 1) * 1 ≤ (2 * M + 1) * b := Int.mul_le_mul_of_nonneg_left hb (by omega)
      have e : (2 * M + 2) * (2 * b) = 2 * ((2 * M + 1) * b) + 2 * b := by
        rw [show 2 * M + 2 = (2 * M + 1) + 1 by omega, Int.add_mul, Int.mul_left_comm]; omega
      rw [e]; omega
    omega

end Go.Proofs.Ytbiddmimcdmnoaa.Pl
