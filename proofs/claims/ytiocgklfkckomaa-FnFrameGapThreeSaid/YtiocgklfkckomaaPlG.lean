/-
  Plain laws on frames and paths, with no program in sight.
-/
import Derived.Test.YtiocgklfkckomaaPlC
namespace Go.Proofs.Ytiocgklfkckomaa.Pl

/-- A color: red, green, blue, alpha. -/
abbrev Cl := Int × Int × Int × Int
def colorB (c : Cl) : Bool := decide (0 ≤ c.2.2.2 ∧ c.2.2.2 ≤ 255 ∧ 0 ≤ c.1 ∧ c.1 ≤ c.2.2.2 ∧ 0 ≤ c.2.1 ∧ c.2.1 ≤ c.2.2.2 ∧ 0 ≤ c.2.2.1 ∧ c.2.2.1 ≤ c.2.2.2)
theorem colorB_true {r g b a : Int} : colorB (r, g, b, a) = true ↔ 0 ≤ a ∧ a ≤ 255 ∧ 0 ≤ r ∧ r ≤ a ∧ 0 ≤ g ∧ g ≤ a ∧ 0 ≤ b ∧ b ≤ a := by simp [colorB]
def cl (l : List Cl) (i : Nat) : Cl := l.getD i (0, 0, 0, 0)
theorem cl_eq {l : List Cl} {i : Nat} (h : i < l.length) : cl l i = l[i] := by simp [cl, h]
def frameB (x y : Int) (l : List Cl) : Bool := sizedB x y && (decide ((l.length : Int) = x * y) && l.all colorB)
/-- How many of the first n pixels differ. -/
def gapU (a b : List Cl) : Nat → Int
  | 0 => 0
  | n + 1 => gapU a b n + if cl a n = cl b n then 0 else 1
theorem gapU_in (a b : List Cl) : ∀ n, 0 ≤ gapU a b n ∧ gapU a b n ≤ n
  | 0 => by simp [gapU]
  | n + 1 => by have := gapU_in a b n; simp only [gapU]; split <;> omega
theorem gapU_comm (a b : List Cl) : ∀ n, gapU a b n = gapU b a n
  | 0 => rfl
  | n + 1 => by
    simp only [gapU, gapU_comm a b n]
    by_cases h : cl a n = cl b n
    · rw [if_pos h, if_pos h.symm]
    · rw [if_neg h, if_neg (Ne.symm h)]
theorem gapU_tri (a b c : List Cl) : ∀ n, gapU a c n ≤ gapU a b n + gapU b c n
  | 0 => by simp [gapU]
  | n + 1 => by
    have := gapU_tri a b c n
    simp only [gapU]
    by_cases h1 : cl a n = cl b n <;> by_cases h2 : cl b n = cl c n <;> by_cases h3 : cl a n = cl c n <;> simp only [h1, h2, h3, if_true, if_false] <;> first | omega | (exfalso; exact h3 (h1.trans h2)) | skip
    all_goals (rw [h1] at h3; simp_all)
theorem gapU_zero (a b : List Cl) : ∀ n, gapU a b n = 0 ↔ ∀ i, i < n → cl a i = cl b i
  | 0 => by simp [gapU]
  | n + 1 => by
    have h0 := gapU_in a b n
    have ih := gapU_zero a b n
    simp only [gapU]
    constructor
    · intro h i hi
      by_cases e : cl a n = cl b n
      · rw [if_pos e] at h
        by_cases e' : i = n
        · subst e'; exact e
        · exact ih.1 (by omega) i (by omega)
      · rw [if_neg e] at h; omega
    · intro h
      rw [if_pos (h n (by omega)), ih.2 fun i hi => h i (by omega)]; rfl
theorem ext_cl {a b : List Cl} (hl : a.length = b.length) (h : ∀ i, i < a.length → cl a i = cl b i) : a = b := by
  apply List.ext_getElem hl
  intro i h1 h2
  have := h i h1
  rwa [cl_eq h1, cl_eq h2] at this

/-- A verb: its kind and its points. -/
abbrev Vb := Int × List Pt
def manyV (k : Int) : Nat := if k = 0 then 1 else if k = 1 then 1 else if k = 2 then 2 else if k = 3 then 3 else 0
def vb (l : List Vb) (i : Nat) : Vb := l.getD i (0, [])
/-- Verb i is in order. -/
def verbOk (l : List Vb) (i : Nat) : Bool :=
  decide (0 ≤ (vb l i).1 ∧ (vb l i).1 ≤ 4) && (decide ((vb l i).2.length = manyV (vb l i).1) && (validL (vb l i).2 && !(decide (i = 0 ∨ (vb l (i - 1)).1 = 4) && decide ((vb l i).1 ≠ 0))))
def verbsOk (l : List Vb) : Nat → Bool
  | 0 => true
  | n + 1 => verbsOk l n && verbOk l n
def pointsV (l : List Vb) : Nat → Nat
  | 0 => 0
  | n + 1 => pointsV l n + (vb l n).2.length
def pathB (l : List Vb) : Bool := verbsOk l l.length && decide (l.length ≤ 30 ∧ pointsV l l.length ≤ 40)
theorem verbsOk_not {l : List Vb} {n : Nat} (h : verbOk l n = false) : ∀ m, n < m → verbsOk l m = false
  | 0, hm => by omega
  | m + 1, hm => by
    simp only [verbsOk]
    by_cases e : n = m
    · subst e; rw [h, Bool.and_false]
    · rw [verbsOk_not h m (by omega), Bool.false_and]
theorem pointsV_le {l : List Vb} : ∀ n, verbsOk l n = true → pointsV l n ≤ 3 * n
  | 0, _ => by simp [pointsV]
  | n + 1, h => by
    simp only [verbsOk, Bool.and_eq_true] at h
    have ih := pointsV_le n h.1
    have h2 := h.2
    simp only [verbOk, Bool.and_eq_true, decide_eq_true_eq] at h2
    have h3 := h2.2.1
    have : manyV (vb l n).1 ≤ 3 := by unfold manyV; repeat' split
                                      all_goals omega
    simp only [pointsV]; omega

end Go.Proofs.Ytiocgklfkckomaa.Pl
