/-
  More plain laws on queues: as the program and the reference look at the slots.
-/
import Derived.Test.YtadpmigppjjmhaaPlD
namespace Go.Proofs.Ytadpmigppjjmhaa.Pl

theorem usedB_zero (t i : Int) : usedB t t i = false := by simp only [usedB, decide_eq_false_iff_not]; omega
theorem usedB_succ {t m i : Int} (h0 : 0 ≤ i) (h1 : i < 16) (h2 : t ≤ m) (h3 : m < t + 16) : usedB t (m + 1) i = (usedB t m i || decide (m % 16 = i)) := by
  rw [Bool.eq_iff_iff]
  simp only [usedB, Bool.or_eq_true, decide_eq_true_eq]
  omega
/-- The slots that are used, as the program lists them. -/
def usedL (t m : Int) : List Bool := (List.range 16).map fun i : Nat => usedB t m i
theorem usedL_len (t m : Int) : (usedL t m).length = 16 := by simp [usedL]
theorem usedL_zero (t : Int) : usedL t t = List.replicate 16 false := by
  simp only [usedL, usedB_zero]; rfl
theorem usedL_at {t m : Int} {i : Nat} (h : i < 16) : (usedL t m)[i]? = some (usedB t m i) := by simp [usedL, h]
theorem usedL_succ {t m : Int} (h2 : t ≤ m) (h3 : m < t + 16) : (usedL t m).set (m % 16).toNat true = usedL t (m + 1) := by
  have hm := Int.emod_nonneg m (by omega : (16 : Int) ≠ 0)
  have hm' := Int.emod_lt_of_pos m (by omega : (0 : Int) < 16)
  apply List.ext_getElem?
  intro i
  rcases Nat.lt_or_ge i 16 with hi | hi
  · rw [List.getElem?_set, usedL_at hi, usedL_at hi, usedL_len, usedB_succ (by omega) (by omega) h2 h3]
    by_cases e : (m % 16).toNat = i
    · rw [if_pos e, if_pos (by omega)]
      have : m % 16 = (i : Int) := by omega
      rw [this]; simp
    · rw [if_neg e]
      have : ¬ m % 16 = (i : Int) := by omega
      simp [this]
  · rw [List.getElem?_eq_none (by rw [List.length_set, usedL_len]; exact hi), List.getElem?_eq_none (by rw [usedL_len]; exact hi)]
def filledB (l : List Int) (t b : Int) : Nat → Bool
  | 0 => true
  | n + 1 => filledB l t b n && (usedB t b n == decide (0 ≤ l.getD n 0))
theorem slotOk_split (t b i s : Int) : slotOk t b i s = ((decide (-1 ≤ s ∧ s ≤ 99)) && (usedB t b i == decide (0 ≤ s))) := by
  unfold slotOk
  cases usedB t b i
  · rw [Bool.eq_iff_iff]; simp; omega
  · rw [Bool.eq_iff_iff]; simp; omega
theorem slotsOk_split (l : List Int) (t b : Int) : ∀ n, n ≤ l.length → slotsOk l t b n = (((l.take n).all fun x => decide (-1 ≤ x ∧ x ≤ 99)) && filledB l t b n)
  | 0, _ => by simp [slotsOk, filledB]
  | n + 1, h => by
    have hn : n < l.length := by omega
    have e : l.getD n 0 = l[n] := by simp [hn]
    rw [slotsOk, slotsOk_split l t b n (by omega), slotOk_split, List.take_succ_eq_append_getElem hn, List.all_append, filledB, e]
    simp only [List.all_cons, List.all_nil, Bool.and_true]
    cases (l.take n).all fun x => decide (-1 ≤ x ∧ x ≤ 99) <;> cases filledB l t b n <;> cases decide (-1 ≤ l[n] ∧ l[n] ≤ 99) <;> simp
theorem slotsOk_not {l : List Int} {t b : Int} {k : Nat} (h : slotOk t b k (l.getD k 0) = false) : ∀ m, k < m → slotsOk l t b m = false
  | 0, hm => by omega
  | m + 1, hm => by
    simp only [slotsOk]
    by_cases e : k = m
    · subst e; rw [h, Bool.and_false]
    · rw [slotsOk_not h m (by omega), Bool.false_and]
theorem filledB_not {l : List Int} {t b : Int} {k : Nat} (h : (usedB t b k == decide (0 ≤ l.getD k 0)) = false) : ∀ m, k < m → filledB l t b m = false
  | 0, hm => by omega
  | m + 1, hm => by
    simp only [filledB]
    by_cases e : k = m
    · subst e; rw [h, Bool.and_false]
    · rw [filledB_not h m (by omega), Bool.false_and]
theorem validD_impl {l : List Int} {t b : Int} : validD ⟨l, t, b⟩ = (decide (l.length = 16) && (decide (0 ≤ t ∧ t ≤ 500) && (decide (t ≤ b ∧ b ≤ min 500 (t + 16)) && slotsOk l t b 16))) := by
  rw [Bool.eq_iff_iff]
  simp only [validD, endsB, Bool.and_eq_true, decide_eq_true_eq]
  constructor
  · rintro ⟨h1, h2, h3⟩; exact ⟨h1, by omega, by omega, h3⟩
  · rintro ⟨h1, h2, h3, h4⟩; exact ⟨h1, by omega, h4⟩
theorem validD_spec {l : List Int} {t b : Int} (h : l.length = 16) : validD ⟨l, t, b⟩ = ((l.all fun x => decide (-1 ≤ x ∧ x ≤ 99)) && (decide (0 ≤ t ∧ t ≤ 500) && (decide (t ≤ b ∧ b ≤ t + 16) && (decide (b ≤ 500) && filledB l t b 16)))) := by
  have e := slotsOk_split l t b 16 (by omega)
  rw [List.take_of_length_le (by omega)] at e
  rw [validD, e, Bool.eq_iff_iff]
  simp only [endsB, Bool.and_eq_true, decide_eq_true_eq]
  constructor
  · rintro ⟨h1, h2, h3, h4⟩; exact ⟨h3, by omega, by omega, by omega, h4⟩
  · rintro ⟨h1, h2, h3, h4, h5⟩; exact ⟨h, by omega, h1, h5⟩
theorem validD_len {l : List Int} {t b : Int} (h : l.length ≠ 16) : validD ⟨l, t, b⟩ = false := by simp [validD, h]

end Go.Proofs.Ytadpmigppjjmhaa.Pl
