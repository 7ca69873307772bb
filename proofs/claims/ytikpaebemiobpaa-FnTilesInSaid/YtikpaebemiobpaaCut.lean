/-
  Plain laws on what boxes have in common.
-/
import Derived.Test.YtikpaebemiobpaaPlain
namespace Go.Proofs.Ytikpaebemiobpaa.Pl

/-- A box that is valid and has something. -/
def okB (x : Bx) : Bool := validB x && !emptyB x
theorem okB_true {l t r b : Int} : okB ⟨l, t, r, b⟩ = true ↔ -1000 ≤ l ∧ l < r ∧ r ≤ 1000 ∧ -1000 ≤ t ∧ t < b ∧ b ≤ 1000 := by
  simp only [okB, Bool.and_eq_true, validB_true, Bool.not_eq_true', emptyB_false]; omega
theorem cut_self {x : Bx} (h : okB x = true) : cutB x x = x := by
  obtain ⟨l, t, r, b⟩ := x
  have h' := okB_true.1 h
  simp only [okB, Bool.and_eq_true] at h
  simp only [cutB, h.1, Bool.and_self, if_true]
  rw [meet_no (by omega)]
  simp
theorem cut_none {x : Bx} (h : okB x = false) : cutB x x = ⟨0, 0, 0, 0⟩ := by
  obtain ⟨l, t, r, b⟩ := x
  cases hv : validB ⟨l, t, r, b⟩ with
  | false => simp [cutB, hv, zero]
  | true =>
    simp only [okB, hv, Bool.true_and, Bool.not_eq_false'] at h
    simp only [cutB, hv, Bool.and_self, if_true]
    rw [emptyB_true] at h
    exact meet_yes (by omega)
theorem cut_ok {x y : Bx} (hx : okB x = true) (hy : okB y = true) : cutB x y = meet x y := by
  simp only [okB, Bool.and_eq_true] at hx hy
  simp [cutB, hx.1, hy.1]

/-- The common part of two boxes that have something: it has something, or is zero. -/
theorem meet_or {l t r b l' t' r' b' : Int} (h1 : okB ⟨l, t, r, b⟩ = true) (h2 : okB ⟨l', t', r', b'⟩ = true) :
    (max l l' < min r r' ∧ max t t' < min b b' ∧ meet ⟨l, t, r, b⟩ ⟨l', t', r', b'⟩ = ⟨max l l', max t t', min r r', min b b'⟩ ∧ okB ⟨max l l', max t t', min r r', min b b'⟩ = true) ∨
    (¬ (max l l' < min r r' ∧ max t t' < min b b') ∧ meet ⟨l, t, r, b⟩ ⟨l', t', r', b'⟩ = ⟨0, 0, 0, 0⟩) := by
  rw [okB_true] at h1 h2
  by_cases h : max l l' < min r r' ∧ max t t' < min b b'
  · exact .inl ⟨h.1, h.2, meet_no h, by rw [okB_true]; omega⟩
  · exact .inr ⟨h, meet_yes (by omega)⟩
theorem ite4_no {α : Type} {p q r s : Prop} [Decidable p] [Decidable q] [Decidable r] [Decidable s] (h : ¬ (p ∧ q ∧ r ∧ s)) (x y : α) : (if p then if q then if r then if s then x else y else y else y else y) = y := by
  by_cases hp : p <;> by_cases hq : q <;> by_cases hr : r <;> by_cases hs : s <;> simp_all
theorem zero_valid : validB ⟨0, 0, 0, 0⟩ = true := by decide
theorem cut_zero {l t r b : Int} (h : okB ⟨l, t, r, b⟩ = true) : cutB ⟨l, t, r, b⟩ ⟨0, 0, 0, 0⟩ = ⟨0, 0, 0, 0⟩ ∧ cutB ⟨0, 0, 0, 0⟩ ⟨l, t, r, b⟩ = ⟨0, 0, 0, 0⟩ := by
  have h' := okB_true.1 h
  simp only [okB, Bool.and_eq_true] at h
  simp only [cutB, h.1, zero_valid, Bool.and_self, if_true]
  exact ⟨meet_yes (by omega), meet_yes (by omega)⟩

theorem mm_right {a b c x y z : Int} (h : max (max a b) c < min (min x y) z) : max b c < min y z := by
  rw [Int.max_assoc, Int.min_assoc, Int.max_lt] at h
  exact Int.lt_of_lt_of_le h.2 (Int.min_le_right _ _)
theorem mm_left {a b c x y z : Int} (h : max a (max b c) < min x (min y z)) : max a b < min x y := by rw [← Int.max_assoc, ← Int.min_assoc] at h; rw [Int.max_lt, Int.lt_min] at h; exact h.1.1

theorem cut_three {l t r b l' t' r' b' p q u v : Int} (h1 : okB ⟨l, t, r, b⟩ = true) (h2 : okB ⟨l', t', r', b'⟩ = true) (h3 : okB ⟨p, q, u, v⟩ = true) :
    cutB (cutB ⟨l, t, r, b⟩ ⟨l', t', r', b'⟩) ⟨p, q, u, v⟩ = cutB ⟨l, t, r, b⟩ (cutB ⟨l', t', r', b'⟩ ⟨p, q, u, v⟩) := by
  rw [cut_ok h1 h2, cut_ok h2 h3]
  rcases meet_or h1 h2 with ⟨a1, a2, e1, k1⟩ | ⟨a1, e1⟩ <;> rcases meet_or h2 h3 with ⟨c1, c2, e2, k2⟩ | ⟨c1, e2⟩ <;> rw [e1, e2]
  · rw [cut_ok k1 h3, cut_ok h1 k2]
    rcases meet_or k1 h3 with ⟨d1, d2, e3, _⟩ | ⟨d1, e3⟩ <;> rcases meet_or h1 k2 with ⟨f1, f2, e4, _⟩ | ⟨f1, e4⟩ <;> rw [e3, e4]
    · simp only [Int.max_assoc, Int.min_assoc]
    · rw [Int.max_assoc, Int.min_assoc] at d1 d2; exact absurd ⟨d1, d2⟩ f1
    · rw [← Int.max_assoc, ← Int.min_assoc] at f1 f2; exact absurd ⟨f1, f2⟩ d1
  · rw [cut_ok k1 h3, (cut_zero h1).1]
    rcases meet_or k1 h3 with ⟨d1, d2, e3, _⟩ | ⟨d1, e3⟩
    · exact absurd ⟨mm_right d1, mm_right d2⟩ c1
    · exact e3
  · rw [(cut_zero h3).2, cut_ok h1 k2]
    rcases meet_or h1 k2 with ⟨f1, f2, e4, _⟩ | ⟨f1, e4⟩
    · exact absurd ⟨mm_left f1, mm_left f2⟩ a1
    · exact e4.symm
  · rw [(cut_zero h3).2, (cut_zero h1).1]

theorem cut_again {l t r b l' t' r' b' : Int} (h1 : okB ⟨l, t, r, b⟩ = true) (h2 : okB ⟨l', t', r', b'⟩ = true) :
    cutB (cutB ⟨l, t, r, b⟩ ⟨l', t', r', b'⟩) ⟨l, t, r, b⟩ = cutB ⟨l, t, r, b⟩ ⟨l', t', r', b'⟩ := by
  rw [cut_ok h1 h2]
  rcases meet_or h1 h2 with ⟨a1, a2, e1, k1⟩ | ⟨a1, e1⟩ <;> rw [e1]
  · rw [cut_ok k1 h1]
    have n1 := okB_true.1 h1
    rw [meet_no (by omega)]
    simp only [Bx.mk.injEq]; omega
  · exact (cut_zero h1).2

theorem cut_comm {x y : Bx} : cutB x y = cutB y x := by
  obtain ⟨l, t, r, b⟩ := x
  obtain ⟨l', t', r', b'⟩ := y
  simp only [cutB, meet, Bool.and_comm, Int.max_comm l l', Int.max_comm t t', Int.min_comm r r', Int.min_comm b b']

end Go.Proofs.Ytikpaebemiobpaa.Pl
