/-
  Plain laws on strokes, second part: sizes, bounds, and what the law says of the ends.
-/
import Derived.Test.YtbiddmimcdmnoaaPlS
namespace Go.Proofs.Ytbiddmimcdmnoaa.Pl

theorem strokeU_four (l : List Pt) (half : Int) : ∀ n, ∀ r ∈ strokeU l half n, r.length = 4
  | 0, r, h => by simp [strokeU] at h
  | n + 1, r, h => by
    simp only [strokeU, List.mem_append] at h
    rcases h with h | h
    · exact strokeU_four l half n r h
    · split at h
      · simp at h
      · simp only [List.mem_cons, List.not_mem_nil, or_false] at h; subst h; rfl
theorem ringsLen_four : ∀ L : List (List Pt), (∀ r ∈ L, r.length = 4) → ringsLen L = 4 * L.length
  | [], _ => rfl
  | r :: L, h => by
    have e := ringsLen_append [r] L
    have := ringsLen_four L fun r hr => h r (by simp [hr])
    have h1 := h r (by simp)
    have e1 : ringsLen [r] = r.length := by simp [ringsLen]
    rw [List.singleton_append] at e
    rw [e, e1, this, h1, List.length_cons]; omega
theorem linesU_le (l : List Pt) : ∀ n, linesU l n ≤ n
  | 0 => Nat.le_refl _
  | n + 1 => by have := linesU_le l n; simp only [linesU]; split <;> omega
/-- The rings one by one. -/
def strokeF (l : List Pt) (half : Int) (i : Nat) : List Pt := (strokeL l half).getD i []
theorem strokeF_at {l : List Pt} {half : Int} {k : Nat} (hk : k + 1 < l.length) (hne : ptA l k ≠ ptA l (k + 1)) : strokeF l half (linesU l k) = barL (ptA l k) (ptA l (k + 1)) half := by
  unfold strokeF
  rw [List.getD_eq_getElem?_getD, show strokeL l half = strokeU l half (l.length - 1) from rfl, strokeU_at l half (by omega) hne]; rfl
theorem strokeL_len (l : List Pt) (half : Int) : (strokeL l half).length = linesU l (l.length - 1) := strokeU_len l half _
theorem linesU_succ {l : List Pt} {k : Nat} (h : ptA l k ≠ ptA l (k + 1)) : linesU l (k + 1) = linesU l k + 1 := by simp only [linesU, if_neg h]
theorem linesU_same {l : List Pt} {k : Nat} (h : ptA l k = ptA l (k + 1)) : linesU l (k + 1) = linesU l k := by simp only [linesU, if_pos h]; omega
theorem mul_bar {a b : Int} (h1 : -2000 ≤ a) (h2 : a ≤ 2000) (h3 : 1 ≤ b) (h4 : b ≤ 100) : -200000 ≤ a * b ∧ a * b ≤ 200000 := by
  have k1 : a * b ≤ 2000 * b := Int.mul_le_mul_of_nonneg_right h2 (by omega)
  have k2 : -2000 * b ≤ a * b := Int.mul_le_mul_of_nonneg_right h1 (by omega)
  omega
theorem barX_small {x y u v half : Int} (hp : ptB (x, y) = true) (hq : ptB (u, v) = true) (hne : ((x, y) : Pt) ≠ (u, v)) (h3 : 1 ≤ half) (h4 : half ≤ 100) :
    -500000 ≤ barX (x, y) (u, v) half ∧ barX (x, y) (u, v) half ≤ 500000 ∧ -500000 ≤ barY (x, y) (u, v) half ∧ barY (x, y) (u, v) half ≤ 500000 := by
  obtain ⟨_, _, _, _⟩ := ptB_true.1 hp
  obtain ⟨_, _, _, _⟩ := ptB_true.1 hq
  have hr := rootI_pos (dist2_pos hne)
  obtain ⟨m1, m2⟩ := mul_bar (a := y - v) (b := half) (by omega) (by omega) h3 h4
  obtain ⟨m3, m4⟩ := mul_bar (a := u - x) (b := half) (by omega) (by omega) h3 h4
  have a1 := rnd_small hr m1 m2 (by omega)
  have a2 := rnd_small hr m3 m4 (by omega)
  unfold barX barY
  simp only
  omega
theorem strokeR_ok {l : List Pt} {half : Int} (h : strokeOk l half = true) : strokeR l half = strokeL l half := by rw [strokeR, if_pos h]
theorem strokeR_no {l : List Pt} {half : Int} (h : strokeOk l half = false) : strokeR l half = [] := by rw [strokeR, h]; rfl
theorem strokeR_four (l : List Pt) (half : Int) : ∀ r ∈ strokeR l half, r.length = 4 := by
  unfold strokeR
  split
  · exact strokeU_four l half _
  · intro r h; simp at h
theorem strokeR_len (l : List Pt) (half : Int) : (strokeR l half).length ≤ 8 := by
  unfold strokeR
  split
  · rename_i h
    obtain ⟨a, _⟩ := strokeOk_parts h
    rw [strokeL_len]
    have := linesU_le l (l.length - 1); omega
  · simp
/-- Opposite points add up to both ends. -/
theorem bar_sum (a b : Pt) (half : Int) : px (barL a b half) 0 + px (barL a b half) 3 = 2 * a.1 ∧ py (barL a b half) 0 + py (barL a b half) 3 = 2 * a.2 ∧ px (barL a b half) 1 + px (barL a b half) 2 = 2 * b.1 ∧ py (barL a b half) 1 + py (barL a b half) 2 = 2 * b.2 := by
  have e : ∀ (a b c d : Pt), ([a, b, c, d].getD 0 (0, 0) = a ∧ [a, b, c, d].getD 1 (0, 0) = b) ∧ [a, b, c, d].getD 2 (0, 0) = c ∧ [a, b, c, d].getD 3 (0, 0) = d := fun a b c d => ⟨⟨rfl, rfl⟩, rfl, rfl⟩
  simp only [barL, px, py, e]
  omega
theorem strokeR_at {l : List Pt} {half : Int} {k : Nat} (h : strokeOk l half = true) (hk : k + 1 < l.length) (hne : ptA l k ≠ ptA l (k + 1)) : (strokeR l half)[linesU l k]? = some (barL (ptA l k) (ptA l (k + 1)) half) := by
  rw [strokeR_ok h]; exact strokeU_at l half (by omega) hne
theorem strokeR_end {l : List Pt} {half : Int} (h : strokeOk l half = true) : (strokeR l half).length = linesU l (l.length - 1) := by rw [strokeR_ok h, strokeL_len]

end Go.Proofs.Ytbiddmimcdmnoaa.Pl
