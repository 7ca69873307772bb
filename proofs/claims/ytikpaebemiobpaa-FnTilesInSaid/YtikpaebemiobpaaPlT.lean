/-
  Plain laws on the tiles in a box, with no program in sight.
-/
import Derived.Test.YtikpaebemiobpaaTile
import Derived.Test.YtikpaebemiobpaaCut
namespace Go.Proofs.Ytikpaebemiobpaa
open Go.RowKit Pl

def touch (x y : Bx) : Bool := decide (max x.l y.l < min x.r y.r ∧ max x.t y.t < min x.b y.b)
theorem meet_empty (x y : Bx) : emptyB (meet y x) = !touch x y := by
  obtain ⟨l, t, r, b⟩ := x
  obtain ⟨l', t', r', b'⟩ := y
  by_cases h : max l l' < min r r' ∧ max t t' < min b b'
  · rw [meet_no (by rw [Int.max_comm l', Int.min_comm r', Int.max_comm t', Int.min_comm b']; exact h)]
    have : touch ⟨l, t, r, b⟩ ⟨l', t', r', b'⟩ = true := decide_eq_true h
    rw [this, Int.max_comm l', Int.min_comm r', Int.max_comm t', Int.min_comm b']
    exact emptyB_false.2 h
  · rw [meet_yes (by rw [Int.max_comm l', Int.min_comm r', Int.max_comm t', Int.min_comm b']; omega)]
    have : touch ⟨l, t, r, b⟩ ⟨l', t', r', b'⟩ = false := decide_eq_false h
    rw [this]; rfl
def tIn (x : Bx) (w h k : Int) : Bool := touch x (tileB w h k)
def tilesL (x : Bx) (w h : Int) : Nat → List Int
  | 0 => []
  | m + 1 => tilesL x w h m ++ (if tIn x w h (m : Int) then [(m : Int)] else [])
theorem tilesL_yes {x : Bx} {w h : Int} {m : Nat} (e : tIn x w h (m : Int) = true) : tilesL x w h (m + 1) = tilesL x w h m ++ [(m : Int)] := by rw [tilesL, if_pos e]
theorem tilesL_no {x : Bx} {w h : Int} {m : Nat} (e : tIn x w h (m : Int) = false) : tilesL x w h (m + 1) = tilesL x w h m := by rw [tilesL, e]; simp
theorem tilesL_len (x : Bx) (w h : Int) : ∀ m, (tilesL x w h m).length ≤ m
  | 0 => Nat.le_refl _
  | m + 1 => by
    have := tilesL_len x w h m
    cases e : tIn x w h (m : Int)
    · rw [tilesL_no e]; omega
    · rw [tilesL_yes e, List.length_append]; simp; omega
theorem tilesL_mem {x : Bx} {w h : Int} {t : Nat} : ∀ {m : Nat}, (t : Int) ∈ tilesL x w h m ↔ t < m ∧ tIn x w h (t : Int) = true
  | 0 => by simp [tilesL]
  | m + 1 => by
    have ih := tilesL_mem (x := x) (w := w) (h := h) (t := t) (m := m)
    cases e : tIn x w h (m : Int)
    · rw [tilesL_no e, ih]
      constructor
      · rintro ⟨h1, h2⟩; exact ⟨by omega, h2⟩
      · rintro ⟨h1, h2⟩
        refine ⟨?_, h2⟩
        rcases Nat.lt_or_eq_of_le (Nat.le_of_lt_succ h1) with h3 | h3
        · exact h3
        · subst h3; rw [e] at h2; cases h2
    · rw [tilesL_yes e, List.mem_append, ih, List.mem_singleton]
      constructor
      · rintro (⟨h1, h2⟩ | h1)
        · exact ⟨by omega, h2⟩
        · have : t = m := by omega
          subst this; exact ⟨by omega, e⟩
      · rintro ⟨h1, h2⟩
        rcases Nat.lt_or_eq_of_le (Nat.le_of_lt_succ h1) with h3 | h3
        · exact .inl ⟨h3, h2⟩
        · right; omega
def tilesR (x : Bx) (w h : Int) : List Int := if validB x && sizedB w h then tilesL x w h (tileN w h).toNat else []
theorem tilesR_in {x : Bx} {w h : Int} (h1 : validB x = true) (h2 : sizedB w h = true) : tilesR x w h = tilesL x w h (tileN w h).toNat := by rw [tilesR, h1, h2]; rfl
theorem tilesR_out1 {x : Bx} {w h : Int} (h1 : validB x = false) : tilesR x w h = [] := by rw [tilesR, h1]; rfl
theorem tilesR_out2 {x : Bx} {w h : Int} (h2 : sizedB w h = false) : tilesR x w h = [] := by rw [tilesR, h2]; simp
theorem tilesR_len (x : Bx) (w h : Int) : (tilesR x w h).length ≤ 9 := by
  cases h1 : validB x
  · rw [tilesR_out1 h1]; simp
  · cases h2 : sizedB w h
    · rw [tilesR_out2 h2]; simp
    · rw [tilesR_in h1 h2]
      have := tilesL_len x w h (tileN w h).toNat
      have := tileN_le h2
      omega
/-- The tile's box lies in the picture. -/
theorem tileB_in {w h k : Int} (hs : sizedB w h = true) (h0 : 0 ≤ k) (h1 : k < tileN w h) : 0 ≤ (tileB w h k).l ∧ (tileB w h k).l < (tileB w h k).r ∧ (tileB w h k).r ≤ w ∧ 0 ≤ (tileB w h k).t ∧ (tileB w h k).t < (tileB w h k).b ∧ (tileB w h k).b ≤ h := by
  obtain ⟨a1, a2, b1, b2⟩ := sizedB_true.1 hs
  have hd : k / acr w < acr h := by
    have ha : 0 < acr w := by unfold acr; omega
    refine Int.ediv_lt_of_lt_mul ha ?_
    rw [Int.mul_comm]; exact h1
  have hd0 : 0 ≤ k / acr w := Int.ediv_nonneg h0 (by unfold acr; omega)
  have hm : k % acr w < acr w := Int.emod_lt_of_pos _ (by unfold acr; omega)
  have hm0 : 0 ≤ k % acr w := Int.emod_nonneg _ (by unfold acr; omega)
  simp only [tileB]
  generalize k / acr w = p at hd hd0
  generalize k % acr w = q at hm hm0
  unfold acr at hd hm
  omega
theorem tileB_valid {w h k : Int} (hs : sizedB w h = true) (h0 : 0 ≤ k) (h1 : k < tileN w h) : validB (tileB w h k) = true ∧ okB (tileB w h k) = true := by
  have := tileB_in hs h0 h1
  obtain ⟨a1, a2, b1, b2⟩ := sizedB_true.1 hs
  generalize tileB w h k = x at this
  obtain ⟨l, t, r, b⟩ := x
  simp only at this
  exact ⟨validB_true.2 (by omega), okB_true.2 (by omega)⟩
/-- The whole picture touches all. -/
theorem all_touch {w h k : Int} (hs : sizedB w h = true) (h0 : 0 ≤ k) (h1 : k < tileN w h) : tIn ⟨0, 0, w, h⟩ w h k = true := by
  have := tileB_in hs h0 h1
  rw [tIn, touch]
  generalize tileB w h k = x at this
  obtain ⟨l, t, r, b⟩ := x
  simp only at this
  refine decide_eq_true ?_
  simp only
  omega
theorem all_tiles {w h : Int} (hs : sizedB w h = true) : ∀ {m : Nat}, (m : Int) ≤ tileN w h → tilesL ⟨0, 0, w, h⟩ w h m = (List.range m).map fun k : Nat => (k : Int)
  | 0, _ => rfl
  | m + 1, hm => by
    rw [tilesL_yes (all_touch hs (by omega) (by omega)), all_tiles hs (by omega), List.range_succ, List.map_append]
    rfl
theorem meet_touch {x y : Bx} : (meet x y ≠ zero) ↔ touch x y = true := by
  obtain ⟨l, t, r, b⟩ := x
  obtain ⟨l', t', r', b'⟩ := y
  by_cases h : max l l' < min r r' ∧ max t t' < min b b'
  · rw [meet_no h]
    have : touch ⟨l, t, r, b⟩ ⟨l', t', r', b'⟩ = true := decide_eq_true h
    rw [this]
    simp only [iff_true]
    intro e
    rw [zero] at e
    simp only [Bx.mk.injEq] at e
    omega
  · rw [meet_yes (by omega)]
    have : touch ⟨l, t, r, b⟩ ⟨l', t', r', b'⟩ = false := decide_eq_false h
    rw [this]
    simp [zero]

end Go.Proofs.Ytikpaebemiobpaa
