/-
  Plain laws on lists of points, with no program in sight.
-/
import Derived.Test.YtadpmigppjjmhaaPlB
namespace Go.Proofs.Ytadpmigppjjmhaa.Pl

def validL (l : List Pt) : Bool := decide (l.length ≤ 40) && l.all ptB
def movedL (l : List Pt) (x y : Int) : List Pt := l.map fun p => (p.1 + x, p.2 + y)
def moveOk (l : List Pt) (x y : Int) : Bool := validL l && (inB x (-1000) 1000 && inB y (-1000) 1000) && validL (movedL l x y)
def moveR (l : List Pt) (x y : Int) : List Pt := if moveOk l x y then movedL l x y else []
def boxOk (l : List Pt) : Bool := validL l && !l.isEmpty
def boxR (l : List Pt) : Bx := if boxOk l then bbx l (l.length - 1) else zero
theorem validL_at {l : List Pt} (h : validL l = true) {k : Nat} (hk : k < l.length) : -1000 ≤ px l k ∧ px l k ≤ 1000 ∧ -1000 ≤ py l k ∧ py l k ≤ 1000 := by
  simp only [validL, Bool.and_eq_true, List.all_eq_true] at h
  have := h.2 l[k] (List.getElem_mem hk)
  simp only [ptB, decide_eq_true_eq] at this
  simpa [px, py, hk] using this
theorem validL_len {l : List Pt} (h : validL l = true) : l.length ≤ 40 := by
  simp only [validL, Bool.and_eq_true, decide_eq_true_eq] at h; exact h.1
theorem movedL_len (l : List Pt) (x y : Int) : (movedL l x y).length = l.length := by simp [movedL]
theorem movedL_at (l : List Pt) (x y : Int) {k : Nat} (hk : k < l.length) : px (movedL l x y) k = px l k + x ∧ py (movedL l x y) k = py l k + y := by
  simp [movedL, px, py, hk]
theorem movedL_two (l : List Pt) (x y u v : Int) : movedL (movedL l x y) u v = movedL l (x + u) (y + v) := by
  simp only [movedL, List.map_map]
  apply List.map_congr_left
  intro p _
  simp only [Function.comp, Prod.mk.injEq]; omega
theorem movedL_back (l : List Pt) (x y : Int) : movedL (movedL l x y) (-x) (-y) = l := by
  rw [movedL_two, show x + -x = 0 by omega, show y + -y = 0 by omega]
  simp [movedL]
theorem moveOk_parts {l : List Pt} {x y : Int} (h : moveOk l x y = true) : validL l = true ∧ (-1000 ≤ x ∧ x ≤ 1000) ∧ (-1000 ≤ y ∧ y ≤ 1000) ∧ validL (movedL l x y) = true := by
  simp only [moveOk, Bool.and_eq_true, inB_true] at h; exact ⟨h.1.1, h.1.2.1, h.1.2.2, h.2⟩
theorem moveOk_back {l : List Pt} {x y : Int} (h : moveOk l x y = true) : moveOk (movedL l x y) (-x) (-y) = true := by
  obtain ⟨h1, h2, h3, h4⟩ := moveOk_parts h
  simp only [moveOk, movedL_back, h1, h4, Bool.and_true, Bool.true_and, Bool.and_eq_true, inB_true]; omega
theorem moveR_back {l : List Pt} {x y : Int} (h : moveOk l x y = true) : moveR (movedL l x y) (-x) (-y) = l := by
  simp only [moveR, moveOk_back h, if_true, movedL_back]
theorem moveR_ok {l : List Pt} {x y : Int} (h : moveOk l x y = true) : moveR l x y = movedL l x y := by simp [moveR, h]
theorem moveR_no {l : List Pt} {x y : Int} (h : moveOk l x y = false) : moveR l x y = [] := by simp [moveR, h]
theorem move_sum {l : List Pt} {x y u v : Int} (_h1 : moveOk l x y = true) (h2 : moveOk (movedL l x y) u v = true) (h3 : moveOk l (x + u) (y + v) = true) : moveR (movedL l x y) u v = moveR l (x + u) (y + v) := by
  rw [moveR_ok h2, moveR_ok h3, movedL_two]
theorem bbx_moved (l : List Pt) (x y : Int) : ∀ k, k < l.length → bbx (movedL l x y) k = ⟨(bbx l k).l + x, (bbx l k).t + y, (bbx l k).r + x, (bbx l k).b + y⟩
  | 0, h => by have := movedL_at l x y h; simp only [bbx, this]
  | k + 1, h => by
    have := movedL_at l x y h
    have ih := bbx_moved l x y k (by omega)
    simp only [bbx, this, ih, Bx.mk.injEq]; omega
/-- All points up to k lie in the box, and each side has one. -/
theorem bbx_around (l : List Pt) : ∀ k i, i ≤ k → (bbx l k).l ≤ px l i ∧ px l i ≤ (bbx l k).r ∧ (bbx l k).t ≤ py l i ∧ py l i ≤ (bbx l k).b
  | 0, i, h => by obtain rfl : i = 0 := by omega
                  simp [bbx]
  | k + 1, i, h => by
    simp only [bbx]
    by_cases e : i = k + 1
    · subst e; omega
    · have := bbx_around l k i (by omega); omega
theorem bbx_left (l : List Pt) : ∀ k, ∃ i, i ≤ k ∧ px l i = (bbx l k).l
  | 0 => ⟨0, by omega, rfl⟩
  | k + 1 => by
    obtain ⟨i, hi, h⟩ := bbx_left l k
    simp only [bbx]
    by_cases e : (bbx l k).l ≤ px l (k + 1)
    · exact ⟨i, by omega, by omega⟩
    · exact ⟨k + 1, by omega, by omega⟩
theorem bbx_top (l : List Pt) : ∀ k, ∃ i, i ≤ k ∧ py l i = (bbx l k).t
  | 0 => ⟨0, by omega, rfl⟩
  | k + 1 => by
    obtain ⟨i, hi, h⟩ := bbx_top l k
    simp only [bbx]
    by_cases e : (bbx l k).t ≤ py l (k + 1)
    · exact ⟨i, by omega, by omega⟩
    · exact ⟨k + 1, by omega, by omega⟩
theorem bbx_right (l : List Pt) : ∀ k, ∃ i, i ≤ k ∧ px l i = (bbx l k).r
  | 0 => ⟨0, by omega, rfl⟩
  | k + 1 => by
    obtain ⟨i, hi, h⟩ := bbx_right l k
    simp only [bbx]
    by_cases e : px l (k + 1) ≤ (bbx l k).r
    · exact ⟨i, by omega, by omega⟩
    · exact ⟨k + 1, by omega, by omega⟩
theorem bbx_bottom (l : List Pt) : ∀ k, ∃ i, i ≤ k ∧ py l i = (bbx l k).b
  | 0 => ⟨0, by omega, rfl⟩
  | k + 1 => by
    obtain ⟨i, hi, h⟩ := bbx_bottom l k
    simp only [bbx]
    by_cases e : py l (k + 1) ≤ (bbx l k).b
    · exact ⟨i, by omega, by omega⟩
    · exact ⟨k + 1, by omega, by omega⟩
/-- One of the first n numbers is v. -/
def someEq (f : Nat → Int) (v : Int) : Nat → Bool
  | 0 => false
  | n + 1 => someEq f v n || decide (f n = v)
theorem someEq_true {f : Nat → Int} {v : Int} : ∀ {n i : Nat}, i < n → f i = v → someEq f v n = true
  | 0, _, h, _ => by omega
  | n + 1, i, h, e => by
    simp only [someEq, Bool.or_eq_true, decide_eq_true_eq]
    by_cases h' : i = n
    · subst h'; exact .inr e
    · exact .inl (someEq_true (by omega) e)
theorem boxOk_parts {l : List Pt} (h : boxOk l = true) : validL l = true ∧ 0 < l.length := by
  simp only [boxOk, Bool.and_eq_true, Bool.not_eq_true', List.isEmpty_eq_false_iff] at h
  exact ⟨h.1, List.length_pos_iff.2 h.2⟩

end Go.Proofs.Ytadpmigppjjmhaa.Pl
