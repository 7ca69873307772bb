/-
  Plain laws on curves, with no program in sight: halves, bends, flat curves, raised curves.
-/
import Derived.Test.YtbiddmimcdmnoaaPlC
namespace Go.Proofs.Ytbiddmimcdmnoaa.Pl

/-- Point i of a list. -/
def pt (l : List Pt) (i : Nat) : Pt := (px l i, py l i)
theorem pt_eq {l : List Pt} {i : Nat} (h : i < l.length) : pt l i = l[i] := by simp [pt, px, py, h]
theorem ext_pt {l m : List Pt} (hl : l.length = m.length) (h : ∀ i, i < l.length → pt l i = pt m i) : l = m := by
  apply List.ext_getElem hl
  intro i h1 h2
  have := h i h1
  rwa [pt_eq h1, pt_eq h2] at this
def tab (n : Nat) (f : Nat → Pt) : List Pt := (List.range n).map f
theorem tab_len (n : Nat) (f : Nat → Pt) : (tab n f).length = n := by simp [tab]
theorem tab_at {n : Nat} {f : Nat → Pt} {i : Nat} (h : i < n) : pt (tab n f) i = f i := by
  rw [pt_eq (by simpa [tab] using h)]; simp [tab]
theorem tab_px {n : Nat} {f : Nat → Pt} {i : Nat} (h : i < n) : px (tab n f) i = (f i).1 ∧ py (tab n f) i = (f i).2 := by
  have := tab_at (f := f) h
  exact ⟨by rw [← this]; rfl, by rw [← this]; rfl⟩
theorem tab_succ (n : Nat) (f : Nat → Pt) : tab (n + 1) f = tab n f ++ [f n] := by simp [tab, List.range_succ]
theorem tab_congr {n : Nat} {f g : Nat → Pt} (h : ∀ i, i < n → f i = g i) : tab n f = tab n g := by
  apply List.map_congr_left; intro i hi; exact h i (List.mem_range.1 hi)
theorem tab_pt (l : List Pt) : tab l.length (pt l) = l := ext_pt (tab_len _ _) fun i hi => tab_at (by simpa [tab] using hi)
theorem px_pt (l : List Pt) (i : Nat) : (pt l i).1 = px l i ∧ (pt l i).2 = py l i := ⟨rfl, rfl⟩

def mid (a b : Pt) : Pt := ((a.1 + b.1) / 2, (a.2 + b.2) / 2)
theorem mid_comm (a b : Pt) : mid a b = mid b a := by simp only [mid, Prod.mk.injEq]; omega
/-- The middles of the middles. -/
def dc (l : List Pt) : Nat → Nat → Pt
  | 0, i => pt l i
  | k + 1, i => mid (dc l k i) (dc l k (i + 1))
def leftL (l : List Pt) : List Pt := tab l.length fun k => dc l k 0
def rightL (l : List Pt) : List Pt := tab l.length fun j => dc l (l.length - 1 - j) j
theorem leftL_len (l : List Pt) : (leftL l).length = l.length := tab_len _ _
theorem rightL_len (l : List Pt) : (rightL l).length = l.length := tab_len _ _
theorem split_first {l : List Pt} (h : 0 < l.length) : pt (leftL l) 0 = pt l 0 := tab_at h
theorem split_last {l : List Pt} (h : 0 < l.length) : pt (rightL l) (l.length - 1) = pt l (l.length - 1) := by
  unfold rightL; rw [tab_at (by omega), show l.length - 1 - (l.length - 1) = 0 by omega]; rfl
theorem split_meet {l : List Pt} (h : 0 < l.length) : pt (leftL l) (l.length - 1) = pt (rightL l) 0 := by
  unfold leftL rightL; rw [tab_at (by omega), tab_at (by omega)]; rfl

/-- A point lies in a box. -/
def inBx (b : Bx) (p : Pt) : Prop := b.l ≤ p.1 ∧ p.1 ≤ b.r ∧ b.t ≤ p.2 ∧ p.2 ≤ b.b
theorem inBx_mid {b : Bx} {p q : Pt} (hp : inBx b p) (hq : inBx b q) : inBx b (mid p q) := by
  unfold inBx mid at *; simp only; omega
theorem inBx_dc {b : Bx} {l : List Pt} (h : ∀ i, i < l.length → inBx b (pt l i)) : ∀ k i, i + k < l.length → inBx b (dc l k i)
  | 0, i, hi => h i hi
  | k + 1, i, hi => inBx_mid (inBx_dc h k i (by omega)) (inBx_dc h k (i + 1) (by omega))
theorem inBx_left {b : Bx} {l : List Pt} (h : ∀ i, i < l.length → inBx b (pt l i)) : ∀ i, i < (leftL l).length → inBx b (pt (leftL l) i) := fun i hi => by
  rw [leftL_len] at hi; unfold leftL; rw [tab_at hi]; exact inBx_dc h i 0 (by omega)
theorem inBx_right {b : Bx} {l : List Pt} (h : ∀ i, i < l.length → inBx b (pt l i)) : ∀ i, i < (rightL l).length → inBx b (pt (rightL l) i) := fun i hi => by
  rw [rightL_len] at hi; unfold rightL; rw [tab_at hi]; exact inBx_dc h _ i (by omega)
theorem inBx_bbx {l : List Pt} : ∀ i, i < l.length → inBx (bbx l (l.length - 1)) (pt l i) := fun i hi => by
  have := bbx_around l (l.length - 1) i (by omega)
  simp only [inBx, pt]; omega
/-- The box around points of a box lies in it. -/
theorem bbx_inside {b : Bx} {l : List Pt} (h : ∀ i, i < l.length → inBx b (pt l i)) : ∀ k, k < l.length → b.l ≤ (bbx l k).l ∧ (bbx l k).r ≤ b.r ∧ b.t ≤ (bbx l k).t ∧ (bbx l k).b ≤ b.b
  | 0, hk => by have := h 0 hk; simp only [inBx, pt] at this; simp only [bbx]; omega
  | k + 1, hk => by
    have := h (k + 1) hk
    have ih := bbx_inside h k (by omega)
    simp only [inBx, pt] at this; simp only [bbx]; omega
/-- The numbers that are valid form a box. -/
def unitBx : Bx := ⟨-1000, -1000, 1000, 1000⟩
theorem validL_iff {l : List Pt} : validL l = true ↔ l.length ≤ 40 ∧ ∀ i, i < l.length → inBx unitBx (pt l i) := by
  constructor
  · intro h
    refine ⟨validL_len h, fun i hi => ?_⟩
    have := validL_at h hi
    simp only [inBx, unitBx, pt]; omega
  · rintro ⟨h1, h2⟩
    simp only [validL, Bool.and_eq_true, decide_eq_true_eq, List.all_eq_true]
    refine ⟨h1, fun p hp => ?_⟩
    obtain ⟨i, hi, rfl⟩ := List.mem_iff_getElem.1 hp
    have := h2 i hi
    rw [pt_eq hi] at this
    simp only [inBx, unitBx] at this
    simp only [ptB, decide_eq_true_eq]; omega
theorem valid_left {l : List Pt} (h : validL l = true) : validL (leftL l) = true := by
  rw [validL_iff] at h ⊢; exact ⟨by rw [leftL_len]; exact h.1, inBx_left h.2⟩
theorem valid_right {l : List Pt} (h : validL l = true) : validL (rightL l) = true := by
  rw [validL_iff] at h ⊢; exact ⟨by rw [rightL_len]; exact h.1, inBx_right h.2⟩

/-! ### Reversed curves -/
theorem pt_rev {l : List Pt} {i : Nat} (h : i < l.length) : pt l.reverse i = pt l (l.length - 1 - i) := by
  rw [pt_eq (by simpa using h), pt_eq (by omega), List.getElem_reverse]
theorem dc_rev (l : List Pt) : ∀ k i, i + k < l.length → dc l.reverse k i = dc l k (l.length - 1 - k - i)
  | 0, i, h => by simp only [dc]; rw [pt_rev (by omega)]; congr 1
  | k + 1, i, h => by
    simp only [dc]
    rw [dc_rev l k i (by omega), dc_rev l k (i + 1) (by omega), mid_comm]
    congr 2 <;> omega
theorem left_rev (l : List Pt) : leftL l.reverse = (rightL l).reverse := by
  apply ext_pt
  · simp [leftL_len, rightL_len]
  intro i hi
  rw [leftL_len, List.length_reverse] at hi
  unfold leftL
  rw [tab_at (by simpa using hi), dc_rev l i 0 (by omega), pt_rev (by rw [rightL_len]; exact hi), rightL_len]
  unfold rightL
  rw [tab_at (by omega)]
  congr 1 <;> omega
theorem right_rev (l : List Pt) : rightL l.reverse = (leftL l).reverse := by
  have := left_rev l.reverse
  rw [List.reverse_reverse] at this
  rw [this, List.reverse_reverse]

/-! ### Bends -/
def mag (n : Int) : Int := max n (-n)
def bendAt (l : List Pt) (i : Nat) : Int := max (mag (px l (i - 1) + px l (i + 1) - 2 * px l i)) (mag (py l (i - 1) + py l (i + 1) - 2 * py l i))
def bendU (l : List Pt) : Nat → Int
  | 0 => 0
  | k + 1 => max (bendU l k) (bendAt l (k + 1))
def bendN (l : List Pt) : Int := bendU l (l.length - 2)
theorem bendU_nonneg (l : List Pt) : ∀ k, 0 ≤ bendU l k
  | 0 => by simp [bendU]
  | k + 1 => by have := bendU_nonneg l k; simp only [bendU]; omega
theorem bendU_congr {l m : List Pt} : ∀ k, (∀ i, 1 ≤ i → i ≤ k → bendAt l i = bendAt m i) → bendU l k = bendU m k
  | 0, _ => rfl
  | k + 1, h => by simp only [bendU]; rw [bendU_congr k fun i h1 h2 => h i h1 (by omega), h (k + 1) (by omega) (by omega)]
theorem bend_moved (l : List Pt) (x y : Int) : bendN (movedL l x y) = bendN l := by
  unfold bendN
  rw [movedL_len]
  refine bendU_congr _ fun i h1 h2 => ?_
  have a := movedL_at l x y (k := i - 1) (by omega)
  have b := movedL_at l x y (k := i) (by omega)
  have c := movedL_at l x y (k := i + 1) (by omega)
  simp only [bendAt, a, b, c, mag]; omega
theorem bend_rev {l : List Pt} (h : l.length ≤ 4) : bendN l.reverse = bendN l := by
  have hp : ∀ i, i < l.length → px l.reverse i = px l (l.length - 1 - i) ∧ py l.reverse i = py l (l.length - 1 - i) := fun i hi => by
    have := pt_rev hi; simp only [pt, Prod.mk.injEq] at this; exact this
  have hb : ∀ i j, 1 ≤ i → 1 ≤ j → i + j + 1 = l.length → bendAt l.reverse i = bendAt l j := fun i j h1 h2 e => by
    have a := hp (i - 1) (by omega)
    have b := hp i (by omega)
    have c := hp (i + 1) (by omega)
    rw [show l.length - 1 - (i - 1) = j + 1 by omega] at a
    rw [show l.length - 1 - i = j by omega] at b
    rw [show l.length - 1 - (i + 1) = j - 1 by omega] at c
    simp only [bendAt, a, b, c, mag]; omega
  unfold bendN
  rw [List.length_reverse]
  have hn : l.length - 2 = 0 ∨ l.length = 3 ∨ l.length = 4 := by omega
  rcases hn with hn | hn | hn
  · rw [hn]; rfl
  · rw [hn]; simp only [bendU, Nat.reduceSub, Nat.zero_add]; rw [hb 1 1 (by omega) (by omega) (by omega)]
  · rw [hn]; simp only [bendU, Nat.reduceAdd, Nat.reduceSub, Nat.zero_add]; rw [hb 1 2 (by omega) (by omega) (by omega), hb 2 1 (by omega) (by omega) (by omega)]; omega
def curveB (l : List Pt) : Bool := decide (2 ≤ l.length ∧ l.length ≤ 4) && validL l
theorem curveB_parts {l : List Pt} (h : curveB l = true) : 2 ≤ l.length ∧ l.length ≤ 4 ∧ validL l = true := by
  simp only [curveB, Bool.and_eq_true, decide_eq_true_eq] at h; exact ⟨h.1.1, h.1.2, h.2⟩
theorem curveB_of {l : List Pt} (h1 : 2 ≤ l.length) (h2 : l.length ≤ 4) (h3 : validL l = true) : curveB l = true := by
  simp only [curveB, Bool.and_eq_true, decide_eq_true_eq]; exact ⟨⟨h1, h2⟩, h3⟩
theorem curve_left {l : List Pt} (h : curveB l = true) : curveB (leftL l) = true := by
  obtain ⟨h1, h2, h3⟩ := curveB_parts h
  exact curveB_of (by rw [leftL_len]; exact h1) (by rw [leftL_len]; exact h2) (valid_left h3)
theorem curve_right {l : List Pt} (h : curveB l = true) : curveB (rightL l) = true := by
  obtain ⟨h1, h2, h3⟩ := curveB_parts h
  exact curveB_of (by rw [rightL_len]; exact h1) (by rw [rightL_len]; exact h2) (valid_right h3)
theorem curve_rev {l : List Pt} (h : curveB l = true) : curveB l.reverse = true := by
  obtain ⟨h1, h2, h3⟩ := curveB_parts h
  refine curveB_of (by simpa using h1) (by simpa using h2) ?_
  rw [validL_iff] at h3 ⊢
  refine ⟨by simpa using h3.1, fun i hi => ?_⟩
  rw [List.length_reverse] at hi
  rw [pt_rev hi]; exact h3.2 _ (by omega)
def bendR (l : List Pt) : Int := if curveB l then bendN l else -1

/-! ### Flat curves -/
/-- The flat curve behind its first point. -/
def flat (lim : Int) : Nat → List Pt → List Pt
  | 0, l => [pt l (l.length - 1)]
  | d + 1, l => if bendN l ≤ lim then [pt l (l.length - 1)] else flat lim d (leftL l) ++ flat lim d (rightL l)
def flatC (lim : Int) (d : Nat) (l : List Pt) : List Pt := pt l 0 :: flat lim d l
theorem flat_le {lim : Int} {d : Nat} {l : List Pt} (h : bendN l ≤ lim) : flat lim d l = [pt l (l.length - 1)] := by
  cases d with
  | zero => rfl
  | succ d => simp [flat, h]
theorem flatC_succ {lim : Int} {d : Nat} {l : List Pt} (h : ¬ bendN l ≤ lim) (h0 : 0 < l.length) : flatC lim (d + 1) l = flatC lim d (leftL l) ++ (flatC lim d (rightL l)).drop 1 := by
  simp only [flatC, flat, if_neg h, List.drop_succ_cons, List.drop_zero, List.cons_append]
  rw [split_first h0]
theorem flat_len (lim : Int) : ∀ (d : Nat) (l : List Pt), 1 ≤ (flat lim d l).length ∧ (flat lim d l).length ≤ 2 ^ d
  | 0, l => by simp [flat]
  | d + 1, l => by
    have h1 := flat_len lim d (leftL l)
    have h2 := flat_len lim d (rightL l)
    have e : 2 ^ (d + 1) = 2 * 2 ^ d := by rw [Nat.pow_succ]; omega
    simp only [flat]
    split
    · simp only [List.length_cons, List.length_nil]; omega
    · rw [List.length_append]; omega
theorem flat_last (lim : Int) : ∀ (d : Nat) (l : List Pt), 0 < l.length → (flat lim d l).getLast? = some (pt l (l.length - 1))
  | 0, l, _ => by simp [flat]
  | d + 1, l, h => by
    simp only [flat]
    split
    · simp
    · have := flat_last lim d (rightL l) (by rw [rightL_len]; exact h)
      rw [List.getLast?_append, this, rightL_len, split_last h]; rfl
theorem flatC_last {lim : Int} {d : Nat} {l : List Pt} (h : 0 < l.length) : pt (flatC lim d l) ((flatC lim d l).length - 1) = pt l (l.length - 1) := by
  have h1 := flat_len lim d l
  have h2 := flat_last lim d l h
  rw [List.getLast?_eq_getElem?] at h2
  have hl : (flat lim d l).length - 1 < (flat lim d l).length := by omega
  rw [List.getElem?_eq_getElem hl, Option.some.injEq] at h2
  unfold flatC
  rw [pt_eq (by simp), ← h2]
  simp only [List.length_cons]
  rw [List.getElem_cons]
  split
  · omega
  · congr 1
theorem flat_in {lim : Int} {b : Bx} : ∀ (d : Nat) (l : List Pt), 0 < l.length → (∀ i, i < l.length → inBx b (pt l i)) → ∀ p ∈ flat lim d l, inBx b p
  | 0, l, h0, h => fun p hp => by simp only [flat, List.mem_singleton] at hp; subst hp; exact h _ (by omega)
  | d + 1, l, h0, h => fun p hp => by
    simp only [flat] at hp
    split at hp
    · rw [List.mem_singleton] at hp; subst hp; exact h _ (by omega)
    · rcases List.mem_append.1 hp with hp | hp
      · exact flat_in d _ (by rw [leftL_len]; exact h0) (inBx_left h) p hp
      · exact flat_in d _ (by rw [rightL_len]; exact h0) (inBx_right h) p hp
theorem flatC_in {lim : Int} {b : Bx} {d : Nat} {l : List Pt} (h0 : 0 < l.length) (h : ∀ i, i < l.length → inBx b (pt l i)) : ∀ i, i < (flatC lim d l).length → inBx b (pt (flatC lim d l) i) := fun i hi => by
  rw [pt_eq hi]
  have := List.getElem_mem hi
  rcases List.mem_cons.1 this with e | hm
  · rw [e]; exact h 0 h0
  · exact flat_in d l h0 h _ hm
theorem flatC_len (lim : Int) (d : Nat) (l : List Pt) : 2 ≤ (flatC lim d l).length ∧ (flatC lim d l).length ≤ 2 ^ d + 1 := by
  have := flat_len lim d l; simp only [flatC, List.length_cons]; omega
theorem flatC_first (lim : Int) (d : Nat) (l : List Pt) : pt (flatC lim d l) 0 = pt l 0 := by simp [flatC, pt, px, py]
def flatOk (l : List Pt) (lim d : Int) : Bool := curveB l && (inB lim 0 1000 && inB d 0 4)
def flatR (l : List Pt) (lim d : Int) : List Pt := if flatOk l lim d then flatC lim d.toNat l else []

/-! ### Raised curves -/
def nearP (l : List Pt) (i : Nat) : Pt := (rnd (px l i + 2 * px l 1) 3, rnd (py l i + 2 * py l 1) 3)
def raiseL (l : List Pt) : List Pt := [pt l 0, nearP l 0, nearP l 2, pt l 2]
def raiseOk (l : List Pt) : Bool := decide (l.length = 3) && validL l
def raiseR (l : List Pt) : List Pt := if raiseOk l then raiseL l else []
theorem raise_same (p : Pt) : raiseL [p, p, p] = [p, p, p, p] := by
  obtain ⟨x, y⟩ := p
  simp only [raiseL, nearP, pt, px, py, rnd, List.getD_cons_zero, List.getD_cons_succ, List.cons.injEq, Prod.mk.injEq, and_true, true_and]; omega
theorem raise_in {b : Bx} {l : List Pt} (hl : l.length = 3) (h : ∀ i, i < l.length → inBx b (pt l i)) : ∀ i, i < (raiseL l).length → inBx b (pt (raiseL l) i) := fun i hi => by
  have h0 := h 0 (by omega); have h1 := h 1 (by omega); have h2 := h 2 (by omega)
  have hi' : i < 4 := hi
  have n0 : inBx b (nearP l 0) := by simp only [inBx, pt, nearP, rnd] at *; omega
  have n2 : inBx b (nearP l 2) := by simp only [inBx, pt, nearP, rnd] at *; omega
  match i, hi' with
  | 0, _ => exact h0
  | 1, _ => exact n0
  | 2, _ => exact n2
  | 3, _ => exact h2

end Go.Proofs.Ytbiddmimcdmnoaa.Pl
