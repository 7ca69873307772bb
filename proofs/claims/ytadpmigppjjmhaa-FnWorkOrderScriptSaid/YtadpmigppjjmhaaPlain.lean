/-
  Plain laws on numbers, boxes and tiles, with no program in sight: what the renderer's small functions compute.
-/
namespace Go.Proofs.Ytadpmigppjjmhaa.Pl

structure Bx where
  l : Int
  t : Int
  r : Int
  b : Int
  deriving DecidableEq

def inB (n lo hi : Int) : Bool := decide (lo ≤ n ∧ n ≤ hi)
theorem inB_true {n lo hi : Int} : inB n lo hi = true ↔ lo ≤ n ∧ n ≤ hi := by simp [inB]
theorem inB_false {n lo hi : Int} : inB n lo hi = false ↔ ¬ (lo ≤ n ∧ n ≤ hi) := by simp only [inB, decide_eq_false_iff_not]

def validB (x : Bx) : Bool := decide (-1000 ≤ x.l ∧ x.l ≤ x.r ∧ x.r ≤ 1000 ∧ -1000 ≤ x.t ∧ x.t ≤ x.b ∧ x.b ≤ 1000)
theorem validB_true {l t r b : Int} : validB ⟨l, t, r, b⟩ = true ↔ -1000 ≤ l ∧ l ≤ r ∧ r ≤ 1000 ∧ -1000 ≤ t ∧ t ≤ b ∧ b ≤ 1000 := by simp [validB]
theorem validB_false {l t r b : Int} : validB ⟨l, t, r, b⟩ = false ↔ ¬ (-1000 ≤ l ∧ l ≤ r ∧ r ≤ 1000 ∧ -1000 ≤ t ∧ t ≤ b ∧ b ≤ 1000) := by simp only [validB, decide_eq_false_iff_not]

def zero : Bx := ⟨0, 0, 0, 0⟩
def emptyB (x : Bx) : Bool := decide (x.r ≤ x.l ∨ x.b ≤ x.t)
theorem emptyB_true {l t r b : Int} : emptyB ⟨l, t, r, b⟩ = true ↔ r ≤ l ∨ b ≤ t := by simp [emptyB]
theorem emptyB_false {l t r b : Int} : emptyB ⟨l, t, r, b⟩ = false ↔ l < r ∧ t < b := by simp [emptyB]
def hasB (x : Bx) (p q : Int) : Bool := validB x && decide (x.l ≤ p ∧ p < x.r ∧ x.t ≤ q ∧ q < x.b)
def tidyB (x : Bx) : Bx := if emptyB x then zero else x
theorem tidyB_yes {l t r b : Int} (h : r ≤ l ∨ b ≤ t) : tidyB ⟨l, t, r, b⟩ = ⟨0, 0, 0, 0⟩ := by simp [tidyB, emptyB, zero, h]
theorem tidyB_no {l t r b : Int} (h : l < r ∧ t < b) : tidyB ⟨l, t, r, b⟩ = ⟨l, t, r, b⟩ := by
  have : ¬ (r ≤ l ∨ b ≤ t) := by omega
  simp [tidyB, emptyB, this]
/-- The common part of two boxes, whatever they are. -/
def meet (x y : Bx) : Bx := tidyB ⟨max x.l y.l, max x.t y.t, min x.r y.r, min x.b y.b⟩
theorem meet_yes {l t r b l' t' r' b' : Int} (h : min r r' ≤ max l l' ∨ min b b' ≤ max t t') : meet ⟨l, t, r, b⟩ ⟨l', t', r', b'⟩ = ⟨0, 0, 0, 0⟩ := tidyB_yes h
theorem meet_no {l t r b l' t' r' b' : Int} (h : max l l' < min r r' ∧ max t t' < min b b') : meet ⟨l, t, r, b⟩ ⟨l', t', r', b'⟩ = ⟨max l l', max t t', min r r', min b b'⟩ := tidyB_no h
def cutB (x y : Bx) : Bx := if validB x && validB y then meet x y else zero
def joinRaw (x y : Bx) : Bx :=
  if emptyB x then (if emptyB y then zero else y) else if emptyB y then x else ⟨min x.l y.l, min x.t y.t, max x.r y.r, max x.b y.b⟩
theorem joinRaw_1 {x y : Bx} (h1 : emptyB x = true) (h2 : emptyB y = true) : joinRaw x y = ⟨0, 0, 0, 0⟩ := by simp [joinRaw, h1, h2, zero]
theorem joinRaw_2 {x y : Bx} (h1 : emptyB x = true) (h2 : emptyB y = false) : joinRaw x y = y := by simp [joinRaw, h1, h2]
theorem joinRaw_3 {x y : Bx} (h1 : emptyB x = false) (h2 : emptyB y = true) : joinRaw x y = x := by simp [joinRaw, h1, h2]
theorem joinRaw_4 {x y : Bx} (h1 : emptyB x = false) (h2 : emptyB y = false) : joinRaw x y = ⟨min x.l y.l, min x.t y.t, max x.r y.r, max x.b y.b⟩ := by simp [joinRaw, h1, h2]
theorem tidyB_e {x : Bx} (h : emptyB x = true) : tidyB x = ⟨0, 0, 0, 0⟩ := by simp [tidyB, h, zero]
theorem tidyB_n {x : Bx} (h : emptyB x = false) : tidyB x = x := by simp [tidyB, h]
def joinB (x y : Bx) : Bx := if validB x && validB y then joinRaw x y else zero
def pixB (x : Bx) : Bx := if validB x then ⟨x.l / 16, x.t / 16, x.r / 16 + 1, x.b / 16 + 1⟩ else zero
theorem cutB_in {x y : Bx} (hx : validB x = true) (hy : validB y = true) : cutB x y = meet x y := by simp [cutB, hx, hy]
theorem cutB_out1 {x y : Bx} (hx : validB x = false) : cutB x y = ⟨0, 0, 0, 0⟩ := by simp [cutB, hx, zero]
theorem cutB_out2 {x y : Bx} (hy : validB y = false) : cutB x y = ⟨0, 0, 0, 0⟩ := by simp [cutB, hy, zero]
theorem joinB_in {x y : Bx} (hx : validB x = true) (hy : validB y = true) : joinB x y = joinRaw x y := by simp [joinB, hx, hy]
theorem joinB_out1 {x y : Bx} (hx : validB x = false) : joinB x y = ⟨0, 0, 0, 0⟩ := by simp [joinB, hx, zero]
theorem joinB_out2 {x y : Bx} (hy : validB y = false) : joinB x y = ⟨0, 0, 0, 0⟩ := by simp [joinB, hy, zero]
def sizedB (w h : Int) : Bool := decide (1 ≤ w ∧ w ≤ 12 ∧ 1 ≤ h ∧ h ≤ 12)
def acr (w : Int) : Int := (w + 3) / 4
def tileN (w h : Int) : Int := acr w * acr h
def tileB (w h k : Int) : Bx := ⟨k % acr w * 4, k / acr w * 4, min (k % acr w * 4 + 4) w, min (k / acr w * 4 + 4) h⟩

/-! ### Points -/
def px (l : List (Int × Int)) (i : Nat) : Int := (l.getD i (0, 0)).1
def py (l : List (Int × Int)) (i : Nat) : Int := (l.getD i (0, 0)).2
/-- The box around points 0 to k. -/
def bbx (l : List (Int × Int)) : Nat → Bx
  | 0 => ⟨px l 0, py l 0, px l 0, py l 0⟩
  | k + 1 => ⟨min (bbx l k).l (px l (k + 1)), min (bbx l k).t (py l (k + 1)), max (bbx l k).r (px l (k + 1)), max (bbx l k).b (py l (k + 1))⟩

end Go.Proofs.Ytadpmigppjjmhaa.Pl
