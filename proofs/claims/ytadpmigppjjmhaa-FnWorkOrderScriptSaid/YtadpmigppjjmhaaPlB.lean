/-
  Plain laws on points, matrices, roots and lengths, with no program in sight.
-/
import Derived.Test.YtadpmigppjjmhaaPlain
namespace Go.Proofs.Ytadpmigppjjmhaa.Pl

/-! ### Division that rounds down -/
theorem div_lo {a b : Int} (hb : 1 ≤ b) {M : Int} (h : -M ≤ a) (hM : 0 ≤ M) : -M ≤ a / b := by
  rw [Int.le_ediv_iff_mul_le (by omega)]
  have : M * 1 ≤ M * b := Int.mul_le_mul_of_nonneg_left hb hM
  have e : -M * b = -(M * b) := Int.neg_mul _ _
  omega
theorem div_hi {a b : Int} (hb : 1 ≤ b) {M : Int} (h : a ≤ M) (hM : 0 ≤ M) : a / b ≤ M := by
  have h1 : a / b ≤ M / b := Int.ediv_le_ediv (by omega) h
  have h2 : M / b ≤ M := Int.ediv_le_self _ hM
  omega
/-- Go's division and remainder, against the division that rounds down. -/
theorem tdm (a : Int) {b : Int} (hb : 1 ≤ b) : ∃ q r : Int, a.tdiv b = q ∧ a.tmod b = r ∧ ((r < 0 ∧ a < 0 ∧ a / b = q - 1) ∨ (0 ≤ r ∧ a / b = q)) := by
  refine ⟨_, _, rfl, rfl, ?_⟩
  rw [Int.tdiv_eq_ediv, Int.tmod_eq_emod]
  have h1 := Int.emod_nonneg a (by omega : b ≠ 0)
  have h2 := Int.emod_lt_of_pos a (by omega : 0 < b)
  by_cases h : 0 ≤ a ∨ b ∣ a
  · rw [if_pos h, if_pos h]; exact .inr ⟨by omega, by omega⟩
  · rw [if_neg h, if_neg h]
    refine .inl ⟨?_, by omega, ?_⟩
    · have : (b.natAbs : Int) = b := Int.natAbs_of_nonneg (by omega)
      omega
    · rw [Int.sign_eq_one_of_pos (by omega)]; omega
def rnd (a b : Int) : Int := (2 * a + b) / (2 * b)

/-- A point. -/
abbrev Pt := Int × Int
structure Mx where
  a : Int
  b : Int
  c : Int
  d : Int
  e : Int
  f : Int
  deriving DecidableEq

def ptB (p : Pt) : Bool := decide (-1000 ≤ p.1 ∧ p.1 ≤ 1000 ∧ -1000 ≤ p.2 ∧ p.2 ≤ 1000)
theorem ptB_true {x y : Int} : ptB ⟨x, y⟩ = true ↔ -1000 ≤ x ∧ x ≤ 1000 ∧ -1000 ≤ y ∧ y ≤ 1000 := by simp [ptB]
theorem ptB_false {x y : Int} : ptB ⟨x, y⟩ = false ↔ ¬ (-1000 ≤ x ∧ x ≤ 1000 ∧ -1000 ≤ y ∧ y ≤ 1000) := by simp only [ptB, decide_eq_false_iff_not]
theorem ptB_and {x y : Int} : ptB ⟨x, y⟩ = (inB x (-1000) 1000 && inB y (-1000) 1000) := by
  simp only [ptB, inB, ← Bool.decide_and]; exact decide_eq_decide.2 (by omega)

/-! ### Matrices -/
def scaleB (m : Mx) : Bool := decide (-1024 ≤ m.a ∧ m.a ≤ 1024 ∧ -1024 ≤ m.b ∧ m.b ≤ 1024 ∧ -1024 ≤ m.c ∧ m.c ≤ 1024 ∧ -1024 ≤ m.d ∧ m.d ≤ 1024)
theorem scaleB_true {a b c d e f : Int} : scaleB ⟨a, b, c, d, e, f⟩ = true ↔ -1024 ≤ a ∧ a ≤ 1024 ∧ -1024 ≤ b ∧ b ≤ 1024 ∧ -1024 ≤ c ∧ c ≤ 1024 ∧ -1024 ≤ d ∧ d ≤ 1024 := by simp [scaleB]
def mapP (m : Mx) (p : Pt) : Pt := ⟨rnd (m.a * p.1 + m.c * p.2) 256 + m.e, rnd (m.b * p.1 + m.d * p.2) 256 + m.f⟩
def mapOk (m : Mx) (p : Pt) : Bool := scaleB m && ptB p && ptB ⟨m.e, m.f⟩ && ptB (mapP m p)
def mapR (m : Mx) (p : Pt) : Pt := if mapOk m p then mapP m p else ⟨0, 0⟩
theorem mul_in {a x M N : Int} (h1 : -M ≤ a) (h2 : a ≤ M) (h3 : -N ≤ x) (h4 : x ≤ N) (_hN : 0 ≤ N) : -(M * N) ≤ a * x ∧ a * x ≤ M * N := by
  have hM : 0 ≤ M := by omega
  have k1 : 0 ≤ (M - a) * (N + x) := Int.mul_nonneg (by omega) (by omega)
  have k2 : 0 ≤ (M + a) * (N - x) := Int.mul_nonneg (by omega) (by omega)
  have k3 : 0 ≤ (M - a) * (N - x) := Int.mul_nonneg (by omega) (by omega)
  have k4 : 0 ≤ (M + a) * (N + x) := Int.mul_nonneg (by omega) (by omega)
  simp only [Int.sub_mul, Int.add_mul, Int.mul_sub, Int.mul_add] at k1 k2 k3 k4
  omega
def turnM (n : Int) : Mx := if n = 0 then ⟨256, 0, 0, 256, 0, 0⟩ else if n = 1 then ⟨0, 256, -256, 0, 0, 0⟩ else if n = 2 then ⟨-256, 0, 0, -256, 0, 0⟩ else if n = 3 then ⟨0, -256, 256, 0, 0, 0⟩ else ⟨0, 0, 0, 0, 0, 0⟩
theorem rnd256 (k : Int) : rnd (256 * k) 256 = k := by unfold rnd; omega
theorem turn0 (x y : Int) : mapP ⟨256, 0, 0, 256, 0, 0⟩ ⟨x, y⟩ = ⟨x, y⟩ := by
  simp only [mapP, Prod.mk.injEq, rnd]; omega
theorem turn1 (x y : Int) : mapP ⟨0, 256, -256, 0, 0, 0⟩ ⟨x, y⟩ = ⟨-y, x⟩ := by
  simp only [mapP, Prod.mk.injEq, rnd]; omega
theorem turn2 (x y : Int) : mapP ⟨-256, 0, 0, -256, 0, 0⟩ ⟨x, y⟩ = ⟨-x, -y⟩ := by
  simp only [mapP, Prod.mk.injEq, rnd]; omega
theorem turn3 (x y : Int) : mapP ⟨0, -256, 256, 0, 0, 0⟩ ⟨x, y⟩ = ⟨y, -x⟩ := by
  simp only [mapP, Prod.mk.injEq, rnd]; omega

/-! ### Roots -/
def IsRoot (n r : Int) : Prop := 0 ≤ r ∧ r * r ≤ n ∧ n < (r + 1) * (r + 1)
theorem sq_lt {a b : Int} (ha : 0 ≤ a) (h : a < b) : a * a < b * b := by
  have h1 : a * a ≤ a * b := Int.mul_le_mul_of_nonneg_left (by omega) ha
  have h2 : a * b < b * b := Int.mul_lt_mul_of_pos_right h (by omega)
  omega
theorem sq_le {a b : Int} (ha : 0 ≤ a) (h : a ≤ b) : a * a ≤ b * b := by
  rcases Int.lt_or_eq_of_le h with h | h
  · exact Int.le_of_lt (sq_lt ha h)
  · subst h; exact Int.le_refl _
theorem lt_of_sq {a b : Int} (hb : 0 ≤ b) (h : a * a < b * b) : a < b := by
  rcases Int.lt_or_le a b with h1 | h1
  · exact h1
  · have := sq_le hb h1; omega
theorem IsRoot.unique {n r s : Int} (h : IsRoot n r) (h' : IsRoot n s) : r = s := by
  have h1 := lt_of_sq (a := r) (b := s + 1) (by have := h'.1; omega) (Int.lt_of_le_of_lt h.2.1 h'.2.2)
  have h2 := lt_of_sq (a := s) (b := r + 1) (by have := h.1; omega) (Int.lt_of_le_of_lt h'.2.1 h.2.2)
  omega
theorem isRoot_nat (n : Nat) : ∃ r : Int, IsRoot n r := by
  induction n with
  | zero => exact ⟨0, by simp [IsRoot]⟩
  | succ n ih =>
    obtain ⟨r, h0, h1, h2⟩ := ih
    by_cases h : (r + 1) * (r + 1) ≤ (n : Int) + 1
    · refine ⟨r + 1, by omega, by simpa using h, ?_⟩
      have := sq_lt (a := r + 1) (b := r + 1 + 1) (by omega) (by omega)
      have e : (r + 1 + 1) * (r + 1 + 1) = (r + 1) * (r + 1) + 2 * (r + 1) + 1 := by simp only [Int.add_mul, Int.mul_add]; omega
      rw [e]; push_cast; omega
    · exact ⟨r, h0, by push_cast; omega, by push_cast; omega⟩
theorem isRoot_ex {n : Int} (h : 0 ≤ n) : ∃ r : Int, IsRoot n r := by
  obtain ⟨m, rfl⟩ := Int.eq_ofNat_of_zero_le h
  exact isRoot_nat m
theorem IsRoot.le {n r : Int} (h : IsRoot n r) {M : Int} (hM : 0 ≤ M) (hn : n < (M + 1) * (M + 1)) : r ≤ M := by
  have := lt_of_sq (a := r) (b := M + 1) (by omega) (Int.lt_of_le_of_lt h.2.1 hn)
  omega

/-! ### Lengths -/
def dist2 (p q : Pt) : Int := (q.1 - p.1) * (q.1 - p.1) + (q.2 - p.2) * (q.2 - p.2)
theorem sq_nonneg (a : Int) : 0 ≤ a * a := by
  rcases Int.le_total 0 a with h | h
  · exact Int.mul_nonneg h h
  · exact Int.mul_nonneg_of_nonpos_of_nonpos h h
theorem dist2_nonneg (p q : Pt) : 0 ≤ dist2 p q := by have := sq_nonneg (q.1 - p.1); have := sq_nonneg (q.2 - p.2); unfold dist2; omega
theorem dist2_comm (p q : Pt) : dist2 p q = dist2 q p := by
  have h : ∀ a b : Int, (a - b) * (a - b) = (b - a) * (b - a) := fun a b => by rw [← Int.neg_sub b a, Int.neg_mul_neg]
  unfold dist2; rw [h q.1, h q.2]
theorem sq_bound {a M : Int} (h1 : -M ≤ a) (h2 : a ≤ M) (hM : 0 ≤ M) : a * a ≤ M * M := (mul_in h1 h2 h1 h2 hM).2
theorem dist2_le {p q : Pt} (hp : ptB p = true) (hq : ptB q = true) : dist2 p q ≤ 8000000 := by
  obtain ⟨a, b⟩ := p
  obtain ⟨c, d⟩ := q
  rw [ptB_true] at hp hq
  have h1 := sq_bound (a := c - a) (M := 2000) (by omega) (by omega) (by omega)
  have h2 := sq_bound (a := d - b) (M := 2000) (by omega) (by omega) (by omega)
  show (c - a) * (c - a) + (d - b) * (d - b) ≤ _
  omega
/-- The root of a distance, as a number. -/
def IsLen (p q : Pt) (n : Int) : Prop := if ptB p && ptB q then IsRoot (dist2 p q) n else n = -1
theorem isLen_ex (p q : Pt) : ∃ n, IsLen p q n := by
  unfold IsLen
  split
  · exact isRoot_ex (dist2_nonneg p q)
  · exact ⟨_, rfl⟩
theorem IsLen.unique {p q : Pt} {n m : Int} (h : IsLen p q n) (h' : IsLen p q m) : n = m := by
  unfold IsLen at h h'
  cases hc : (ptB p && ptB q) with
  | true => simp only [hc, if_true] at h h'; exact h.unique h'
  | false => simp only [hc, Bool.false_eq_true, if_false] at h h'; rw [h, h']
theorem IsLen.comm {p q : Pt} {n : Int} (h : IsLen p q n) : IsLen q p n := by
  unfold IsLen at h ⊢; rw [dist2_comm, Bool.and_comm]; exact h

theorem IsLen.valid {p q : Pt} {n : Int} (h : IsLen p q n) (h0 : 0 ≤ n) : ptB p = true ∧ ptB q = true ∧ IsRoot (dist2 p q) n := by
  unfold IsLen at h
  cases hc : (ptB p && ptB q) with
  | true => simp only [hc, if_true] at h; simp only [Bool.and_eq_true] at hc; exact ⟨hc.1, hc.2, h⟩
  | false => simp only [hc, Bool.false_eq_true, if_false] at h; omega
theorem IsLen.of_valid {p q : Pt} {n : Int} (h1 : ptB p = true) (h2 : ptB q = true) (h : IsRoot (dist2 p q) n) : IsLen p q n := by simp only [IsLen, h1, h2, Bool.and_self, if_true]; exact h
def absI (n : Int) : Int := if n < 0 then -n else n
theorem absI_sq (n : Int) : absI n * absI n = n * n := by
  unfold absI; split
  · exact Int.neg_mul_neg n n
  · rfl
theorem absI_nonneg (n : Int) : 0 ≤ absI n := by unfold absI; split <;> omega
theorem len_zero {x y u v n : Int} (h : IsRoot (dist2 ⟨x, y⟩ ⟨u, v⟩) n) : n = 0 ↔ x = u ∧ y = v := by
  unfold IsRoot dist2 at h
  simp only at h
  obtain ⟨h0, h1, h2⟩ := h
  have a1 := sq_nonneg (u - x)
  have a2 := sq_nonneg (v - y)
  constructor
  · rintro rfl
    have z : ∀ d : Int, d * d = 0 → d = 0 := fun d hd => by rcases Int.mul_eq_zero.1 hd with h | h <;> exact h
    have e1 := z (u - x) (by omega)
    have e2 := z (v - y) (by omega)
    omega
  · rintro ⟨rfl, rfl⟩
    simp only [Int.sub_self, Int.mul_zero, Int.add_zero] at h1
    have z : n * n = 0 := by have := sq_nonneg n; omega
    rcases Int.mul_eq_zero.1 z with h | h <;> exact h
theorem len_ge {x y u v n : Int} (h : IsRoot (dist2 ⟨x, y⟩ ⟨u, v⟩) n) : absI (x - u) ≤ n ∧ absI (y - v) ≤ n ∧ n ≤ absI (x - u) + absI (y - v) := by
  rw [dist2_comm] at h
  unfold IsRoot dist2 at h
  simp only at h
  obtain ⟨h0, h1, h2⟩ := h
  have a1 := absI_sq (x - u)
  have a2 := absI_sq (y - v)
  have b1 := sq_nonneg (x - u)
  have b2 := sq_nonneg (y - v)
  have n1 := absI_nonneg (x - u)
  have n2 := absI_nonneg (y - v)
  refine ⟨?_, ?_, ?_⟩
  · have := lt_of_sq (a := absI (x - u)) (b := n + 1) (by omega) (by omega); omega
  · have := lt_of_sq (a := absI (y - v)) (b := n + 1) (by omega) (by omega); omega
  · have e : (absI (x - u) + absI (y - v) + 1) * (absI (x - u) + absI (y - v) + 1) = absI (x - u) * absI (x - u) + absI (y - v) * absI (y - v) + 2 * (absI (x - u) * absI (y - v)) + 2 * absI (x - u) + 2 * absI (y - v) + 1 := by
      simp only [Int.add_mul, Int.mul_add, Int.mul_comm (absI (y - v)) (absI (x - u))]; omega
    have k := Int.mul_nonneg n1 n2
    have := lt_of_sq (a := n) (b := absI (x - u) + absI (y - v) + 1) (by omega) (by rw [e]; omega)
    omega

/-! ### Along -/
def dotP (f t p : Pt) : Int := (p.1 - f.1) * (t.1 - f.1) + (p.2 - f.2) * (t.2 - f.2)
def clampN (n : Int) : Int := max 0 (min 256 n)
def alongR (f t p : Pt) : Int := clampN (rnd (256 * dotP f t p) (dist2 f t))
def alongOk (f t p : Pt) : Bool := ptB f && ptB t && ptB p && !decide (f = t)
def alongN (f t p : Pt) : Int := if alongOk f t p then alongR f t p else 0
theorem dist2_pos {f t : Pt} (h : f ≠ t) : 1 ≤ dist2 f t := by
  obtain ⟨x, y⟩ := f
  obtain ⟨u, v⟩ := t
  have a1 := sq_nonneg (u - x)
  have a2 := sq_nonneg (v - y)
  unfold dist2
  simp only
  rcases Int.lt_or_le ((u - x) * (u - x) + (v - y) * (v - y)) 1 with h' | h'
  · exfalso
    have z : ∀ d : Int, d * d = 0 → d = 0 := fun d hd => by rcases Int.mul_eq_zero.1 hd with h | h <;> exact h
    have e1 := z (u - x) (by omega)
    have e2 := z (v - y) (by omega)
    exact h (by simp only [Prod.mk.injEq]; omega)
  · exact h'
theorem clampN_in (n : Int) : 0 ≤ clampN n ∧ clampN n ≤ 256 := by unfold clampN; omega
theorem alongN_in (f t p : Pt) : 0 ≤ alongN f t p ∧ alongN f t p ≤ 256 := by
  unfold alongN; split
  · exact clampN_in _
  · omega
theorem along_from {f t : Pt} : alongN f t f = 0 := by
  unfold alongN
  split
  · rename_i h
    simp only [alongOk, Bool.and_eq_true, Bool.not_eq_true', decide_eq_false_iff_not] at h
    have hD := dist2_pos h.2
    have e : dotP f t f = 0 := by simp [dotP]
    unfold alongR rnd clampN
    rw [e]
    generalize dist2 f t = D at hD
    have : (2 * (256 * 0) + D) / (2 * D) = 0 := Int.ediv_eq_zero_of_lt (by omega) (by omega)
    omega
  · rfl
theorem along_to {f t : Pt} (h1 : ptB f = true) (h2 : ptB t = true) (h : f ≠ t) : alongN f t t = 256 := by
  have ho : alongOk f t t = true := by simp [alongOk, h1, h2, h]
  have hD := dist2_pos h
  have e : dotP f t t = dist2 f t := rfl
  simp only [alongN, ho, if_true, alongR, e, rnd, clampN]
  generalize dist2 f t = D at hD
  have : (2 * (256 * D) + D) / (2 * D) = 256 := by
    rw [Int.ediv_eq_iff_of_pos (by omega)]; omega
  omega
theorem dot_across (a b p : Pt) : dotP a b ⟨p.1 - (b.2 - a.2), p.2 + b.1 - a.1⟩ = dotP a b p := by
  unfold dotP
  simp only [Int.sub_mul, Int.add_mul, Int.mul_sub]
  rw [Int.mul_comm b.2 b.1, Int.mul_comm b.2 a.1, Int.mul_comm a.2 b.1, Int.mul_comm a.2 a.1]
  omega
theorem along_across {a b p : Pt} (hp : ptB p = true) (hq : ptB ⟨p.1 - (b.2 - a.2), p.2 + b.1 - a.1⟩ = true) : alongN a b ⟨p.1 - (b.2 - a.2), p.2 + b.1 - a.1⟩ = alongN a b p := by
  unfold alongN alongOk alongR
  rw [dot_across, hp, hq]
theorem dot_back (a b p : Pt) : dotP b a p = dist2 a b - dotP a b p := by
  obtain ⟨ax, ay⟩ := a
  obtain ⟨bx, b'⟩ := b
  obtain ⟨px, p'⟩ := p
  unfold dotP dist2
  simp only [Int.sub_mul, Int.mul_sub]
  rw [Int.mul_comm ax bx, Int.mul_comm ay b', Int.mul_comm px bx, Int.mul_comm px ax, Int.mul_comm p' b', Int.mul_comm p' ay]
  omega
theorem rev_sum {t D u v : Int} (hD : 1 ≤ D) (hu : rnd (256 * t) D = u) (hv : rnd (256 * (D - t)) D = v) : u + v = 256 ∨ u + v = 257 := by
  unfold rnd at hu hv
  have a1 := Int.mul_ediv_self_le (x := 2 * (256 * t) + D) (k := 2 * D) (by omega)
  have a2 := Int.lt_mul_ediv_self_add (x := 2 * (256 * t) + D) (k := 2 * D) (by omega)
  have b1 := Int.mul_ediv_self_le (x := 2 * (256 * (D - t)) + D) (k := 2 * D) (by omega)
  have b2 := Int.lt_mul_ediv_self_add (x := 2 * (256 * (D - t)) + D) (k := 2 * D) (by omega)
  rw [hu] at a1 a2
  rw [hv] at b1 b2
  have e : 2 * D * (u + v) = 2 * D * u + 2 * D * v := Int.mul_add _ _ _
  have c1 : 2 * D * (u + v) ≤ 2 * D * 257 := by omega
  have c2 : 2 * D * 257 < 2 * D * (u + v + 2) := by have : 2 * D * (u + v + 2) = 2 * D * (u + v) + 2 * D * 2 := Int.mul_add _ _ _; omega
  have d1 := Int.le_of_mul_le_mul_left c1 (by omega)
  have d2 := Int.lt_of_mul_lt_mul_left c2 (by omega)
  omega
theorem along_back {a b p : Pt} (ha : ptB a = true) (hb : ptB b = true) (hp : ptB p = true) (h : a ≠ b) : alongN a b p + alongN b a p = 256 ∨ alongN a b p + alongN b a p = 257 := by
  have o1 : alongOk a b p = true := by simp [alongOk, ha, hb, hp, h]
  have o2 : alongOk b a p = true := by simp [alongOk, ha, hb, hp, Ne.symm h]
  have := rev_sum (t := dotP a b p) (D := dist2 a b) (dist2_pos h) rfl rfl
  have e := dot_back a b p
  have e2 := dist2_comm b a
  simp only [alongN, o1, o2, if_true, alongR, clampN]
  rw [e, e2]
  omega

end Go.Proofs.Ytadpmigppjjmhaa.Pl
