/-
  Plain laws on rings of points, with no program in sight: windings, areas, strokes.
-/
import Derived.Test.YtbiddmimcdmnoaaPlC
namespace Go.Proofs.Ytbiddmimcdmnoaa.Pl

def ringsLen : List (List Pt) → Nat
  | [] => 0
  | r :: l => r.length + ringsLen l
theorem ringsLen_append (l m : List (List Pt)) : ringsLen (l ++ m) = ringsLen l + ringsLen m := by
  induction l with
  | nil => simp [ringsLen]
  | cons r l ih => simp only [List.cons_append, ringsLen, ih]; omega
def ringOk (r : List Pt) : Bool := !r.isEmpty && validL r
theorem ringOk_parts {r : List Pt} (h : ringOk r = true) : 0 < r.length ∧ validL r = true := by
  simp only [ringOk, Bool.and_eq_true, Bool.not_eq_true', List.isEmpty_eq_false_iff] at h
  exact ⟨List.length_pos_iff.2 h.1, h.2⟩
def ringsOk (l : List (List Pt)) : Bool := l.all ringOk && decide (l.length ≤ 8 ∧ ringsLen l ≤ 200)
theorem ringsOk_parts {l : List (List Pt)} (h : ringsOk l = true) : (∀ r ∈ l, ringOk r = true) ∧ l.length ≤ 8 ∧ ringsLen l ≤ 200 := by
  simp only [ringsOk, Bool.and_eq_true, List.all_eq_true, decide_eq_true_eq] at h; exact h
/-- The edge that begins at corner k. -/
def nxt (r : List Pt) (k : Nat) : Nat := (k + 1) % r.length
def crossY (a b : Pt) (y : Int) : Int := if a.2 ≤ y ∧ y < b.2 then 1 else if b.2 ≤ y ∧ y < a.2 then -1 else 0
def sideN (a b : Pt) (x y : Int) : Int := (x - a.1) * (b.2 - a.2) - (y - a.2) * (b.1 - a.1)
def stepN (a b : Pt) (x y : Int) : Int := if a.2 ≤ y ∧ y < b.2 ∧ 0 ≤ sideN a b x y then 1 else if b.2 ≤ y ∧ y < a.2 ∧ 0 ≤ sideN b a x y then -1 else 0
theorem side_back (a b : Pt) (x y : Int) : sideN b a x y = - sideN a b x y := by
  obtain ⟨ax, ay⟩ := a
  obtain ⟨bx, b'⟩ := b
  unfold sideN
  simp only [Int.sub_mul, Int.mul_sub]
  rw [Int.mul_comm bx ay, Int.mul_comm bx b', Int.mul_comm ax ay, Int.mul_comm ax b']
  omega
/-- What is left of a point: over the program's way. -/
def overN (a b : Pt) (x y : Int) : Int := (b.1 - a.1) * (y - a.2) - (x - a.1) * (b.2 - a.2)
theorem over_side (a b : Pt) (x y : Int) : overN a b x y = - sideN a b x y := by
  unfold overN sideN; rw [Int.mul_comm (y - a.2)]; omega
theorem step_ways (a b : Pt) (x y : Int) :
    stepN a b x y = if a.2 ≤ y ∧ y < b.2 then (if overN a b x y ≤ 0 then 1 else 0) else if b.2 ≤ y ∧ y < a.2 then (if - overN a b x y ≤ 0 then -1 else 0) else 0 := by
  unfold stepN
  rw [side_back a b, over_side]
  by_cases h1 : a.2 ≤ y ∧ y < b.2
  · rw [if_pos h1]
    by_cases h3 : 0 ≤ sideN a b x y
    · rw [if_pos ⟨h1.1, h1.2, h3⟩, if_pos (by omega)]
    · rw [if_neg (fun h => h3 h.2.2), if_neg (by omega), if_neg (by omega)]
  · rw [if_neg h1, if_neg (fun h => h1 ⟨h.1, h.2.1⟩)]
    by_cases h2 : b.2 ≤ y ∧ y < a.2
    · rw [if_pos h2]
      by_cases h3 : 0 ≤ - sideN a b x y
      · rw [if_pos ⟨h2.1, h2.2, h3⟩, if_pos (by omega)]
      · rw [if_neg (fun h => h3 h.2.2), if_neg (by omega)]
    · rw [if_neg h2, if_neg (fun h => h2 ⟨h.1, h.2.1⟩)]
theorem step_small (a b : Pt) (x y : Int) : -1 ≤ stepN a b x y ∧ stepN a b x y ≤ 1 := by unfold stepN; split <;> (try split) <;> omega
def ptA (l : List Pt) (i : Nat) : Pt := (px l i, py l i)
/-- The sum of f over the edges of a ring that begin before corner k. -/
def ringSum (f : Pt → Pt → Int) (r : List Pt) : Nat → Int
  | 0 => 0
  | k + 1 => ringSum f r k + f (ptA r k) (ptA r (nxt r k))
/-- The sum over the first n rings. -/
def ringsSum (f : Pt → Pt → Int) (l : List (List Pt)) : Nat → Int
  | 0 => 0
  | n + 1 => ringsSum f l n + ringSum f (l.getD n []) (l.getD n []).length
theorem ringSum_small {f : Pt → Pt → Int} {M : Int} {r : List Pt} (hM : 0 ≤ M) (h : ∀ k, k < r.length → -M ≤ f (ptA r k) (ptA r (nxt r k)) ∧ f (ptA r k) (ptA r (nxt r k)) ≤ M) : ∀ k, k ≤ r.length → -(M * k) ≤ ringSum f r k ∧ ringSum f r k ≤ M * k
  | 0, _ => by simp [ringSum]
  | k + 1, hk => by
    have ih := ringSum_small hM h k (by omega)
    have := h k (by omega)
    have e : M * ((k + 1 : Nat) : Int) = M * k + M := by push_cast; rw [Int.mul_add]; omega
    simp only [ringSum]; rw [e]; omega
def windN (l : List (List Pt)) (x y : Int) : Int := ringsSum (fun a b => stepN a b x y) l l.length
def areaN (l : List (List Pt)) : Int := ringsSum (fun a b => a.1 * b.2 - a.2 * b.1) l l.length
def windR (l : List (List Pt)) (x y : Int) : Int := if ringsOk l && ptB (x, y) then windN l x y else 0
def areaR (l : List (List Pt)) : Int := if ringsOk l then areaN l else 0
/-- All edges, one behind the other. -/
def ringEdges (r : List Pt) : List (Pt × Pt) := (List.range r.length).map fun k => (ptA r k, ptA r (nxt r k))
def edgesL : List (List Pt) → List (Pt × Pt)
  | [] => []
  | r :: l => ringEdges r ++ edgesL l
theorem ringEdges_len (r : List Pt) : (ringEdges r).length = r.length := by simp [ringEdges]
theorem edgesL_len (l : List (List Pt)) : (edgesL l).length = ringsLen l := by
  induction l with
  | nil => rfl
  | cons r l ih => simp only [edgesL, List.length_append, ringEdges_len, ringsLen, ih]
theorem edgesL_append (l m : List (List Pt)) : edgesL (l ++ m) = edgesL l ++ edgesL m := by
  induction l with
  | nil => rfl
  | cons r l ih => simp only [List.cons_append, edgesL, ih, List.append_assoc]
/-- The sum of f over a list of edges. -/
def sumE (f : Pt → Pt → Int) : List (Pt × Pt) → Int
  | [] => 0
  | e :: l => f e.1 e.2 + sumE f l
theorem sumE_append (f : Pt → Pt → Int) (l m : List (Pt × Pt)) : sumE f (l ++ m) = sumE f l + sumE f m := by
  induction l with
  | nil => simp [sumE]
  | cons e l ih => simp only [List.cons_append, sumE, ih]; omega
theorem sumE_ring (f : Pt → Pt → Int) (r : List Pt) : ∀ k, sumE f ((List.range k).map fun k => (ptA r k, ptA r (nxt r k))) = ringSum f r k
  | 0 => rfl
  | k + 1 => by rw [List.range_succ, List.map_append, sumE_append, sumE_ring f r k]; simp [sumE, ringSum]
theorem sumE_take (f : Pt → Pt → Int) (l : List (List Pt)) : ∀ n, n ≤ l.length → sumE f (edgesL (l.take n)) = ringsSum f l n
  | 0, _ => by simp [edgesL, sumE, ringsSum]
  | n + 1, h => by
    have hn : n < l.length := by omega
    rw [List.take_succ_eq_append_getElem hn, edgesL_append, sumE_append, sumE_take f l n (by omega)]
    simp only [edgesL, List.append_nil, ringsSum]
    rw [ringEdges, sumE_ring]
    simp [hn]
theorem sumE_edges (f : Pt → Pt → Int) (l : List (List Pt)) : sumE f (edgesL l) = ringsSum f l l.length := by
  have := sumE_take f l l.length (Nat.le_refl _)
  rwa [List.take_length] at this
theorem sumE_small {f : Pt → Pt → Int} {M : Int} {l : List (Pt × Pt)} (h : ∀ e ∈ l, -M ≤ f e.1 e.2 ∧ f e.1 e.2 ≤ M) : -(M * l.length) ≤ sumE f l ∧ sumE f l ≤ M * l.length := by
  induction l with
  | nil => simp [sumE]
  | cons e l ih =>
    have h1 := h e (by simp)
    have h2 := ih fun x hx => h x (by simp [hx])
    have e' : M * (((e :: l).length : Nat) : Int) = M * (l.length : Int) + M := by simp [Int.mul_add]
    simp only [sumE]; rw [e']; omega
/-- The sum over the first k edges. -/
theorem sumE_take_succ (f : Pt → Pt → Int) {l : List (Pt × Pt)} {k : Nat} (h : k < l.length) : sumE f (l.take (k + 1)) = sumE f (l.take k) + f l[k].1 l[k].2 := by
  rw [List.take_succ_eq_append_getElem h, sumE_append]; simp [sumE]
theorem ptA_valid {r : List Pt} (h : validL r = true) {k : Nat} (hk : k < r.length) : -1000 ≤ (ptA r k).1 ∧ (ptA r k).1 ≤ 1000 ∧ -1000 ≤ (ptA r k).2 ∧ (ptA r k).2 ≤ 1000 := validL_at h hk
theorem nxt_lt {r : List Pt} (h : 0 < r.length) (k : Nat) : nxt r k < r.length := Nat.mod_lt _ h
theorem edges_valid {l : List (List Pt)} (h : ∀ r ∈ l, ringOk r = true) : ∀ e ∈ edgesL l, (-1000 ≤ e.1.1 ∧ e.1.1 ≤ 1000 ∧ -1000 ≤ e.1.2 ∧ e.1.2 ≤ 1000) ∧ (-1000 ≤ e.2.1 ∧ e.2.1 ≤ 1000 ∧ -1000 ≤ e.2.2 ∧ e.2.2 ≤ 1000) := by
  induction l with
  | nil => intro e he; cases he
  | cons r l ih =>
    intro e he
    rcases List.mem_append.1 he with he | he
    · obtain ⟨k, hk, rfl⟩ := List.mem_map.1 he
      have hk := List.mem_range.1 hk
      obtain ⟨h1, h2⟩ := ringOk_parts (h r (by simp))
      exact ⟨ptA_valid h2 hk, ptA_valid h2 (nxt_lt h1 k)⟩
    · exact ih (fun x hx => h x (by simp [hx])) e he
def insideB (n rule : Int) : Bool := if rule = 1 then decide (n % 2 ≠ 0) else decide (n ≠ 0)
def ruleB (rule : Int) : Bool := decide (rule = 0 ∨ rule = 1)
def insideR (l : List (List Pt)) (rule x y : Int) : Bool := ringsOk l && (ruleB rule && (ptB (x, y) && insideB (windN l x y) rule))
def backR (l : List (List Pt)) (c r : Int) : Int := if ringsOk l && (inB c 0 12 && inB r 0 47) then windN l (16 * c - 1) (4 * r + 2) else 0

end Go.Proofs.Ytbiddmimcdmnoaa.Pl
