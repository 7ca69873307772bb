/-
  Slices of points that grow beside each other; the rows of a curve that is halved.
-/
import Derived.Test.YtbiddmimcdmnoaaPtsH
import Derived.Test.YtbiddmimcdmnoaaPlE
namespace Go.Proofs.Ytbiddmimcdmnoaa
open Go.RowKit Pl

set_option linter.unusedSimpArgs false
set_option linter.unusedVariables false

theorem below_ownP {B : Nat} {a w w1 : World} {row : Option Nat} (h2 : w.grownBy w1 row) (h1 : Below B a w) (hB : B ≤ w.heap.size) (hg : ∀ g, row = some g → B ≤ g) : Below B a w1 := grown_own h2 h1 hB hg

/-- A goal at which the walk stops. -/
structure Kept (p : Prop) : Prop where
  out : p

/-- Not the same block. -/
def Sep (a b : Option Nat) : Prop := ∀ g, a = some g → b ≠ some g
theorem Sep.none (b : Option Nat) : Sep none b := fun g h => by cases h
theorem Sep.symm {a b : Option Nat} (h : Sep a b) : Sep b a := fun g hb ha => h g ha hb
def blkA (A : Option Addr) : Option Nat := A.map (·.block)
theorem blkA_ge {A : Option Addr} {s : Nat} (h : ∀ a, A = some a → s ≤ a.block) : ∀ g, blkA A = some g → s ≤ g := fun g hg => by
  cases A with
  | none => cases hg
  | some a => simp only [blkA, Option.map, Option.some.injEq] at hg; subst hg; exact h a rfl
theorem blkA_own (A : Option Addr) (n c : Nat) : (Value.slice A n c).ownBlock = blkA A := by cases A <;> rfl
theorem IsPts.grown {w w' : World} {A : Option Addr} {n : Nat} {l : List Pt} {row : Option Nat} (h : IsPts w A n l) (hg : w.grownBy w' row) (hs : Sep (blkA A) row) : IsPts w' A n l :=
  ⟨h.1, fun hn => by
    obtain ⟨b, o, rfl, hb, hc⟩ := h.2 hn
    have hblk := hg.block b hb (fun e => hs b rfl e.symm)
    exact ⟨b, o, rfl, Nat.lt_of_lt_of_le hb hg.size, fun i hi => ⟨(World.cell?_of_block (a := ⟨b, _, .none⟩) hblk).trans (hc i hi).1, (World.cell?_of_block (a := ⟨b, _, .none⟩) hblk).trans (hc i hi).2⟩⟩⟩
theorem OwnPts.other {base : Nat} {w w' : World} {v : Value} {l : List Pt} {row : Option Nat} (h : OwnPts base w v l) (hg : w.grownBy w' row) (hs : Sep v.ownBlock row) : OwnPts base w' v l := by
  refine ⟨h.1, ?_⟩
  rcases h.2 with h | ⟨g, cap, cur, e, hb', hgb, r⟩
  · exact .inl h
  · exact .inr ⟨g, cap, cur, e, hb', (hg.block g (blk_lt hgb) (fun e' => hs g (by rw [e]; rfl) e'.symm)).trans hgb, r⟩
theorem OwnPts.lt {base : Nat} {w : World} {v : Value} {l : List Pt} (h : OwnPts base w v l) : ∀ g, v.ownBlock = some g → g < w.heap.size := fun g hg => by
  rcases h.2 with ⟨rfl, _⟩ | ⟨g', cap, cur, rfl, hb', hgb, _⟩
  · cases hg
  · simp only [Value.ownBlock, Option.some.injEq] at hg; subst hg; exact blk_lt hgb
theorem IsPts.lt {w : World} {A : Option Addr} {n : Nat} {l : List Pt} (h : IsPts w A n l) (hn : 0 < n) : ∀ g, blkA A = some g → g < w.heap.size := fun g hg => by
  obtain ⟨b, o, rfl, hb, _⟩ := h.2 hn
  simp only [blkA, Option.map, Option.some.injEq] at hg; subst hg; exact hb
/-- The slice that comes of an append is the old one's row or a new one: what was apart from the old one is apart. -/
theorem Sep.app {a b b' : Option Nat} {s : Nat} (h : Sep a b) (hb : b' = b ∨ b' = some s) (ha : ∀ g, a = some g → g < s) : Sep a b' := fun g hg e => by
  rcases hb with rfl | rfl
  · exact h g hg e
  · have := ha g hg; cases e; omega
theorem Sep.far {a b : Option Nat} {s : Nat} (ha : ∀ g, a = some g → g < s) (hb : ∀ g, b = some g → s ≤ g) : Sep a b := fun g h1 h2 => by have := ha g h1; have := hb g h2; omega

theorem OwnP.pts' {base : Nat} {w : World} {A : Option Addr} {n c : Nat} {l : List Pt} (h : OwnP base w (.slice A n c) l) : IsPts w A n l := by
  obtain ⟨A', c', e, _, _, h', _⟩ := h.form
  cases e; exact h'
theorem OwnP.lt' {base : Nat} {w : World} {v : Value} {l : List Pt} (h : OwnP base w v l) (hn : 0 < l.length) : ∀ g, v.ownBlock = some g → g < w.heap.size := fun g hg => by
  obtain ⟨A, c, e, h1, h2, h3, h4⟩ := h
  obtain ⟨g', cur, rfl, hgb, _⟩ := h4 hn
  subst e
  simp only [Value.ownBlock, Option.some.injEq] at hg; subst hg; exact blk_lt hgb

/-- append of one point that has just been written out: and where the slice lies then. -/
theorem append_ptsA {ops : Array Oper} {rest : List Oper} {o : Oper} {a : Act} {Q : Exit → Act → World → Prop} {w : World} (hgd : o.guard = none) (s x : Operand)
    (ho : o.op = .call { callee := .builtin .append, args := #[s, x], argTypes := #[27, 27] })
    (base : Nat) (v : Value) (l : List Pt) (hs : a.eval s = v) (hown : OwnPts base w v l) (g m : Nat) (px py : Int) (T' : TypeId) (hx : a.eval x = .slice (some ⟨g, 0, none⟩) 1 m)
    (hg : w.heap[g]? = some (.cells #[.int .i64 px, .int .i64 py] T' (0, 0))) (hlen : l.length ≤ 1000000) (hbase : base ≤ w.heap.size)
    (h : ∀ v' w', OwnPts base w' v' (l ++ [(px, py)]) → w.grownBy w' v.ownBlock → (v'.ownBlock = v.ownBlock ∨ v'.ownBlock = some w.heap.size) → wpList Try.prog ops Q rest (a.put o.dst v') w') : wpList Try.prog ops Q (o :: rest) a w := by
  obtain ⟨i0, hi0, hz0, hz1, hz2⟩ := info_parts pt_info
  refine wpList_append_own_at w hgd s x _ ho base 38 i0 _ 2 16 Try.underlying27 hi0 hz0 hz1 hz2 rfl (by omega) v l.length (cellsP l) hs hown ⟨g, 0, none⟩ 1 m [.int .i64 px, .int .i64 py] hx rfl (news_blk hg)
    (fun u hu => by simp only [List.mem_cons, List.not_mem_nil, or_false] at hu; rcases hu with rfl | rfl <;> rfl) (by unfold maxLen; omega) (by omega) hbase ?_
  intro v' w' h1 h2 _ h4
  refine h v' w' ?_ h2 h4
  have e : cellsP (l ++ [(px, py)]) = cellsP l ++ [.int .i64 px, .int .i64 py] := by rw [cellsP_append]; rfl
  unfold OwnPts
  rw [e, List.length_append]
  exact h1
/-- append of points that lie in memory. -/
theorem append_ptsL {ops : Array Oper} {rest : List Oper} {o : Oper} {a : Act} {Q : Exit → Act → World → Prop} {w : World} (hgd : o.guard = none) (s x : Operand)
    (ho : o.op = .call { callee := .builtin .append, args := #[s, x], argTypes := #[27, 27] })
    (base : Nat) (v : Value) (l : List Pt) (hs : a.eval s = v) (hown : OwnPts base w v l) (ad : Addr) (n c : Nat) (m : List Pt) (hx : a.eval x = .slice (some ad) n c)
    (hm : IsPts w (some ad) n m) (hlen : l.length + m.length ≤ 1000000) (hbase : base ≤ w.heap.size)
    (h : ∀ v' w', OwnPts base w' v' (l ++ m) → w.grownBy w' v.ownBlock → (v'.ownBlock = v.ownBlock ∨ v'.ownBlock = some w.heap.size) → wpList Try.prog ops Q rest (a.put o.dst v') w') : wpList Try.prog ops Q (o :: rest) a w := by
  obtain ⟨i0, hi0, hz0, hz1, hz2⟩ := info_parts pt_info
  have hml := hm.1
  refine wpList_append_own_at w hgd s x _ ho base 38 i0 _ 2 16 Try.underlying27 hi0 hz0 hz1 hz2 rfl (by omega) v l.length (cellsP l) hs hown ad n c (cellsP m) hx (by rw [cellsP_len, hml]) (IsPts.news hm) cellsP_one
    (by unfold maxLen; omega) (by omega) hbase ?_
  intro v' w' h1 h2 _ h4
  refine h v' w' ?_ h2 h4
  unfold OwnPts
  rw [cellsP_append, List.length_append, hml]
  exact h1
/-- A slice of points that has just been written out. -/
theorem OwnPts.made {base g n : Nat} {w : World} {cur : Array Value} {T : TypeId} {l : List Pt} (hT : T = 38) (hb : base ≤ g) (h : w.heap[g]? = some (.cells cur T (0, 0))) (hn : l.length = n) (hm : n ≤ 1000000) (he : cur.toList = cellsP l) :
    OwnPts base w (.slice (some ⟨g, 0, none⟩) n n) l := by
  subst hT
  subst hn
  have e : cur.toList.length = l.length * 2 := by rw [he, cellsP_len]
  refine ⟨by rw [cellsP_len], .inr ⟨g, _, cur, rfl, hb, h, Nat.le_refl _, by unfold maxLen; omega, by rw [← e, Array.length_toList], ?_⟩⟩
  rw [he, List.take_of_length_le (by rw [cellsP_len]; exact Nat.le_refl _)]

/-- The points between, k times. -/
def rowL (l : List Pt) (k : Nat) : List Pt := tab (l.length - k) (dc l k)
theorem rowL_len (l : List Pt) (k : Nat) : (rowL l k).length = l.length - k := tab_len _ _
theorem rowL_zero (l : List Pt) : rowL l 0 = l := tab_pt l
theorem rowL_at {l : List Pt} {k i : Nat} (h : i + k < l.length) : px (rowL l k) i = (dc l k i).1 ∧ py (rowL l k) i = (dc l k i).2 := tab_px (by omega)
theorem dc_valid {l : List Pt} (h : validL l = true) {k i : Nat} (hi : i + k < l.length) : -1000 ≤ (dc l k i).1 ∧ (dc l k i).1 ≤ 1000 ∧ -1000 ≤ (dc l k i).2 ∧ (dc l k i).2 ≤ 1000 := by
  have := inBx_dc (validL_iff.1 h).2 k i hi
  simp only [inBx, unitBx] at this; omega
theorem dc_step (l : List Pt) (k i : Nat) : dc l (k + 1) i = (((dc l k i).1 + (dc l k (i + 1)).1) / 2, ((dc l k i).2 + (dc l k (i + 1)).2) / 2) := rfl
theorem tab_take {n m : Nat} (f : Nat → Pt) (h : m ≤ n) : (tab n f).take m = tab m f := by
  rw [tab, ← List.map_take, List.take_range, Nat.min_eq_left h]; rfl
/-- The last points of the rows, from the first row on. -/
def lastL (l : List Pt) (k : Nat) : List Pt := tab k fun j => dc l j (l.length - 1 - j)
theorem lastL_rev (l : List Pt) : (lastL l l.length).reverse = rightL l := by
  apply ext_pt
  · simp [lastL, tab_len, rightL_len]
  intro i hi
  simp only [List.length_reverse, lastL, tab_len] at hi
  rw [pt_rev (by simpa [lastL, tab_len] using hi)]
  unfold lastL rightL
  rw [tab_len, tab_at (by omega), tab_at hi]
  congr 1; omega
/-- The last points of the rows, from row k back. -/
def backL (l : List Pt) (k : Nat) : List Pt := tab (k + 1) fun j => dc l (k - j) (l.length - 1 - (k - j))
theorem backL_succ (l : List Pt) (k : Nat) : backL l (k + 1) = dc l (k + 1) (l.length - 1 - (k + 1)) :: backL l k := by
  unfold backL tab
  rw [List.range_succ_eq_map, List.map_cons, List.map_map]
  congr 1
  apply List.map_congr_left
  intro j _
  simp only [Function.comp]
  rw [show k + 1 - (j + 1) = k - j by omega]
theorem backL_end {l : List Pt} (h : 0 < l.length) : backL l (l.length - 1) = rightL l := by
  unfold backL rightL
  rw [show l.length - 1 + 1 = l.length by omega]
  apply tab_congr
  intro i hi
  congr 1; omega
theorem backL_zero (l : List Pt) : backL l 0 = [pt l (l.length - 1)] := by
  unfold backL tab; simp [List.range_succ, dc]

/-- The second half of the places is reversed already. -/
def revI (l : List Pt) (i : Nat) : List Pt := tab l.length fun t => if t < i ∨ l.length - 1 - i < t then pt l (l.length - 1 - t) else pt l t
theorem revI_zero {l : List Pt} : revI l 0 = l := by
  unfold revI
  rw [tab_congr (g := pt l) (fun t ht => by rw [if_neg (by omega)]), tab_pt]
theorem revI_end {l : List Pt} {i : Nat} (h : l.length ≤ 2 * i + 1) : revI l i = l.reverse := by
  apply ext_pt
  · simp [revI, tab_len]
  intro t ht
  rw [revI, tab_len] at ht
  rw [revI, tab_at ht, pt_rev ht]
  split
  · rfl
  · congr 1; omega
theorem revI_len (l : List Pt) (i : Nat) : (revI l i).length = l.length := tab_len _ _
theorem revI_at {l : List Pt} {i t : Nat} (h : t < l.length) : pt (revI l i) t = if t < i ∨ l.length - 1 - i < t then pt l (l.length - 1 - t) else pt l t := tab_at h

theorem pt_set {l : List Pt} {i t : Nat} (p : Pt) (hi : i < l.length) : pt (l.set i p) t = if i = t then p else pt l t := by
  by_cases e : i = t
  · subst e; rw [if_pos rfl, pt_eq (by simpa using hi)]; simp
  · rw [if_neg e]; simp [pt, px, py, List.getElem?_set, e]
theorem revI_step {l : List Pt} {k j : Nat} (h : j + k + 1 = l.length) (hlt : k < j) : ((revI l k).set k (pt l j)).set j (pt l k) = revI l (k + 1) := by
  apply ext_pt
  · simp [revI_len]
  intro t ht
  simp only [List.length_set, revI_len] at ht
  rw [pt_set _ (by rw [List.length_set, revI_len]; omega), pt_set _ (by rw [revI_len]; omega), revI_at ht, revI_at ht]
  by_cases e1 : j = t
  · subst e1; rw [if_pos rfl, if_pos (by omega), show l.length - 1 - j = k by omega]
  · rw [if_neg e1]
    by_cases e2 : k = t
    · subst e2; rw [if_pos rfl, if_pos (by omega), show l.length - 1 - k = j by omega]
    · rw [if_neg e2]
      have : (t < k ∨ l.length - 1 - k < t) ↔ (t < k + 1 ∨ l.length - 1 - (k + 1) < t) := by omega
      simp only [this]
theorem Has.put {cur : Array Value} {l : List Pt} {i : Nat} {p : Pt} (h : Has cur l) (hi : i < l.length) : Has ((cur.setIfInBounds (i * 2) (.int .i64 p.1)).setIfInBounds (i * 2 + 1) (.int .i64 p.2)) (l.set i p) := by
  have h1 := h.1
  refine ⟨by simpa using h.1, fun j hj => ?_⟩
  rw [List.length_set] at hj
  obtain ⟨c0, c1⟩ := h.2 j hj
  have hp := pt_set (t := j) p hi
  by_cases e : j = i
  · subst e
    rw [if_pos rfl] at hp
    rw [show px (l.set j p) j = p.1 from congrArg Prod.fst hp, show py (l.set j p) j = p.2 from congrArg Prod.snd hp]
    constructor
    · rw [Array.getElem?_setIfInBounds_ne (by omega), Array.getElem?_setIfInBounds_self_of_lt (by omega)]
    · rw [Array.getElem?_setIfInBounds_self_of_lt (by simp; omega)]
  · rw [if_neg (Ne.symm e)] at hp
    rw [show px (l.set i p) j = px l j from congrArg Prod.fst hp, show py (l.set i p) j = py l j from congrArg Prod.snd hp]
    constructor
    · rw [Array.getElem?_setIfInBounds_ne (by omega), Array.getElem?_setIfInBounds_ne (by omega)]; exact c0
    · rw [Array.getElem?_setIfInBounds_ne (by omega), Array.getElem?_setIfInBounds_ne (by omega)]; exact c1

/-- Two lists of points that come back, apart from each other. -/
def RetP2 (l m : List Pt) (w : World) (e : Ending) (w' : World) : Prop :=
  ∃ v u s, e = .returned (.tuple #[v, u]) ∧ OwnP w.heap.size w' v l ∧ (∀ g, v.ownBlock = some g → g < s) ∧ w.heap.size ≤ s ∧ OwnP s w' u m ∧ Below w.heap.size w w'

end Go.Proofs.Ytbiddmimcdmnoaa
