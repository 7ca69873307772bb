/-
  Copies of points, and points moved, of the program and of the reference.
-/
import Derived.Test.YtbiddmimcdmnoaaPtsF
import Derived.OwnWalk
import Derived.Maps.AppendAt
import Derived.Deep.AppendLies
namespace Go.Proofs.Ytbiddmimcdmnoaa
open Go.RowKit Pl

set_option linter.unusedSimpArgs false
set_option linter.unusedVariables false

theorem IsPts.news {w : World} {a : Addr} {n : Nat} {l : List Pt} (h : IsPts w (some a) n l) : ∀ j u, (cellsP l)[j]? = some u → w.cell? (a.add j) = some u := fun j u hu => by
  rcases Nat.eq_zero_or_pos n with h0 | h0
  · subst h0
    have : l = [] := List.length_eq_zero_iff.1 h.1
    subst this
    simp [cellsP] at hu
  · obtain ⟨b, o, e, hp⟩ := h.2 h0
    cases e
    exact hp.news j u hu

/-- The cells of a block begin with points. -/
def Has (cur : Array Value) (l : List Pt) : Prop := l.length * 2 ≤ cur.size ∧ ∀ i, i < l.length → cur[i * 2]? = some (.int .i64 (px l i)) ∧ cur[i * 2 + 1]? = some (.int .i64 (py l i))
/-- Points in memory that lies at block base or later. -/
def OwnP (base : Nat) (w : World) (v : Value) (l : List Pt) : Prop :=
  ∃ A c, v = .slice A l.length c ∧ l.length ≤ c ∧ c ≤ maxLen ∧ (∀ a, A = some a → base ≤ a.block) ∧ (0 < l.length → ∃ g cur, A = some ⟨g, 0, none⟩ ∧ w.heap[g]? = some (.cells cur 38 (0, 0)) ∧ Has cur l)
theorem OwnPts.weak {base : Nat} {w : World} {v : Value} {l : List Pt} (h : OwnPts base w v l) : OwnP base w v l := by
  obtain ⟨hl, h⟩ := h
  rcases h with ⟨rfl, hn⟩ | ⟨g, cap, cur, rfl, hb, hg, hn, hc, hs, ht⟩
  · exact ⟨none, 0, by rw [hn], by omega, by omega, fun a e => (by cases e), fun h => by omega⟩
  · refine ⟨_, cap, rfl, hn, hc, fun a e => by cases e; exact hb, fun _ => ⟨g, cur, rfl, hg, by omega, fun i hi => ?_⟩⟩
    have hat : ∀ j, j < l.length * 2 → cur[j]? = (cellsP l)[j]? := fun j hj => by rw [← ht, List.getElem?_take, if_pos hj, Array.getElem?_toList]
    obtain ⟨d0, d1⟩ := cellsP_at l i hi
    exact ⟨by rw [hat _ (by omega), d0], by rw [hat _ (by omega), d1]⟩
theorem OwnP.below {base : Nat} {w w' : World} {v : Value} {l : List Pt} (h : OwnP base w v l) (hb : Below w.heap.size w w') : OwnP base w' v l := by
  obtain ⟨A, c, e, h1, h2, h3, h4⟩ := h
  exact ⟨A, c, e, h1, h2, h3, fun hn => by obtain ⟨g, cur, e, hg, hh⟩ := h4 hn; exact ⟨g, cur, e, blk_below hg hb, hh⟩⟩
theorem OwnP.lower {base base' : Nat} {w : World} {v : Value} {l : List Pt} (h : OwnP base w v l) (hb : base' ≤ base) : OwnP base' w v l := by
  obtain ⟨A, c, e, h1, h2, h3, h4⟩ := h
  exact ⟨A, c, e, h1, h2, fun a ha => Nat.le_trans hb (h3 a ha), h4⟩
theorem OwnP.nil (base : Nat) (w : World) : OwnP base w (.slice none 0 0) [] := ⟨none, 0, rfl, by simp, by simp, fun a e => (by cases e), fun h => absurd h (Nat.lt_irrefl _)⟩
/-- As an argument. -/
theorem OwnP.form {base : Nat} {w : World} {v : Value} {l : List Pt} (h : OwnP base w v l) : ∃ A c, v = .slice A l.length c ∧ l.length ≤ c ∧ c ≤ maxLen ∧ IsPts w A l.length l ∧ (∀ a, A = some a → base ≤ a.block) := by
  obtain ⟨A, c, e, h1, h2, h3, h4⟩ := h
  refine ⟨A, c, e, h1, h2, ⟨rfl, fun hn => ?_⟩, h3⟩
  obtain ⟨g, cur, e, hg, hh, hat⟩ := h4 hn
  exact ⟨g, 0, e, blk_lt hg, fun i hi => ⟨by rw [blk_cell hg, Nat.zero_add, (hat i hi).1], by rw [blk_cell hg, Nat.zero_add, (hat i hi).2]⟩⟩
theorem OwnP.clip {base : Nat} {w : World} {A : Option Addr} {n c : Nat} {l : List Pt} (h : OwnP base w (.slice A n c) l) : n = l.length ∧ OwnP base w (.slice A n n) l ∧ n ≤ c ∧ c ≤ maxLen := by
  obtain ⟨A', c', e, h1, h2, h3, h4⟩ := h
  cases e
  exact ⟨rfl, ⟨A, _, rfl, Nat.le_refl _, by omega, h3, h4⟩, h1, h2⟩
/-- Points that come back, in memory of the call's own. -/
def RetP (l : List Pt) (w : World) (e : Ending) (w' : World) : Prop := ∃ v, e = .returned v ∧ OwnP w.heap.size w' v l ∧ Below w.heap.size w w'

/-- Cell by cell: the first k points are moved. -/
def HasM (cur : Array Value) (l : List Pt) (x y : Int) (k : Nat) : Prop :=
  l.length * 2 ≤ cur.size ∧ ∀ i, i < l.length → cur[i * 2]? = some (.int .i64 (if i < k then px l i + x else px l i)) ∧ cur[i * 2 + 1]? = some (.int .i64 (if i < k then py l i + y else py l i))
theorem HasM.start {cur : Array Value} {l : List Pt} (h : Has cur l) (x y : Int) : HasM cur l x y 0 := ⟨h.1, fun i hi => by rw [if_neg (Nat.not_lt_zero i), if_neg (Nat.not_lt_zero i)]; exact h.2 i hi⟩
theorem HasM.done {cur : Array Value} {l : List Pt} {x y : Int} (h : HasM cur l x y l.length) : Has cur (movedL l x y) := by
  refine ⟨by rw [movedL_len]; exact h.1, fun i hi => ?_⟩
  rw [movedL_len] at hi
  have := h.2 i hi
  rw [if_pos hi, if_pos hi] at this
  rw [(movedL_at l x y hi).1, (movedL_at l x y hi).2]; exact this
theorem HasM.step {cur : Array Value} {l : List Pt} {x y : Int} {k : Nat} (h : HasM cur l x y k) (hk : k < l.length) : HasM ((cur.setIfInBounds (k * 2) (.int .i64 (px l k + x))).setIfInBounds (k * 2 + 1) (.int .i64 (py l k + y))) l x y (k + 1) := by
  refine ⟨by simpa using h.1, fun i hi => ?_⟩
  have h1 := h.1
  obtain ⟨c0, c1⟩ := h.2 i hi
  by_cases e : i = k
  · subst e
    rw [if_pos (by omega), if_pos (by omega)]
    constructor
    · rw [Array.getElem?_setIfInBounds_ne (by omega), Array.getElem?_setIfInBounds_self_of_lt (by omega)]
    · rw [Array.getElem?_setIfInBounds_self_of_lt (by simp; omega)]
  · have e1 : (i < k + 1) ↔ i < k := by omega
    simp only [e1]
    constructor
    · rw [Array.getElem?_setIfInBounds_ne (by omega), Array.getElem?_setIfInBounds_ne (by omega)]; exact c0
    · rw [Array.getElem?_setIfInBounds_ne (by omega), Array.getElem?_setIfInBounds_ne (by omega)]; exact c1

/-- Points, and whether there are any. -/
def RetPOk (l : List Pt) (ok : Bool) (w : World) (e : Ending) (w' : World) : Prop := ∃ v, e = .returned (.tuple #[v, .bool ok]) ∧ OwnP w.heap.size w' v l ∧ Below w.heap.size w w'

end Go.Proofs.Ytbiddmimcdmnoaa
