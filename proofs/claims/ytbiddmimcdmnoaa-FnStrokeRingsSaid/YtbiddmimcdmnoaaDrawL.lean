/-
  The generator of lists of points.
-/
import Derived.Test.YtbiddmimcdmnoaaDraw
import Derived.Test.YtbiddmimcdmnoaaDrawP
import Derived.Test.YtbiddmimcdmnoaaPtsH
namespace Go.Proofs.Ytbiddmimcdmnoaa
open Go.RowKit Pl

set_option linter.unusedSimpArgs false
set_option linter.unusedVariables false

theorem Rd.own {g : Nat} {A : Option Addr} {n c : Nat} {z : Nat → Int} {w w' : World} {k : Nat} {row : Option Nat} (h : Rd g A n c z w k) (hg : w.grownBy w' row) (hrow : ∀ r, row = some r → g < r) : Rd g A n c z w' k := by
  refine ⟨?_, fun hn => ?_, h.far, h.cap, h.few⟩
  · obtain ⟨p, hp, hb⟩ := h.pos
    exact ⟨p, hp, (hg.block g h.lt (fun e => by have := hrow g e.symm; omega)).trans hb⟩
  · obtain ⟨b, o, rfl, hbl, hc⟩ := h.code hn
    have hf := h.far hn b o rfl
    have hblk := hg.block b hbl (fun e => by have := hrow b e.symm; omega)
    exact ⟨b, o, rfl, Nat.lt_of_lt_of_le hbl hg.size, fun i hi => ⟨(World.cell?_of_block (a := ⟨b, o + i, none⟩) hblk).trans (hc i hi).1, (hc i hi).2⟩⟩
theorem only_own {a w w1 : World} {g : Nat} {row : Option Nat} (h2 : w.grownBy w1 row) (h1 : a.grownBy w (some g)) (hrow : ∀ r, row = some r → a.heap.size ≤ r) : a.grownBy w1 (some g) :=
  ⟨h2.os.trans h1.os, h2.tape.trans h1.tape, h2.output.trans h1.output, Nat.le_trans h1.size h2.size, fun i hi hne => (h2.block i (Nat.lt_of_lt_of_le hi h1.size) (fun e => by have := hrow i e.symm; omega)).trans (h1.block i hi hne)⟩
theorem OwnPts.grown {base g : Nat} {w w' : World} {v : Value} {l : List Pt} (h : OwnPts base w v l) (hg : w.grownBy w' (some g)) (hne : g < base) : OwnPts base w' v l := by
  refine ⟨h.1, ?_⟩
  rcases h.2 with h | ⟨g', cap, cur, e, hb', hg', r⟩
  · exact .inl h
  · exact .inr ⟨g', cap, cur, e, hb', blk_grown hg' hg (by omega), r⟩
theorem OwnPts.alloc {base : Nat} {w : World} {v : Value} {l : List Pt} (h : OwnPts base w v l) (o : Obj) : OwnPts base (w.alloc o) v l := h.below ((Below.refl _ _).alloc (Nat.le_refl _) o)
theorem OwnP.grown {base g : Nat} {w w' : World} {v : Value} {l : List Pt} (h : OwnP base w v l) (hg : w.grownBy w' (some g)) (hne : g < base) : OwnP base w' v l := by
  obtain ⟨A, c, e, h1, h2, h3, h4⟩ := h
  refine ⟨A, c, e, h1, h2, h3, fun hn => ?_⟩
  obtain ⟨g', cur, e', hg', hh⟩ := h4 hn
  have := h3 _ e'
  exact ⟨g', cur, e', blk_grown hg' hg (by simp only at this; omega), hh⟩
theorem Has.set {cur : Array Value} {l : List Pt} {i : Nat} {x y : Int} (h : Has cur l) (hi : i < l.length) : Has ((cur.setIfInBounds (i * 2) (.int .i64 x)).setIfInBounds (i * 2 + 1) (.int .i64 y)) (l.set i (x, y)) := by
  have h1 := h.1
  refine ⟨by simpa using h.1, fun j hj => ?_⟩
  rw [List.length_set] at hj
  obtain ⟨c0, c1⟩ := h.2 j hj
  by_cases e : j = i
  · subst e
    have e1 : px (l.set j (x, y)) j = x := by simp [px, hj]
    have e2 : py (l.set j (x, y)) j = y := by simp [py, hj]
    rw [e1, e2]
    constructor
    · rw [Array.getElem?_setIfInBounds_ne (by omega), Array.getElem?_setIfInBounds_self_of_lt (by omega)]
    · rw [Array.getElem?_setIfInBounds_self_of_lt (by simp; omega)]
  · have e1 : px (l.set i (x, y)) j = px l j := by simp [px, List.getElem?_set, Ne.symm e]
    have e2 : py (l.set i (x, y)) j = py l j := by simp [py, List.getElem?_set, Ne.symm e]
    rw [e1, e2]
    constructor
    · rw [Array.getElem?_setIfInBounds_ne (by omega), Array.getElem?_setIfInBounds_ne (by omega)]; exact c0
    · rw [Array.getElem?_setIfInBounds_ne (by omega), Array.getElem?_setIfInBounds_ne (by omega)]; exact c1

/-- Some points, drawn. -/
def AnyPts (g : Nat) (A : Option Addr) (n c : Nat) (z : Nat → Int) (w : World) (k : Nat) (e : Ending) (w' : World) : Prop :=
  ∃ v l, e = .returned v ∧ l.length ≤ 41 ∧ OwnP w.heap.size w' v l ∧ Rd g A n c z w' (k + 200) ∧ w.grownBy w' (some g)

/-- Points and two numbers. -/
def PtsXY (w : World) (e : Ending) (w' : World) : Prop :=
  ∃ v l x y, e = .returned (.tuple #[v, .int .i64 x, .int .i64 y]) ∧ l.length ≤ 41 ∧ (-1001 ≤ x ∧ x ≤ 1001) ∧ (-1001 ≤ y ∧ y ≤ 1001) ∧ OwnP w.heap.size w' v l ∧ Below w.heap.size w w'

end Go.Proofs.Ytbiddmimcdmnoaa
