/-
  Slices of points in memory: as arguments, as results of the call's own.
-/
import Derived.Test.YtbiddmimcdmnoaaPts
import Derived.Test.YtbiddmimcdmnoaaPlC
import Derived.Laws.AppendOwn
import Derived.Laws.OwnMore
namespace Go.Proofs.Ytbiddmimcdmnoaa
open Go.RowKit Pl

set_option linter.unusedSimpArgs false

/-- The slice of n points from A on reads as l. -/
def IsPts (w : World) (A : Option Addr) (n : Nat) (l : List Pt) : Prop := l.length = n ∧ (0 < n → ∃ b o, A = some ⟨b, o, none⟩ ∧ Pts w b o l)
theorem IsPts.below {w w' : World} {A : Option Addr} {n : Nat} {l : List Pt} (h : IsPts w A n l) (hb : Below w.heap.size w w') : IsPts w' A n l :=
  ⟨h.1, fun hn => by obtain ⟨b, o, e, hp⟩ := h.2 hn; exact ⟨b, o, e, hp.below hb⟩⟩
theorem IsPts.nil (w : World) (A : Option Addr) : IsPts w A 0 [] := ⟨rfl, fun h => absurd h (Nat.lt_irrefl _)⟩
/-- One point, read. -/
theorem IsPts.at_ {w : World} {A : Option Addr} {n : Nat} {l : List Pt} (h : IsPts w A n l) {k : Nat} (hk : k < n) :
    ∃ b o, A = some ⟨b, o, none⟩ ∧ b < w.heap.size ∧ w.cell? ⟨b, o + k * 2, none⟩ = some (.int .i64 (px l k)) ∧ w.cell? ⟨b, o + k * 2 + 1, none⟩ = some (.int .i64 (py l k)) := by
  obtain ⟨b, o, e, hp⟩ := h.2 (by omega)
  exact ⟨b, o, e, hp.1, hp.2 k (by rw [h.1]; exact hk)⟩

/-- The cells of points. -/
def cellsP (l : List Pt) : List Value := l.flatMap fun p => [.int .i64 p.1, .int .i64 p.2]
theorem cellsP_len (l : List Pt) : (cellsP l).length = l.length * 2 := by
  induction l with
  | nil => rfl
  | cons p l ih => simp only [cellsP, List.flatMap_cons, List.length_append, List.length_cons, List.length_nil] at *; omega
theorem cellsP_append (l m : List Pt) : cellsP (l ++ m) = cellsP l ++ cellsP m := by simp [cellsP]
theorem cellsP_at (l : List Pt) : ∀ (i : Nat), i < l.length → (cellsP l)[i * 2]? = some (.int .i64 (px l i)) ∧ (cellsP l)[i * 2 + 1]? = some (.int .i64 (py l i)) := by
  induction l with
  | nil => intro i h; cases h
  | cons p l ih =>
    intro i hi
    cases i with
    | zero => exact ⟨rfl, rfl⟩
    | succ i =>
      have := ih i (by simpa using hi)
      have e : cellsP (p :: l) = .int .i64 p.1 :: .int .i64 p.2 :: cellsP l := rfl
      rw [e, show (i + 1) * 2 = i * 2 + 1 + 1 by omega, List.getElem?_cons_succ, List.getElem?_cons_succ, List.getElem?_cons_succ, List.getElem?_cons_succ]
      exact this
theorem cellsP_one {l : List Pt} : ∀ u ∈ cellsP l, u.oneCell' = true := fun u hu => by
  obtain ⟨p, _, hp⟩ := List.mem_flatMap.1 hu
  simp only [List.mem_cons, List.not_mem_nil, or_false] at hp
  rcases hp with rfl | rfl <;> rfl
theorem Pts.news {w : World} {b o : Nat} {l : List Pt} (h : Pts w b o l) : ∀ j u, (cellsP l)[j]? = some u → w.cell? ((⟨b, o, none⟩ : Addr).add j) = some u := fun j u hu => by
  have hj : j < l.length * 2 := by rw [← cellsP_len]; exact (List.getElem?_eq_some_iff.1 hu).1
  have hadd : (⟨b, o, none⟩ : Addr).add j = ⟨b, o + j, none⟩ := by by_cases h : j = 0 <;> simp [Addr.add, h]
  obtain ⟨c0, c1⟩ := h.2 (j / 2) (by omega)
  obtain ⟨d0, d1⟩ := cellsP_at l (j / 2) (by omega)
  rw [hadd]
  rcases Nat.mod_two_eq_zero_or_one j with e | e
  · have : j = j / 2 * 2 := by omega
    rw [this] at hu ⊢
    rw [d0] at hu; rw [← hu, c0]
  · have : j = j / 2 * 2 + 1 := by omega
    rw [this] at hu ⊢
    rw [d1] at hu; rw [← hu, ← Nat.add_assoc, c1]

/-- Points that the call has made, at block base or later. -/
def OwnPts (base : Nat) (w : World) (v : Value) (l : List Pt) : Prop := w.ownsRow base 38 2 v l.length (cellsP l)
theorem OwnPts.form {base : Nat} {w : World} {v : Value} {l : List Pt} (h : OwnPts base w v l) : ∃ A c, v = .slice A l.length c ∧ IsPts w A l.length l ∧ l.length ≤ c ∧ c ≤ maxLen ∧ (∀ a, A = some a → base ≤ a.block ∧ a.off = 0) := by
  obtain ⟨hl, h⟩ := h
  rcases h with ⟨rfl, hn⟩ | ⟨g, cap, cur, rfl, hb, hg, hn, hc, hs, ht⟩
  · exact ⟨none, 0, by rw [hn], ⟨rfl, fun h => by omega⟩, by omega, by omega, fun a e => by cases e⟩
  · refine ⟨some ⟨g, 0, none⟩, cap, rfl, ⟨rfl, fun _ => ⟨g, 0, rfl, blk_lt hg, fun i hi => ?_⟩⟩, hn, hc, fun a e => by cases e; exact ⟨hb, rfl⟩⟩
    have hat : ∀ j, j < l.length * 2 → w.cell? ⟨g, 0 + j, none⟩ = (cellsP l)[j]? := fun j hj => by
      rw [blk_cell hg, ← ht, List.getElem?_take, if_pos hj, Nat.zero_add, Array.getElem?_toList]
    obtain ⟨d0, d1⟩ := cellsP_at l i hi
    exact ⟨by rw [hat _ (by omega), d0], by rw [Nat.add_assoc, hat _ (by omega), d1]⟩
theorem OwnPts.nil (base : Nat) (w : World) : OwnPts base w (.slice none 0 0) [] := ⟨rfl, .inl ⟨rfl, rfl⟩⟩
theorem OwnPts.empty {base g : Nat} {w : World} {T : TypeId} (hT : T = 38) (hb : base ≤ g) (h : w.heap[g]? = some (.cells #[] T (0, 0))) : OwnPts base w (.slice (some ⟨g, 0, none⟩) 0 0) [] := by
  subst hT; exact ⟨rfl, .inr ⟨g, 0, #[], rfl, hb, h, Nat.le_refl _, Nat.zero_le _, rfl, rfl⟩⟩
theorem OwnPts.below {base : Nat} {w w' : World} {v : Value} {l : List Pt} (h : OwnPts base w v l) (hb : Below w.heap.size w w') : OwnPts base w' v l := by
  refine ⟨h.1, ?_⟩
  rcases h.2 with h | ⟨g, cap, cur, e, hb', hg, r⟩
  · exact .inl h
  · exact .inr ⟨g, cap, cur, e, hb', blk_below hg hb, r⟩
theorem OwnPts.lower {base base' : Nat} {w : World} {v : Value} {l : List Pt} (h : OwnPts base w v l) (hb : base' ≤ base) : OwnPts base' w v l := by
  refine ⟨h.1, ?_⟩
  rcases h.2 with h | ⟨g, cap, cur, e, hb', r⟩
  · exact .inl h
  · exact .inr ⟨g, cap, cur, e, by omega, r⟩
/-- Points that come back, in memory of the call's own. -/
def RetPts (l : List Pt) (w : World) (e : Ending) (w' : World) : Prop := ∃ v, e = .returned v ∧ OwnPts w.heap.size w' v l ∧ Below w.heap.size w w'
theorem pt_info : (Try.prog.info? 38).map (fun i => (i.zero, i.size, i.bytes)) = some (some (.agg #[.int .i64 0, .int .i64 0]), 2, 16) := by kernel_rfl
theorem grown_own {B : Nat} {a w w1 : World} {row : Option Nat} (h2 : w.grownBy w1 row) (h1 : Below B a w) (hB : B ≤ w.heap.size) (hg : ∀ g, row = some g → B ≤ g) : Below B a w1 :=
  ⟨h2.os.trans h1.os, h2.tape.trans h1.tape, h2.output.trans h1.output, Nat.le_trans h1.size h2.size, fun i hi => (h2.block i (by omega) (fun e => by have := hg i e.symm; omega)).trans (h1.block i hi)⟩
theorem OwnPts.row {base : Nat} {w : World} {v : Value} {l : List Pt} (h : OwnPts base w v l) : ∀ g, v.ownBlock = some g → base ≤ g := fun g hg => by
  rcases h.2 with ⟨rfl, _⟩ | ⟨g', cap, cur, rfl, hb', _⟩
  · cases hg
  · simp only [Value.ownBlock, Option.some.injEq] at hg; omega

end Go.Proofs.Ytbiddmimcdmnoaa
