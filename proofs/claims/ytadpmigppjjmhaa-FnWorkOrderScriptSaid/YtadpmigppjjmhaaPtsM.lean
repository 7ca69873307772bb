/-
  Slices of points in memory: as arguments, as results of the call's own.
-/
import Derived.Test.YtadpmigppjjmhaaPts
import Derived.Test.YtadpmigppjjmhaaPlC
import Derived.Laws.AppendOwn
import Derived.Laws.OwnMore
namespace Go.Proofs.Ytadpmigppjjmhaa
open Go.RowKit Pl

set_option linter.unusedSimpArgs false

/-- The slice of n points from A on reads as l. -/
def IsPts (w : World) (A : Option Addr) (n : Nat) (l : List Pt) : Prop := l.length = n ∧ (0 < n → ∃ b o, A = some ⟨b, o, none⟩ ∧ Pts w b o l)
theorem IsPts.below {w w' : World} {A : Option Addr} {n : Nat} {l : List Pt} (h : IsPts w A n l) (hb : Below w.heap.size w w') : IsPts w' A n l :=
  ⟨h.1, fun hn => by obtain ⟨b, o, e, hp⟩ := h.2 hn; exact ⟨b, o, e, hp.below hb⟩⟩
theorem IsPts.nil (w : World) (A : Option Addr) : IsPts w A 0 [] := ⟨rfl, fun h => absurd h (Nat.lt_irrefl _)⟩
/-- One point, read. -/
theorem IsPts.at_ {w : World} {A : Option Addr} {n : Nat} {l : List Pt} (h : IsPts w A n l) {k : Nat} (hk : k < n) :
    ∃ b o, A = some ⟨b, o, none⟩ ∧ b < w.heap.size ∧ w.cell? ⟨b, o + k * 2, none⟩ = some (.int .i64 (px l k)) ∧ w.cell? ⟨b, o + k * 2 + 1, none⟩ = some (.int .i64 (py l k)) := by
  obtain ⟨b, o, e, hp⟩ := h.2 (by omega)
  exact ⟨b, o, e, hp.1, hp.2 k (by rw [h.1]; exact hk)⟩

/-- The cells of points. -/
def cellsP (l : List Pt) : List Value := l.flatMap fun p => [.int .i64 p.1, .int .i64 p.2]
theorem cellsP_len (l : List Pt) : (cellsP l).length = l.length * 2 := by
  induction l with
  | nil => rfl
  | cons p l ih => simp only [cellsP, List.flatMap_cons, List.length_append, List.length_cons, List.length_nil] at *; omega
theorem cellsP_append (l m : List Pt) : cellsP (l ++ m) = cellsP l ++ cellsP m := by simp [cellsP]
theorem cellsP_at (l : List Pt) : ∀ (i : Nat), i < l.length → (cellsP l)[i * 2]? = some (.int .i64 (px l i)) ∧ (cellsP l)[i * 2 + 1]? = some (.int .i64 (py l i)) := by
  induction l with
  | nil => intro i h; cases h
  | cons p l ih =>
    intro i hi
    cases i with
    | zero => exact ⟨rfl, rfl⟩
    | succ i =>
      have := ih i (by simpa using hi)
      have e : cellsP (p :: l) = .int .i64 p.1 :: .int .i64 p.2 :: cellsP l := rfl
      rw [e, show (i + 1) * 2 = i * 2 + 1 + 1 by omega, List.getElem?_cons_succ, List.getElem?_cons_succ, List.getElem?_cons_succ, List.getElem?_cons_succ]
      exact this
theorem cellsP_one {l : List Pt} : ∀ u ∈ cellsP l, u.oneCell' = true := fun u hu => by
  obtain ⟨p, _, hp⟩ := List.mem_flatMap.1 hu
  simp only [List.mem_cons, List.not_mem_nil, or_false] at hp
  rcases hp with rfl | rfl <;> rfl
theorem Pts.news {w : World} {b o : Nat} {l : List Pt} (h : Pts w b o l) : ∀ j u, (cellsP l)[j]? = some u → w.cell? ((⟨b, o, none⟩ : Addr).add j) = some u := fun j u hu => by
  have hj : j < l.length * 2 := by rw [← cellsP_len]; exact (List.getElem?_eq_some_iff.1 hu).1
  have hadd : (⟨b, o, none⟩ : Addr).add j = ⟨b, o + j, none⟩ := by by_cases h : j = 0 <;> simp [Addr.add, h]
  obtain ⟨c0, c1⟩ := h.2 (j / 2) (by omega)
  obtain ⟨d0, d1⟩ := cellsP_at l (j / 2) (by omega)
  rw [hadd]
  rcases Nat.mod_two_eq_zero_or_one j with e | e
  · have : j = j / 2 * 2 := by omega
    rw [this] at hu ⊢
    rw [d0] at hu; rw [← hu, c0]
  · have : j = j / 2 * 2 + 1 := by omega
    rw [this] at hu ⊢
    rw [d1] at hu; rw [← hu, ← Nat.add_assoc, c1]

end Go.Proofs.Ytadpmigppjjmhaa
