/-
  Slices of slices of points in memory.
-/
import Derived.Test.YtiocgklfkckomaaVals
import Derived.Test.YtiocgklfkckomaaSplM
namespace Go.Proofs.Ytiocgklfkckomaa
open Go.RowKit Pl

set_option linter.unusedSimpArgs false
set_option linter.unusedVariables false

theorem Below.trans' {B : Nat} {a b c : World} (h : Below B a b) (k : Below B b c) : Below B a c := h.trans k

/-- A slice header that reads as the points r. -/
def IsHd (w : World) (u : Value) (r : List Pt) : Prop := ∃ B c, u = .slice B r.length c ∧ r.length ≤ c ∧ c ≤ maxLen ∧ IsPts w B r.length r
theorem IsHd.below {w w' : World} {u : Value} {r : List Pt} (h : IsHd w u r) (hb : Below w.heap.size w w') : IsHd w' u r := by
  obtain ⟨B, c, e, h1, h2, h3⟩ := h; exact ⟨B, c, e, h1, h2, h3.below hb⟩
/-- The slice of n slices from A on reads as L. -/
def IsRs (w : World) (A : Option Addr) (n : Nat) (L : List (List Pt)) : Prop := ∃ us : List Value, IsVs w A n us ∧ us.length = L.length ∧ ∀ (i : Nat) (r : List Pt), L[i]? = some r → ∃ u, us[i]? = some u ∧ IsHd w u r
theorem IsRs.len {w : World} {A : Option Addr} {n : Nat} {L : List (List Pt)} (h : IsRs w A n L) : L.length = n := by
  obtain ⟨us, h1, h2, _⟩ := h; rw [← h2, h1.1]
theorem IsRs.below {w w' : World} {A : Option Addr} {n : Nat} {L : List (List Pt)} (h : IsRs w A n L) (hb : Below w.heap.size w w') : IsRs w' A n L := by
  obtain ⟨us, h1, h2, h3⟩ := h
  refine ⟨us, h1.below hb, h2, fun i r hr => ?_⟩
  obtain ⟨u, hu, hh⟩ := h3 i r hr
  exact ⟨u, hu, hh.below hb⟩
/-- One ring, read. -/
theorem IsRs.at_ {w : World} {A : Option Addr} {n : Nat} {L : List (List Pt)} (h : IsRs w A n L) {k : Nat} (hk : k < n) :
    ∃ r b o B c, L[k]? = some r ∧ A = some ⟨b, o, none⟩ ∧ b < w.heap.size ∧ w.cell? ⟨b, o + k, none⟩ = some (.slice B r.length c) ∧ r.length ≤ c ∧ c ≤ maxLen ∧ IsPts w B r.length r := by
  have hl := h.len
  obtain ⟨us, h1, h2, h3⟩ := h
  have hkl : k < L.length := by omega
  obtain ⟨u, hu, B, c, rfl, q1, q2, q3⟩ := h3 k _ (List.getElem?_eq_getElem hkl)
  obtain ⟨b, o, e, hb, hc⟩ := h1.at_ hu
  exact ⟨_, b, o, B, c, List.getElem?_eq_getElem hkl, e, hb, hc, q1, q2, q3⟩
theorem IsRs.nil (w : World) (A : Option Addr) : IsRs w A 0 [] := ⟨[], IsVs.nil w A, rfl, fun i r h => by simp at h⟩

/-- Slices that the call has made; each lies apart from the slice that lists them. -/
def OwnRs (base : Nat) (w : World) (v : Value) (L : List (List Pt)) : Prop :=
  ∃ us : List Value, OwnV 63 base w v us ∧ us.length = L.length ∧ ∀ (i : Nat) (r : List Pt), L[i]? = some r → ∃ u, us[i]? = some u ∧ IsHd w u r ∧ (0 < r.length → Sep u.ownBlock v.ownBlock)
theorem OwnRs.nil (base : Nat) (w : World) : OwnRs base w (.slice none 0 0) [] := ⟨[], OwnV.nil _ _ _, rfl, fun i r h => by simp at h⟩
theorem OwnRs.empty {base g : Nat} {w : World} {T : TypeId} (hT : T = 63) (hb : base ≤ g) (h : w.heap[g]? = some (.cells #[] T (0, 0))) : OwnRs base w (.slice (some ⟨g, 0, none⟩) 0 0) [] := by
  subst hT; exact ⟨[], OwnV.empty hb h, rfl, fun i r h => by simp at h⟩
theorem OwnRs.below {base : Nat} {w w' : World} {v : Value} {L : List (List Pt)} (h : OwnRs base w v L) (hb : Below w.heap.size w w') : OwnRs base w' v L := by
  obtain ⟨us, h1, h2, h3⟩ := h
  refine ⟨us, h1.below hb, h2, fun i r hr => ?_⟩
  obtain ⟨u, hu, hh, hs⟩ := h3 i r hr
  exact ⟨u, hu, hh.below hb, hs⟩
theorem OwnRs.lower {base base' : Nat} {w : World} {v : Value} {L : List (List Pt)} (h : OwnRs base w v L) (hb : base' ≤ base) : OwnRs base' w v L := by
  obtain ⟨us, h1, h2⟩ := h; exact ⟨us, h1.lower hb, h2⟩
theorem OwnRs.form {base : Nat} {w : World} {v : Value} {L : List (List Pt)} (h : OwnRs base w v L) : ∃ A c, v = .slice A L.length c ∧ L.length ≤ c ∧ c ≤ maxLen ∧ IsRs w A L.length L ∧ (∀ a, A = some a → base ≤ a.block) := by
  obtain ⟨us, h1, h2, h3⟩ := h
  obtain ⟨A, c, e, q1, q2, q3, q4⟩ := h1.weak.form
  rw [h2] at e q1 q3
  refine ⟨A, c, e, q1, q2, ⟨us, q3, h2, fun i r hr => ?_⟩, q4⟩
  obtain ⟨u, hu, hh, _⟩ := h3 i r hr
  exact ⟨u, hu, hh⟩
theorem OwnRs.row {base : Nat} {w : World} {v : Value} {L : List (List Pt)} (h : OwnRs base w v L) : ∀ g, v.ownBlock = some g → base ≤ g ∧ g < w.heap.size := by
  obtain ⟨us, h1, _⟩ := h; exact h1.row
theorem IsHd.grown {w w' : World} {u : Value} {r : List Pt} {row : Option Nat} (h : IsHd w u r) (hg : w.grownBy w' row) (hs : 0 < r.length → Sep u.ownBlock row) : IsHd w' u r := by
  obtain ⟨B, c, rfl, h1, h2, h3⟩ := h
  refine ⟨B, c, rfl, h1, h2, ?_⟩
  rcases Nat.eq_zero_or_pos r.length with hz | hz
  · rw [List.length_eq_zero_iff.1 hz]; exact IsPts.nil _ _
  · exact h3.grown hg (by have := hs hz; rwa [blkA_own] at this)
theorem ring_info : (Try.prog.info? 63).map (fun i => (i.zero, i.size, i.bytes)) = some (some (.slice none 0 0), 1, 24) := by kernel_rfl
theorem hd_lt {w : World} {u : Value} {r : List Pt} (h : IsHd w u r) (hn : 0 < r.length) : ∀ g, u.ownBlock = some g → g < w.heap.size := by
  obtain ⟨B, c, rfl, _, _, h3⟩ := h
  rw [blkA_own]; exact h3.lt hn

end Go.Proofs.Ytiocgklfkckomaa
