/-
  Lists of points in regions that append.
-/
import Derived.Test.YtmojbcnldipdgaaReg3
import Derived.Test.YtmojbcnldipdgaaPtsG
namespace Go.Proofs.Ytmojbcnldipdgaa
open Go.RowKit Pl

set_option linter.unusedSimpArgs false
set_option linter.unusedVariables false

/-- A list that is still to be appended to, or has been. -/
def AP (base n : Nat) (l : List Pt) (v : Value) (w : World) : Prop := ∃ u, v = u ∧ w.ownsRow base 41 2 u n (cellsP l) ∧ (n = 0 → ∃ g, u = .slice (some ⟨g, 0, none⟩) 0 0)
def JP (base n : Nat) (l : List Pt) (v : Value) (w : World) : Prop := ∃ A c, v = .slice A n c ∧ IsPts w A n l ∧ w.ownsRow base 41 2 (.slice A n c) n (cellsP l)
def PreP (l F : List Pt) : Prop := ∃ m, l ++ m = F
theorem PreP.all (l : List Pt) : PreP l l := ⟨[], List.append_nil l⟩
theorem PreP.fst (l m : List Pt) : PreP l (l ++ m) := ⟨m, rfl⟩
theorem PreP.at_ {l F : List Pt} (h : PreP l F) : ∀ (i : Nat) u, (cellsP l)[i]? = some u → (cellsP F)[i]? = some u := fun i u hu => by
  obtain ⟨m, rfl⟩ := h
  rw [cellsP_append, List.getElem?_append_left (List.getElem?_eq_some_iff.1 hu).1]; exact hu
theorem own_form {base n : Nat} {l : List Pt} {v : Value} {w : World} (hn : l.length = n) (h : w.ownsRow base 41 2 v n (cellsP l)) : JP base n l v w := by
  subst hn
  obtain ⟨A, c, e, hp, _⟩ := OwnPts.form (show OwnPts base w v l from h)
  subst e
  exact ⟨A, c, rfl, hp, h⟩
section
variable {B k0 : Nat} {w w' : World}
theorem AP.rf {base n : Nat} {l F : List Pt} {v : Value} (hp : PreP l F) (hR : RF B 41 k0 (cellsP F) w w') (h : AP base n l v w) : AP base n l v w' := by
  obtain ⟨u, e, h, h'⟩ := h; exact ⟨u, e, owns_rf hp.at_ hR h, h'⟩
theorem JP.rf {base n : Nat} {l F : List Pt} {v : Value} (hn : l.length = n) (hp : PreP l F) (hR : RF B 41 k0 (cellsP F) w w') (h : JP base n l v w) : JP base n l v w' := by
  obtain ⟨A, c, e, _, h⟩ := h
  subst e
  exact own_form hn (owns_rf hp.at_ hR h)
theorem IsPts.newsP {A : Option Addr} {n : Nat} {l : List Pt} (h : IsPts w A n l) : 0 < n → ∃ ad, A = some ad ∧ ∀ j u, (cellsP l)[j]? = some u → w.cell? (ad.add j) = some u := fun hn => by
  obtain ⟨b, o, e, hp⟩ := h.2 hn
  exact ⟨_, e, hp.news⟩
end

end Go.Proofs.Ytmojbcnldipdgaa
