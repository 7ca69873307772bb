/-
  Lists of numbers in regions that append.
-/
import Derived.Test.YtclfocdghbmmlaaReg3
import Derived.Test.YtclfocdghbmmlaaInts
namespace Go.Proofs.Ytclfocdghbmmlaa
open Go.RowKit Pl

set_option linter.unusedSimpArgs false
set_option linter.unusedVariables false

/-- A list that a call has returned. -/
def JQ (base n : Nat) (l : List Int) (v : Value) (w : World) : Prop := ∃ A c, v = .slice A n c ∧ OwnJ base w (.slice A n c) l
/-- A list that is still to be appended to. -/
def AQ (base n : Nat) (l : List Int) (v : Value) (w : World) : Prop := ∃ u, v = u ∧ w.ownsRow base 3 1 u n (iv l) ∧ (n = 0 → ∃ g, u = .slice (some ⟨g, 0, none⟩) 0 0)
def Pre (l F : List Int) : Prop := ∃ m, l ++ m = F
theorem Pre.all (l : List Int) : Pre l l := ⟨[], List.append_nil l⟩
theorem Pre.fst (l m : List Int) : Pre l (l ++ m) := ⟨m, rfl⟩
theorem Pre.at_ {l F : List Int} (h : Pre l F) : ∀ (i : Nat) u, (iv l)[i]? = some u → (iv F)[i]? = some u := fun i u hu => by
  obtain ⟨m, rfl⟩ := h
  rw [iv_append, List.getElem?_append_left (List.getElem?_eq_some_iff.1 hu).1]; exact hu
section
variable {B k0 : Nat} {w w' : World}
theorem JQ.rf {base n : Nat} {l F : List Int} {v : Value} (hp : Pre l F) (hR : RF B 3 k0 (iv F) w w') (h : JQ base n l v w) : JQ base n l v w' := by
  obtain ⟨A, c, e, h⟩ := h; exact ⟨A, c, e, ownW_rf hp.at_ hR h⟩
theorem AQ.rf {base n : Nat} {l F : List Int} {v : Value} (hp : Pre l F) (hR : RF B 3 k0 (iv F) w w') (h : AQ base n l v w) : AQ base n l v w' := by
  obtain ⟨u, e, h, h'⟩ := h; exact ⟨u, e, owns_rf hp.at_ hR h, h'⟩
theorem JQ.below {base n : Nat} {l : List Int} {v : Value} (hR : Ext w w') (h : JQ base n l v w) : JQ base n l v w' := by
  obtain ⟨A, c, e, h⟩ := h; exact ⟨A, c, e, OwnW.below h hR⟩
theorem JQ.of {base base' n : Nat} {l : List Int} {v : Value} (hb : base' ≤ base) (hn : l.length = n) (h : OwnJ base w v l) : JQ base' n l v w := by
  obtain ⟨A, c, e, r⟩ := h.form
  subst e; subst hn
  exact ⟨A, c, rfl, h.lower hb⟩
theorem JQ.own {base n : Nat} {l : List Int} {v : Value} (hn : l.length = n) (h : w.ownsRow base 3 1 v n (iv l)) : JQ base n l v w := by
  refine JQ.of (Nat.le_refl _) hn (OwnI.weak ?_)
  unfold OwnI OwnV
  rw [iv_len, hn]; exact h
theorem OwnJ.newsI {base : Nat} {A : Option Addr} {n c : Nat} {l : List Int} (h : OwnJ base w (.slice A n c) l) : n = l.length ∧ (0 < n → ∃ ad, A = some ad ∧ ∀ j u, (iv l)[j]? = some u → w.cell? (ad.add j) = some u) := by
  obtain ⟨A', c', e, _, _, hi, _⟩ := h.form
  cases e
  refine ⟨rfl, fun hn => ?_⟩
  obtain ⟨b, o, e, _⟩ := hi.2 (by exact hn)
  subst e
  exact ⟨_, rfl, IsVs.news hi⟩
/-- A list of one number that has just been written out. -/
theorem isSl_own {base : Nat} {x : Int} {v : Value} (h : IsSl base #[.int .i64 x] 3 1 v w) : w.ownsRow base 3 1 v 1 (iv [x]) ∧ ∃ ad, v = .slice (some ad) 1 1 ∧ ∀ j u, (iv [x])[j]? = some u → w.cell? (ad.add j) = some u := by
  obtain ⟨g, e, hb, _, hg⟩ := h
  subst e
  refine ⟨⟨rfl, .inr ⟨g, 1, _, rfl, hb, hg, Nat.le_refl _, by decide, rfl, rfl⟩⟩, ⟨g, 0, none⟩, rfl, fun j u hu => ?_⟩
  rw [add_off, blk_cell hg, Nat.zero_add, ← Array.getElem?_toList]
  exact hu
end

end Go.Proofs.Ytclfocdghbmmlaa
