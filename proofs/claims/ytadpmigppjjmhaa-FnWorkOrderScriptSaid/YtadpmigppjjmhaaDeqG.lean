/-
  A queue that is written into the result's block.
-/
import Derived.Test.YtadpmigppjjmhaaRegG
import Derived.Test.YtadpmigppjjmhaaDeqT
namespace Go.Proofs.Ytadpmigppjjmhaa
open Go.RowKit Pl

set_option linter.unusedSimpArgs false
set_option linter.unusedVariables false

theorem arr3 {cs : Array Value} (h : cs.size = 3) : ∃ a b c, cs = #[a, b, c] := by
  obtain ⟨l⟩ := cs
  match l, h with
  | [a, b, c], _ => exact ⟨a, b, c, rfl⟩
theorem IsI.below' {w w' : World} {A : Option Addr} {n : Nat} {l : List Int} {r : Nat} (h : IsI w A n l) (hg : w.grownBy w' (some r)) (hs : ∀ a, A = some a → a.block ≠ r) : IsI w' A n l :=
  ⟨h.1, fun hn => by
    obtain ⟨b, o, rfl, hb, hc⟩ := h.2 hn
    have hblk := hg.block b hb (by simpa using hs _ rfl)
    exact ⟨b, o, rfl, Nat.lt_of_lt_of_le hb hg.size, fun i u hu => (World.cell?_of_block (a := ⟨b, _, .none⟩) hblk).trans (hc i u hu)⟩⟩
/-- The cells of a queue whose slots hold l. -/
def HQ (base : Nat) (l : List Int) (t b : Int) (cs : Array Value) (w : World) : Prop := ∃ A c, cs = #[.slice A 16 c, .int .i64 t, .int .i64 b] ∧ OwnJ base w (.slice A 16 c) l
theorem HQ.grown {base r : Nat} {l : List Int} {t b : Int} (hr : r < base) : ∀ cs (w w' : World), w.grownBy w' (some r) → HQ base l t b cs w → HQ base l t b cs w' := fun cs w w' hg ⟨A, c, e, h⟩ => ⟨A, c, e, OwnW.other h hg (fun g e => by cases e; exact hr)⟩
theorem HQ.store {base r : Nat} {l : List Int} {t b : Int} {A : Option Addr} {c : Nat} {w : World} {x0 x1 x2 : Value} (hr : r < base) (h : w.heap[r]? = some (.cells #[x0, x1, x2] 56 (0, 0))) (ho : OwnJ base w (.slice A 16 c) l) :
    Good r 56 3 (HQ base l t b) (((w.setCell ⟨r, 0, none⟩ (.slice A 16 c)).setCell ⟨r, 1, none⟩ (.int .i64 t)).setCell ⟨r, 2, none⟩ (.int .i64 b)) := by
  refine ⟨#[.slice A 16 c, .int .i64 t, .int .i64 b], blk_set3 h _ _ _, rfl, A, c, rfl, ho.heap (fun g hg => ?_)⟩
  have e0 : w.heap[g]? = w.heap[g]? := rfl
  have e1 := blk_far e0 (p := ⟨r, 0, none⟩) (.slice A 16 c) (by simp; omega)
  have e2 := blk_far e1 (p := ⟨r, 1, none⟩) (.int .i64 t) (by simp; omega)
  exact blk_far e2 (p := ⟨r, 2, none⟩) (.int .i64 b) (by simp; omega)
theorem RG.sto {r : Nat} {T : TypeId} {H : Array Value → World → Prop} {w : World} {x y z : Value} (h : Good r T 3 H (((w.setCell ⟨r, 0, none⟩ x).setCell ⟨r, 1, none⟩ y).setCell ⟨r, 2, none⟩ z)) : RG r T 3 H w (((w.setCell ⟨r, 0, none⟩ x).setCell ⟨r, 1, none⟩ y).setCell ⟨r, 2, none⟩ z) := by
  have e0 : w.grownBy w (some r) := World.grownBy.refl _ _
  have e1 := only_setCell e0 (p := ⟨r, 0, none⟩) (.inl rfl) x
  have e2 := only_setCell e1 (p := ⟨r, 1, none⟩) (.inl rfl) y
  have e3 := only_setCell e2 (p := ⟨r, 2, none⟩) (.inl rfl) z
  exact And.intro e3 (.inr h)
/-- A queue as a value. -/
def AgQ (base : Nat) (l : List Int) (t b : Int) (v : Value) (w : World) : Prop := ∃ A c, v = .agg #[.slice A 16 c, .int .i64 t, .int .i64 b] ∧ OwnJ base w (.slice A 16 c) l
theorem AgQ.grown {base r : Nat} {l : List Int} {t b : Int} {v : Value} {w w' : World} (hr : r < base) (hg : w.grownBy w' (some r)) (h : AgQ base l t b v w) : AgQ base l t b v w' := by
  obtain ⟨A, c, e, h⟩ := h; exact ⟨A, c, e, OwnW.other h hg (fun g e => by cases e; exact hr)⟩
theorem SlJ.grown {base r : Nat} {l : List Int} {v : Value} {w w' : World} (hr : r < base) (hg : w.grownBy w' (some r)) (h : SlJ base l v w) : SlJ base l v w' := by
  obtain ⟨A, c, e, h⟩ := h; exact ⟨A, c, e, OwnW.other h hg (fun g e => by cases e; exact hr)⟩

end Go.Proofs.Ytadpmigppjjmhaa
