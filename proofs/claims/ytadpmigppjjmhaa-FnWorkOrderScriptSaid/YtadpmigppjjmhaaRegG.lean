/-
  A region that draws its order, and writes one block that nobody reads in it: early or late.
-/
import Derived.Test.YtadpmigppjjmhaaRegQ
import Derived.Test.YtadpmigppjjmhaaVals
namespace Go.Proofs.Ytadpmigppjjmhaa
open Go.RowKit

set_option linter.unusedSimpArgs false
set_option linter.unusedVariables false

/-- The block is written as it should be. -/
def Good (r : Nat) (T : TypeId) (m : Nat) (H : Array Value → World → Prop) (w : World) : Prop := ∃ cs, w.heap[r]? = some (.cells cs T (0, 0)) ∧ cs.size = m ∧ H cs w
/-- Nothing is turned but the block, and the block as it should be. -/
def RG (r : Nat) (T : TypeId) (m : Nat) (H : Array Value → World → Prop) (w w' : World) : Prop := w.grownBy w' (some r) ∧ (w'.heap[r]? = w.heap[r]? ∨ Good r T m H w')
def Has0 (r : Nat) (T : TypeId) (m : Nat) (w : World) : Prop := ∃ cs, w.heap[r]? = some (.cells cs T (0, 0)) ∧ cs.size = m
theorem Good.has {r : Nat} {T : TypeId} {m : Nat} {H : Array Value → World → Prop} {w : World} (h : Good r T m H w) : Has0 r T m w := by
  obtain ⟨cs, h1, h2, _⟩ := h; exact ⟨cs, h1, h2⟩
theorem grown_of_below {w w' : World} (h : Below w.heap.size w w') (row : Option Nat) : w.grownBy w' row := ⟨h.os, h.tape, h.output, h.size, fun k hk _ => h.block k hk⟩
theorem RG.of {r : Nat} {T : TypeId} {m : Nat} {H : Array Value → World → Prop} {w w' : World} (h : Below w.heap.size w w') (hr : Has0 r T m w) : RG r T m H w w' := by
  obtain ⟨cs, h1, _⟩ := hr
  exact ⟨grown_of_below h _, .inl (h.block r (blk_lt h1))⟩
theorem grown_trans {a b c : World} {r : Nat} (h : a.grownBy b (some r)) (k : b.grownBy c (some r)) : a.grownBy c (some r) := World.grownBy.trans h k

section
variable {P : Program} {ops : Array Oper} {Q : Exit → Act → World → Prop}

def OblsS (P : Program) (ops : Array Oper) (Q : Exit → Act → World → Prop) (F : (Nat → Value) → Act) (S : List RS) (r : Nat) (T : TypeId) (m : Nat) (H : Array Value → World → Prop) (w0 : World) : List Oper → List RS → Prop
  | o :: l, s :: rs => (∀ (v : Nat → Value) (w : World) (K : Act → World → Prop), w0.grownBy w (some r) → Has0 r T m w → Facts S v w s.use →
        (∀ u w', s.post u w' → RG r T m H w w' → K ((F v).put o.dst u) w') →
        if Region.wanted o (yielded ops (F v).tmps) then o.wp P (F v) w K Q else K ((F v).put o.dst undef) w) ∧ OblsS P ops Q F S r T m H w0 l rs
  | _, _ => True

theorem oblS_of {F : (Nat → Value) → Act} {S : List RS} {r : Nat} {T : TypeId} {m : Nat} {H : Array Value → World → Prop} {w0 : World} {N : Nat} :
    ∀ {l : List Oper} {rs : List RS}, OblsS P ops Q F S r T m H w0 l rs → RegObl P N ops (fun _ w => w0.grownBy w (some r) ∧ Has0 r T m w) (RG r T m H) Q F S l rs
  | [], _, _ => by simp [RegObl]
  | _ :: _, [], _ => by simp [RegObl]
  | _ :: _, _ :: _, h => ⟨fun v _ w K _ hC hF hK => h.1 v w K hC.1 hC.2 hF fun u w' hp hR => hK u w' hp hR ⟨grown_trans hC.1 hR.1, by
      rcases hR.2 with e | e
      · obtain ⟨cs, h1, h2⟩ := hC.2; exact ⟨cs, e.trans h1, h2⟩
      · exact e.has⟩, oblS_of h.2⟩

theorem st_good {use : List Nat} {r : Nat} {T : TypeId} {m : Nat} {H : Array Value → World → Prop} {S : List RS} (hH : ∀ cs w w', w.grownBy w' (some r) → H cs w → H cs w') (h : Stable (RG r T m H) S) : Stable (RG r T m H) (RS.q use (fun _ w => Good r T m H w) :: S) :=
  ⟨fun _ w w' hR hg => by
    rcases hR.2 with e | e
    · obtain ⟨cs, h1, h2, h3⟩ := hg; exact ⟨cs, e.trans h1, h2, hH _ _ _ hR.1 h3⟩
    · exact e, h⟩

theorem wp_region_sto {id : Nat} {a0 : Act} {w0 : World} {l : List Oper} (r : Nat) (T : TypeId) (m : Nat) (H : Array Value → World → Prop) (hm : P.follows .mixedOrders = true) (uses : List (List Nat)) (S : List RS) (free : List Nat) (hu : S.map (·.use) = uses)
    (hsel : Region.noSelect l.toArray = true) (hQ : free ≠ [] → ∀ c a d v w, Q (.panic c) (Act.put a d v) w → Q (.panic c) a w)
    (hc : regCheck l uses free = true) (htk : takeOk l.toArray free (Array.replicate l.length false) = true) (hst : Stable (RG r T m H) S)
    (F : (Nat → Value) → Act) (hF : ∀ v, puts a0 (l.take S.length) 0 v = F v)
    (hop : OblsS P l.toArray Q F S r T m H w0 l S) (hfo : FreeOk a0 l S free) (h0 : Has0 r T m w0)
    (hend : ∀ (v : Nat → Value) (w : World), w0.grownBy w (some r) → Facts S v w (List.range S.length) → wpList P l.toArray Q (l.drop S.length) (F v) w) :
    (Code.region id l.toArray true).wp P Q a0 w0 := by
  have e : puts a0 (l.take S.length) 0 = F := funext hF
  exact wp_region_facts hm (fun _ w => w0.grownBy w (some r) ∧ Has0 r T m w) (RG r T m H) S free hsel hQ (by rw [hu]; exact hc) htk hst ⟨⟨rfl, rfl, rfl, Nat.le_refl _, fun _ _ _ => rfl⟩, h0⟩ (by rw [e]; exact oblS_of hop) hfo fun v _ w _ hC hf => by rw [e]; exact hend v w hC.1 hf
end

end Go.Proofs.Ytadpmigppjjmhaa
