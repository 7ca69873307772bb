/-
  Slices of numbers in memory.
-/
import Derived.Test.YtadpmigppjjmhaaVals
namespace Go.Proofs.Ytadpmigppjjmhaa
open Go.RowKit Pl

set_option linter.unusedSimpArgs false
set_option linter.unusedVariables false

/-- Number i of a list. -/
def nt (l : List Int) (i : Nat) : Int := l.getD i 0
theorem nt_eq {l : List Int} {i : Nat} (h : i < l.length) : nt l i = l[i] := by simp [nt, h]
/-- Numbers as values. -/
def iv (l : List Int) : List Value := l.map (Value.int .i64)
theorem iv_len (l : List Int) : (iv l).length = l.length := by simp [iv]
theorem iv_at {l : List Int} {i : Nat} (h : i < l.length) : (iv l)[i]? = some (.int .i64 (nt l i)) := by simp [iv, nt, h]
theorem iv_append (l m : List Int) : iv (l ++ m) = iv l ++ iv m := by simp [iv]
theorem iv_one {l : List Int} : ∀ u ∈ iv l, u.oneCell' = true := fun u hu => by
  obtain ⟨p, _, rfl⟩ := List.mem_map.1 hu; rfl
def IsI (w : World) (A : Option Addr) (n : Nat) (l : List Int) : Prop := IsVs w A n (iv l)
theorem IsI.len {w : World} {A : Option Addr} {n : Nat} {l : List Int} (h : IsI w A n l) : l.length = n := by have := h.1; rwa [iv_len] at this
theorem IsI.below {w w' : World} {A : Option Addr} {n : Nat} {l : List Int} (h : IsI w A n l) (hb : Below w.heap.size w w') : IsI w' A n l := IsVs.below h hb
theorem IsI.nil (w : World) (A : Option Addr) : IsI w A 0 [] := IsVs.nil w A
theorem IsI.at_ {w : World} {A : Option Addr} {n : Nat} {l : List Int} (h : IsI w A n l) {k : Nat} (hk : k < n) :
    ∃ b o, A = some ⟨b, o, none⟩ ∧ b < w.heap.size ∧ w.cell? ⟨b, o + k, none⟩ = some (.int .i64 (nt l k)) := IsVs.at_ h (iv_at (by rw [h.len]; exact hk))
def OwnI (base : Nat) (w : World) (v : Value) (l : List Int) : Prop := OwnV 3 base w v (iv l)
def OwnJ (base : Nat) (w : World) (v : Value) (l : List Int) : Prop := OwnW 3 base w v (iv l)
theorem OwnI.weak {base : Nat} {w : World} {v : Value} {l : List Int} (h : OwnI base w v l) : OwnJ base w v l := OwnV.weak h
theorem OwnJ.form {base : Nat} {w : World} {v : Value} {l : List Int} (h : OwnJ base w v l) : ∃ A c, v = .slice A l.length c ∧ l.length ≤ c ∧ c ≤ maxLen ∧ IsI w A l.length l ∧ (∀ a, A = some a → base ≤ a.block) := by
  have := OwnW.form h
  rwa [iv_len] at this
theorem OwnJ.clip {base : Nat} {w : World} {A : Option Addr} {n c : Nat} {l : List Int} (h : OwnJ base w (.slice A n c) l) : n = l.length ∧ OwnJ base w (.slice A n n) l ∧ n ≤ c ∧ c ≤ maxLen := by
  have := OwnW.clip h
  rwa [iv_len] at this
theorem OwnJ.isI {base : Nat} {w : World} {A : Option Addr} {n c : Nat} {l : List Int} (h : OwnJ base w (.slice A n c) l) : IsI w A n l := OwnW.isV h
theorem OwnJ.below {base : Nat} {w w' : World} {v : Value} {l : List Int} (h : OwnJ base w v l) (hb : Below w.heap.size w w') : OwnJ base w' v l := OwnW.below h hb
theorem OwnI.below {base : Nat} {w w' : World} {v : Value} {l : List Int} (h : OwnI base w v l) (hb : Below w.heap.size w w') : OwnI base w' v l := OwnV.below h hb
theorem OwnJ.lower {base base' : Nat} {w : World} {v : Value} {l : List Int} (h : OwnJ base w v l) (hb : base' ≤ base) : OwnJ base' w v l := OwnW.lower h hb
theorem OwnI.lower {base base' : Nat} {w : World} {v : Value} {l : List Int} (h : OwnI base w v l) (hb : base' ≤ base) : OwnI base' w v l := OwnV.lower h hb
theorem OwnI.alloc {base : Nat} {w : World} {v : Value} {l : List Int} (h : OwnI base w v l) (o : Obj) : OwnI base (w.alloc o) v l := OwnV.alloc h o
theorem OwnJ.nil (base : Nat) (w : World) : OwnJ base w (.slice none 0 0) [] := OwnW.nil _ _ _
theorem OwnI.nil (base : Nat) (w : World) : OwnI base w (.slice none 0 0) [] := OwnV.nil _ _ _
theorem OwnI.empty {base g : Nat} {w : World} {T : TypeId} (hT : T = 3) (hb : base ≤ g) (h : w.heap[g]? = some (.cells #[] T (0, 0))) : OwnI base w (.slice (some ⟨g, 0, none⟩) 0 0) [] := by
  subst hT; exact OwnV.empty hb h
theorem OwnI.row {base : Nat} {w : World} {v : Value} {l : List Int} (h : OwnI base w v l) : ∀ g, v.ownBlock = some g → base ≤ g ∧ g < w.heap.size := OwnV.row h
/-- Numbers that come back, in memory of the call's own. -/
def RetJ (l : List Int) (w : World) (e : Ending) (w' : World) : Prop := ∃ v, e = .returned v ∧ OwnJ w.heap.size w' v l ∧ Below w.heap.size w w'
theorem int_info : (Try.prog.info? 3).map (fun i => (i.zero, i.size, i.bytes)) = some (some (.int .i64 0), 1, 8) := by kernel_rfl

/-- append of numbers that lie in memory. -/
theorem append_is {ops : Array Oper} {rest : List Oper} {o : Oper} {a : Act} {Q : Exit → Act → World → Prop} {w : World} (hgd : o.guard = none) (s x : Operand)
    (ho : o.op = .call { callee := .builtin .append, args := #[s, x], argTypes := #[39, 39] })
    (base : Nat) (v : Value) (l : List Int) (hs : a.eval s = v) (hown : OwnI base w v l) (ad : Addr) (n c : Nat) (m : List Int) (hx : a.eval x = .slice (some ad) n c) (hnews : IsI w (some ad) n m) (hlen : l.length + m.length ≤ 1000000) (hbase : base ≤ w.heap.size)
    (h : ∀ v' w', OwnI base w' v' (l ++ m) → w.grownBy w' v.ownBlock → (v'.ownBlock = v.ownBlock ∨ v'.ownBlock = some w.heap.size) → wpList Try.prog ops Q rest (a.put o.dst v') w') : wpList Try.prog ops Q (o :: rest) a w := by
  refine append_v hgd s x 3 39 _ 8 Try.underlying39 int_info rfl (by omega) ho base v (iv l) hs hown ad n c (iv m) hx hnews.1 (IsVs.news hnews) iv_one (by rw [iv_len, ← hnews.len]; exact hlen) hbase ?_
  intro v' w' h1 h2 h3
  refine h v' w' ?_ h2 h3
  unfold OwnI
  rw [iv_append]; exact h1
/-- append of one number that has just been written out. -/
theorem append_i {ops : Array Oper} {rest : List Oper} {o : Oper} {a : Act} {Q : Exit → Act → World → Prop} {w : World} (hgd : o.guard = none) (s x : Operand)
    (ho : o.op = .call { callee := .builtin .append, args := #[s, x], argTypes := #[39, 39] })
    (base : Nat) (v : Value) (l : List Int) (hs : a.eval s = v) (hown : OwnI base w v l) (g m : Nat) (i : Int) (T' : TypeId) (hx : a.eval x = .slice (some ⟨g, 0, none⟩) 1 m)
    (hg : w.heap[g]? = some (.cells #[.int .i64 i] T' (0, 0))) (hlen : l.length ≤ 900000) (hbase : base ≤ w.heap.size)
    (h : ∀ v' w', OwnI base w' v' (l ++ [i]) → w.grownBy w' v.ownBlock → (v'.ownBlock = v.ownBlock ∨ v'.ownBlock = some w.heap.size) → wpList Try.prog ops Q rest (a.put o.dst v') w') : wpList Try.prog ops Q (o :: rest) a w := by
  refine append_is hgd s x ho base v l hs hown ⟨g, 0, none⟩ 1 m [i] hx ⟨rfl, fun _ => ⟨g, 0, rfl, blk_lt hg, fun k u hu => ?_⟩⟩ (by simp; omega) hbase h
  match k, hu with
  | 0, hu => rw [blk_cell hg]; exact hu

end Go.Proofs.Ytadpmigppjjmhaa
