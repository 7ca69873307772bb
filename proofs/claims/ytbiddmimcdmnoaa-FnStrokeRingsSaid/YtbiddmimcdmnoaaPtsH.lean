/-
  Points appended; points moved, of the reference; points compared.
-/
import Derived.Test.YtbiddmimcdmnoaaPtsG
namespace Go.Proofs.Ytbiddmimcdmnoaa
open Go.RowKit Pl

set_option linter.unusedSimpArgs false
set_option linter.unusedVariables false

theorem news_blk {w : World} {g : Nat} {cs : Array Value} {T : TypeId} (h : w.heap[g]? = some (.cells cs T (0, 0))) : ∀ j u, cs.toList[j]? = some u → w.cell? ((⟨g, 0, none⟩ : Addr).add j) = some u := fun j u hu => by
  have hadd : (⟨g, 0, none⟩ : Addr).add j = ⟨g, j, none⟩ := by by_cases h : j = 0 <;> simp [Addr.add, h]
  rw [hadd, blk_cell h, ← hu, Array.getElem?_toList]

/-- append of one point that has just been written out. -/
theorem append_pts {ops : Array Oper} {rest : List Oper} {o : Oper} {a : Act} {Q : Exit → Act → World → Prop} {w : World} (hgd : o.guard = none) (s x : Operand)
    (ho : o.op = .call { callee := .builtin .append, args := #[s, x], argTypes := #[27, 27] })
    (base : Nat) (v : Value) (l : List Pt) (hs : a.eval s = v) (hown : OwnPts base w v l) (g m : Nat) (px py : Int) (T' : TypeId) (hx : a.eval x = .slice (some ⟨g, 0, none⟩) 1 m)
    (hg : w.heap[g]? = some (.cells #[.int .i64 px, .int .i64 py] T' (0, 0))) (hlen : l.length ≤ 1000000) (hbase : base ≤ w.heap.size)
    (h : ∀ v' w', OwnPts base w' v' (l ++ [(px, py)]) → w.grownBy w' v.ownBlock → wpList Try.prog ops Q rest (a.put o.dst v') w') : wpList Try.prog ops Q (o :: rest) a w := by
  obtain ⟨i0, hi0, hz0, hz1, hz2⟩ := info_parts pt_info
  refine wpList_append_own w hgd s x _ ho base 38 i0 _ 2 16 Try.underlying27 hi0 hz0 hz1 hz2 rfl (by omega) v l.length (cellsP l) hs hown ⟨g, 0, none⟩ 1 m [.int .i64 px, .int .i64 py] hx rfl (news_blk hg)
    (fun u hu => by simp only [List.mem_cons, List.not_mem_nil, or_false] at hu; rcases hu with rfl | rfl <;> rfl) (by unfold maxLen; omega) (by omega) hbase ?_
  intro v' w' h1 h2 _
  refine h v' w' ?_ h2
  have e : cellsP (l ++ [(px, py)]) = cellsP l ++ [.int .i64 px, .int .i64 py] := by rw [cellsP_append]; rfl
  unfold OwnPts
  rw [e, List.length_append]
  exact h1

theorem movedL_take {l : List Pt} {x y : Int} {k : Nat} (hk : k < l.length) : (movedL l x y).take (k + 1) = (movedL l x y).take k ++ [(px l k + x, py l k + y)] := by
  have hk' : k < (movedL l x y).length := by rw [movedL_len]; exact hk
  rw [List.take_succ_eq_append_getElem hk']
  have := movedL_at l x y hk
  congr 2
  have e : (movedL l x y)[k] = (px (movedL l x y) k, py (movedL l x y) k) := by simp [px, py, hk']
  rw [e, this.1, this.2]

end Go.Proofs.Ytbiddmimcdmnoaa
