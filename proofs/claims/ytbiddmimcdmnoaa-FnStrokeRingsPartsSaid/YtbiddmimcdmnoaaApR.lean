/-
  append of whole lists of rings to a list of the call's own.
-/
import Derived.Test.YtbiddmimcdmnoaaRings
namespace Go.Proofs.Ytbiddmimcdmnoaa
open Go.RowKit Pl

set_option linter.unusedSimpArgs false
set_option linter.unusedVariables false

theorem run_append_zero {P : Program} {w : World} (base : Nat) (t ty e : TypeId) (i : TypeInfo) (size : Nat) (ht : P.underlying t = some (.slice e)) (hi : P.info? e = some i)
    (v : Value) (n : Nat) (xs : List Value) (hown : w.ownsRow base e size v n xs) (c : Nat) :
    (Builtin.append_ #[t, t] ty #[v, .slice none 0 c]).run P w = .ok v w := by
  rcases hown.2 with ⟨rfl, rfl⟩ | ⟨g, cap, cur, rfl, _, _, hnc, _⟩
  · simp [Builtin.append_, run_underlying ht, sizeOf, typeInfo, hi, Builtin.lenOf, Builtin.firstCells]
  · simp [Builtin.append_, run_underlying ht, sizeOf, typeInfo, hi, Builtin.lenOf, Builtin.firstCells, hnc, storeCells]

/-- append of values that lie in memory, none of them perhaps, to a list of the call's own; guarded or not. -/
theorem append_all {ops : Array Oper} {rest : List Oper} {o : Oper} {a : Act} {Q : Exit → Act → World → Prop} {w : World} (hgd : Region.wanted o (yielded ops a.tmps) = true) (s x : Operand) (T t : TypeId) (z : Value) (bytes : Nat)
    (ht : Try.prog.underlying t = some (.slice T)) (hi : (Try.prog.info? T).map (fun i => (i.zero, i.size, i.bytes)) = some (some z, 1, bytes)) (hzs : z.cells.size = 1) (hby : bytes ≤ 24)
    (ho : o.op = .call { callee := .builtin .append, args := #[s, x], argTypes := #[t, t] })
    (base : Nat) (v : Value) (us : List Value) (hs : a.eval s = v) (hown : OwnV T base w v us) (A : Option Addr) (m c : Nat) (news : List Value) (hx : a.eval x = .slice A m c)
    (hI : IsVs w A m news) (h1 : ∀ u ∈ news, u.oneCell' = true) (hlen : us.length + m ≤ 1000000) (hbase : base ≤ w.heap.size)
    (h : ∀ v' w', OwnV T base w' v' (us ++ news) → w.grownBy w' v.ownBlock → wpList Try.prog ops Q rest (a.put o.dst v') w') : wpList Try.prog ops Q (o :: rest) a w := by
  obtain ⟨i0, hi0, hz0, hz1, hz2⟩ := info_parts hi
  have hb2 : (us.length + m) * bytes ≤ 1000000 * 24 := Nat.mul_le_mul hlen hby
  have key : ∃ v' w', (Builtin.append_ #[t, t] o.type #[v, .slice A m c]).run Try.prog w = .ok v' w' ∧ OwnV T base w' v' (us ++ news) ∧ w.grownBy w' v.ownBlock := by
    cases A with
    | some ad =>
      obtain ⟨v', w', hr, h2, h3, _⟩ := run_append_own_at (P := Try.prog) w base t o.type T i0 z 1 bytes ht hi0 hz0 hz1 hz2 hzs (by omega) v us.length us hown ad m c news (by rw [hI.1]; omega) hI.news h1 (by unfold maxLen; omega) (by omega) hbase
      refine ⟨v', w', hr, ?_, h3⟩
      unfold OwnV
      rw [List.length_append, hI.1]
      exact h2
    | none =>
      have hm : m = 0 := by
        rcases Nat.eq_zero_or_pos m with h0 | h0
        · exact h0
        · obtain ⟨b, o, e, _⟩ := hI.2 h0; cases e
      subst hm
      obtain rfl : news = [] := List.length_eq_zero_iff.1 hI.1
      exact ⟨v, w, run_append_zero (P := Try.prog) (w := w) base t o.type T i0 1 ht hi0 v us.length us hown c, by rw [List.append_nil]; exact hown, World.grownBy.refl _ _⟩
  obtain ⟨v', w', hr, h2, h3⟩ := key
  refine BigFrame.wpList_want hgd fun K hK => ?_
  unfold Oper.wp execOp
  simp only [ho, resolve, invoke, builtin, Sem.run_bind, Sem.run_pure, Result.andThen_ok, List.map_toArray, List.map_cons, List.map_nil, hs, hx, hr]
  exact hK _ _ (h v' w' h2 h3)

/-- A growing list of rings, which lie below. -/
def OwnRg (base : Nat) (w : World) (v : Value) (L : List (List Pt)) : Prop :=
  ∃ us : List Value, OwnV 27 base w v us ∧ us.length = L.length ∧ ∀ (i : Nat) (r : List Pt), L[i]? = some r → ∃ u, us[i]? = some u ∧ IsHd w u r ∧ (0 < r.length → ∀ g, u.ownBlock = some g → g < base)
theorem OwnRg.empty {base g : Nat} {w : World} {T : TypeId} (hT : T = 27) (hb : base ≤ g) (h : w.heap[g]? = some (.cells #[] T (0, 0))) : OwnRg base w (.slice (some ⟨g, 0, none⟩) 0 0) [] := by
  subst hT; exact ⟨[], OwnV.empty hb h, rfl, fun i r h => by simp at h⟩
theorem OwnRg.below {base : Nat} {w w' : World} {v : Value} {L : List (List Pt)} (h : OwnRg base w v L) (hb : Below w.heap.size w w') : OwnRg base w' v L := by
  obtain ⟨us, h1, h2, h3⟩ := h
  refine ⟨us, h1.below hb, h2, fun i r hr => ?_⟩
  obtain ⟨u, hu, hh, hs⟩ := h3 i r hr
  exact ⟨u, hu, hh.below hb, hs⟩
theorem OwnRg.row {base : Nat} {w : World} {v : Value} {L : List (List Pt)} (h : OwnRg base w v L) : ∀ g, v.ownBlock = some g → base ≤ g := fun g hg => by
  obtain ⟨us, h1, _⟩ := h; exact (h1.row g hg).1
theorem OwnRg.form {base : Nat} {w : World} {v : Value} {L : List (List Pt)} (h : OwnRg base w v L) : ∃ A c, v = .slice A L.length c ∧ IsRs w A L.length L := by
  obtain ⟨us, h1, h2, h3⟩ := h
  obtain ⟨A, c, e, q1, q2, q3, q4⟩ := h1.weak.form
  rw [h2] at e q1 q3
  refine ⟨A, c, e, ⟨us, q3, h2, fun i r hr => ?_⟩⟩
  obtain ⟨u, hu, hh, _⟩ := h3 i r hr
  exact ⟨u, hu, hh⟩

theorem append_rg {ops : Array Oper} {rest : List Oper} {o : Oper} {a : Act} {Q : Exit → Act → World → Prop} {w : World} (hgd : Region.wanted o (yielded ops a.tmps) = true) (s x : Operand)
    (ho : o.op = .call { callee := .builtin .append, args := #[s, x], argTypes := #[24, 24] })
    (base : Nat) (v : Value) (L : List (List Pt)) (hs : a.eval s = v) (hown : OwnRg base w v L) (A : Option Addr) (m c : Nat) (M : List (List Pt)) (w0 : World) (hx : a.eval x = .slice A m c)
    (hI : IsRs w0 A m M) (hbel : Below w0.heap.size w0 w) (h0 : w0.heap.size ≤ base) (hlen : L.length + m ≤ 1000000) (hbase : base ≤ w.heap.size)
    (h : ∀ v' w', OwnRg base w' v' (L ++ M) → w.grownBy w' v.ownBlock → (∀ g, v.ownBlock = some g → base ≤ g) → wpList Try.prog ops Q rest (a.put o.dst v') w') : wpList Try.prog ops Q (o :: rest) a w := by
  have hrow := hown.row
  obtain ⟨us, h1, h2, h3⟩ := hown
  obtain ⟨vs, k1, k2, k3⟩ := hI
  have hone : ∀ u ∈ vs, u.oneCell' = true := fun u hu => by
    obtain ⟨i, hi⟩ := List.mem_iff_getElem?.1 hu
    have hiv : i < vs.length := (List.getElem?_eq_some_iff.1 hi).1
    obtain ⟨u', hu', B, c', rfl, _⟩ := k3 i _ (List.getElem?_eq_getElem (by omega))
    rw [hi] at hu'; cases hu'; rfl
  refine append_all hgd s x 27 24 _ 24 Try.underlying24 ring_info rfl (by omega) ho base v us hs h1 A m c vs hx (k1.below hbel) hone (by omega) hbase ?_
  intro v' w' q1 q2
  refine h v' w' ⟨us ++ vs, q1, by rw [List.length_append, List.length_append, h2, k2], fun i r hr => ?_⟩ q2 hrow
  have hfar : ∀ {u : Value} {r : List Pt}, (0 < r.length → ∀ g, u.ownBlock = some g → g < base) → 0 < r.length → Sep u.ownBlock v.ownBlock := fun hu hn => Sep.far (hu hn) hrow
  rcases Nat.lt_or_ge i L.length with hi | hi
  · rw [List.getElem?_append_left hi] at hr
    obtain ⟨u, hu, hh, hl⟩ := h3 i r hr
    exact ⟨u, by rw [List.getElem?_append_left (by omega)]; exact hu, hh.grown q2 (hfar hl), hl⟩
  · rw [List.getElem?_append_right hi] at hr
    obtain ⟨u, hu, hh⟩ := k3 _ r hr
    have hl : 0 < r.length → ∀ g, u.ownBlock = some g → g < base := fun hn g hg => Nat.lt_of_lt_of_le (hd_lt hh hn g hg) h0
    exact ⟨u, by rw [List.getElem?_append_right (by omega), h2]; exact hu, (hh.below hbel).grown q2 (hfar hl), hl⟩

end Go.Proofs.Ytbiddmimcdmnoaa
