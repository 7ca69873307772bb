/-
  Slices of slices of points in memory.
-/
import Derived.Test.YtbiddmimcdmnoaaVals
import Derived.Test.YtbiddmimcdmnoaaSplM
namespace Go.Proofs.Ytbiddmimcdmnoaa
open Go.RowKit Pl

set_option linter.unusedSimpArgs false
set_option linter.unusedVariables false

theorem Below.trans' {B : Nat} {a b c : World} (h : Below B a b) (k : Below B b c) : Below B a c := h.trans k

/-- A slice header that reads as the points r. -/
def IsHd (w : World) (u : Value) (r : List Pt) : Prop := ∃ B c, u = .slice B r.length c ∧ r.length ≤ c ∧ c ≤ maxLen ∧ IsPts w B r.length r
theorem IsHd.below {w w' : World} {u : Value} {r : List Pt} (h : IsHd w u r) (hb : Below w.heap.size w w') : IsHd w' u r := by
  obtain ⟨B, c, e, h1, h2, h3⟩ := h; exact ⟨B, c, e, h1, h2, h3.below hb⟩
/-- The slice of n slices from A on reads as L. -/
def IsRs (w : World) (A : Option Addr) (n : Nat) (L : List (List Pt)) : Prop := ∃ us : List Value, IsVs w A n us ∧ us.length = L.length ∧ ∀ (i : Nat) (r : List Pt), L[i]? = some r → ∃ u, us[i]? = some u ∧ IsHd w u r
theorem IsRs.len {w : World} {A : Option Addr} {n : Nat} {L : List (List Pt)} (h : IsRs w A n L) : L.length = n := by
  obtain ⟨us, h1, h2, _⟩ := h; rw [← h2, h1.1]
theorem IsRs.below {w w' : World} {A : Option Addr} {n : Nat} {L : List (List Pt)} (h : IsRs w A n L) (hb : Below w.heap.size w w') : IsRs w' A n L := by
  obtain ⟨us, h1, h2, h3⟩ := h
  refine ⟨us, h1.below hb, h2, fun i r hr => ?_⟩
  obtain ⟨u, hu, hh⟩ := h3 i r hr
  exact ⟨u, hu, hh.below hb⟩
/-- One ring, read. -/
theorem IsRs.at_ {w : World} {A : Option Addr} {n : Nat} {L : List (List Pt)} (h : IsRs w A n L) {k : Nat} (hk : k < n) :
    ∃ r b o B c, L[k]? = some r ∧ A = some ⟨b, o, none⟩ ∧ b < w.heap.size ∧ w.cell? ⟨b, o + k, none⟩ = some (.slice B r.length c) ∧ r.length ≤ c ∧ c ≤ maxLen ∧ IsPts w B r.length r := by
  have hl := h.len
  obtain ⟨us, h1, h2, h3⟩ := h
  have hkl : k < L.length := by omega
  obtain ⟨u, hu, B, c, rfl, q1, q2, q3⟩ := h3 k _ (List.getElem?_eq_getElem hkl)
  obtain ⟨b, o, e, hb, hc⟩ := h1.at_ hu
  exact ⟨_, b, o, B, c, List.getElem?_eq_getElem hkl, e, hb, hc, q1, q2, q3⟩
theorem IsRs.nil (w : World) (A : Option Addr) : IsRs w A 0 [] := ⟨[], IsVs.nil w A, rfl, fun i r h => by simp at h⟩

/-- Slices that the call has made; each lies apart from the slice that lists them. -/
def OwnRs (base : Nat) (w : World) (v : Value) (L : List (List Pt)) : Prop :=
  ∃ us : List Value, OwnV 27 base w v us ∧ us.length = L.length ∧ ∀ (i : Nat) (r : List Pt), L[i]? = some r → ∃ u, us[i]? = some u ∧ IsHd w u r ∧ (0 < r.length → Sep u.ownBlock v.ownBlock)
theorem OwnRs.nil (base : Nat) (w : World) : OwnRs base w (.slice none 0 0) [] := ⟨[], OwnV.nil _ _ _, rfl, fun i r h => by simp at h⟩
theorem OwnRs.empty {base g : Nat} {w : World} {T : TypeId} (hT : T = 27) (hb : base ≤ g) (h : w.heap[g]? = some (.cells #[] T (0, 0))) : OwnRs base w (.slice (some ⟨g, 0, none⟩) 0 0) [] := by
  subst hT; exact ⟨[], OwnV.empty hb h, rfl, fun i r h => by simp at h⟩
theorem OwnRs.below {base : Nat} {w w' : World} {v : Value} {L : List (List Pt)} (h : OwnRs base w v L) (hb : Below w.heap.size w w') : OwnRs base w' v L := by
  obtain ⟨us, h1, h2, h3⟩ := h
  refine ⟨us, h1.below hb, h2, fun i r hr => ?_⟩
  obtain ⟨u, hu, hh, hs⟩ := h3 i r hr
  exact ⟨u, hu, hh.below hb, hs⟩
theorem OwnRs.lower {base base' : Nat} {w : World} {v : Value} {L : List (List Pt)} (h : OwnRs base w v L) (hb : base' ≤ base) : OwnRs base' w v L := by
  obtain ⟨us, h1, h2⟩ := h; exact ⟨us, h1.lower hb, h2⟩
theorem OwnRs.form {base : Nat} {w : World} {v : Value} {L : List (List Pt)} (h : OwnRs base w v L) : ∃ A c, v = .slice A L.length c ∧ L.length ≤ c ∧ c ≤ maxLen ∧ IsRs w A L.length L ∧ (∀ a, A = some a → base ≤ a.block) := by
  obtain ⟨us, h1, h2, h3⟩ := h
  obtain ⟨A, c, e, q1, q2, q3, q4⟩ := h1.weak.form
  rw [h2] at e q1 q3
  refine ⟨A, c, e, q1, q2, ⟨us, q3, h2, fun i r hr => ?_⟩, q4⟩
  obtain ⟨u, hu, hh, _⟩ := h3 i r hr
  exact ⟨u, hu, hh⟩
theorem OwnRs.row {base : Nat} {w : World} {v : Value} {L : List (List Pt)} (h : OwnRs base w v L) : ∀ g, v.ownBlock = some g → base ≤ g ∧ g < w.heap.size := by
  obtain ⟨us, h1, _⟩ := h; exact h1.row
theorem IsHd.grown {w w' : World} {u : Value} {r : List Pt} {row : Option Nat} (h : IsHd w u r) (hg : w.grownBy w' row) (hs : 0 < r.length → Sep u.ownBlock row) : IsHd w' u r := by
  obtain ⟨B, c, rfl, h1, h2, h3⟩ := h
  refine ⟨B, c, rfl, h1, h2, ?_⟩
  rcases Nat.eq_zero_or_pos r.length with hz | hz
  · rw [List.length_eq_zero_iff.1 hz]; exact IsPts.nil _ _
  · exact h3.grown hg (by have := hs hz; rwa [blkA_own] at this)
theorem ring_info : (Try.prog.info? 27).map (fun i => (i.zero, i.size, i.bytes)) = some (some (.slice none 0 0), 1, 24) := by kernel_rfl
theorem hd_lt {w : World} {u : Value} {r : List Pt} (h : IsHd w u r) (hn : 0 < r.length) : ∀ g, u.ownBlock = some g → g < w.heap.size := by
  obtain ⟨B, c, rfl, _, _, h3⟩ := h
  rw [blkA_own]; exact h3.lt hn

/-- append of one ring whose header has just been written out. -/
theorem append_r {ops : Array Oper} {rest : List Oper} {o : Oper} {a : Act} {Q : Exit → Act → World → Prop} {w : World} (hgd : o.guard = none) (s x : Operand)
    (ho : o.op = .call { callee := .builtin .append, args := #[s, x], argTypes := #[24, 24] })
    (base : Nat) (v : Value) (L : List (List Pt)) (hs : a.eval s = v) (hown : OwnRs base w v L) (g m : Nat) (u : Value) (r : List Pt) (T' : TypeId) (hx : a.eval x = .slice (some ⟨g, 0, none⟩) 1 m)
    (hg : w.heap[g]? = some (.cells #[u] T' (0, 0))) (hu : IsHd w u r) (hsep : 0 < r.length → Sep u.ownBlock v.ownBlock) (hlen : L.length ≤ 900000) (hbase : base ≤ w.heap.size)
    (h : ∀ v' w', OwnRs base w' v' (L ++ [r]) → w.grownBy w' v.ownBlock → (v'.ownBlock = v.ownBlock ∨ v'.ownBlock = some w.heap.size) → wpList Try.prog ops Q rest (a.put o.dst v') w') : wpList Try.prog ops Q (o :: rest) a w := by
  obtain ⟨us, h1, h2, h3⟩ := hown
  have h1u : u.oneCell' = true := by obtain ⟨B, c, rfl, _⟩ := hu; rfl
  refine append_v hgd s x 27 24 _ 24 Try.underlying24 ring_info rfl (by omega) ho base v us hs h1 ⟨g, 0, none⟩ 1 m [u] hx rfl
    (fun j u' hu' => ?_) (fun u' hu' => by rw [List.mem_singleton.1 hu']; exact h1u) (by omega) hbase ?_
  · match j, hu' with
    | 0, hu' => rw [add_off, Nat.add_zero, blk_cell hg]; exact hu'
  intro v' w' k1 k2 k3
  refine h v' w' ⟨us ++ [u], k1, by simp [h2], fun i r' hr' => ?_⟩ k2 k3
  rcases Nat.lt_or_ge i L.length with hi | hi
  · rw [List.getElem?_append_left hi] at hr'
    obtain ⟨u', hu', hh, hs'⟩ := h3 i r' hr'
    exact ⟨u', by rw [List.getElem?_append_left (by omega)]; exact hu', hh.grown k2 hs', fun hn => (hs' hn).app k3 (fun g hg => hd_lt hh hn g hg)⟩
  · rw [List.getElem?_append_right hi] at hr'
    have e : i - L.length = 0 := by
      rcases Nat.eq_zero_or_pos (i - L.length) with h0 | h0
      · exact h0
      · simp [show i - L.length ≠ 0 by omega] at hr'
    rw [e] at hr'
    simp at hr'; subst hr'
    exact ⟨u, by rw [List.getElem?_append_right (by omega), h2, e]; rfl, hu.grown k2 hsep, fun hn => (hsep hn).app k3 (fun g hg => hd_lt hu hn g hg)⟩

end Go.Proofs.Ytbiddmimcdmnoaa
