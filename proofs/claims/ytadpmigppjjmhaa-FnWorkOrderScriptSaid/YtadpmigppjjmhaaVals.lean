/-
  Slices of one-cell values in memory (numbers, slices): as arguments, as results of the call's own.
-/
import Derived.Test.YtadpmigppjjmhaaPts
import Derived.Laws.AppendOwn
import Derived.Laws.OwnMore
import Derived.Maps.AppendAt
import Derived.OwnWalk
namespace Go.Proofs.Ytadpmigppjjmhaa
open Go.RowKit Pl

set_option linter.unusedSimpArgs false
set_option linter.unusedVariables false

theorem below_own {B : Nat} {a w w1 : World} {row : Option Nat} (h2 : w.grownBy w1 row) (h1 : Below B a w) (hB : B ≤ w.heap.size) (hg : ∀ g, row = some g → B ≤ g) : Below B a w1 :=
  ⟨h2.os.trans h1.os, h2.tape.trans h1.tape, h2.output.trans h1.output, Nat.le_trans h1.size h2.size, fun i hi => (h2.block i (by omega) (fun e => by have := hg i e.symm; omega)).trans (h1.block i hi)⟩

theorem add_off (b o j : Nat) : (⟨b, o, none⟩ : Addr).add j = ⟨b, o + j, none⟩ := by by_cases h : j = 0 <;> simp [Addr.add, h]

/-- The slice of n values from A on reads as us. -/
def IsVs (w : World) (A : Option Addr) (n : Nat) (us : List Value) : Prop := us.length = n ∧ (0 < n → ∃ b o, A = some ⟨b, o, none⟩ ∧ b < w.heap.size ∧ ∀ (i : Nat) (u : Value), us[i]? = some u → w.cell? ⟨b, o + i, none⟩ = some u)
theorem IsVs.below {w w' : World} {A : Option Addr} {n : Nat} {us : List Value} (h : IsVs w A n us) (hb : Below w.heap.size w w') : IsVs w' A n us :=
  ⟨h.1, fun hn => by obtain ⟨b, o, e, hl, hc⟩ := h.2 hn; exact ⟨b, o, e, Nat.lt_of_lt_of_le hl hb.size, fun i u hu => (hb.cell (p := ⟨b, _, none⟩) hl).trans (hc i u hu)⟩⟩
theorem IsVs.nil (w : World) (A : Option Addr) : IsVs w A 0 [] := ⟨rfl, fun h => absurd h (Nat.lt_irrefl _)⟩
theorem IsVs.at_ {w : World} {A : Option Addr} {n : Nat} {us : List Value} (h : IsVs w A n us) {k : Nat} {u : Value} (hu : us[k]? = some u) :
    ∃ b o, A = some ⟨b, o, none⟩ ∧ b < w.heap.size ∧ w.cell? ⟨b, o + k, none⟩ = some u := by
  have hk : k < us.length := (List.getElem?_eq_some_iff.1 hu).1
  obtain ⟨b, o, e, hl, hc⟩ := h.2 (by have := h.1; omega)
  exact ⟨b, o, e, hl, hc k u hu⟩
theorem IsVs.news {w : World} {a : Addr} {n : Nat} {us : List Value} (h : IsVs w (some a) n us) : ∀ j u, us[j]? = some u → w.cell? (a.add j) = some u := fun j u hu => by
  obtain ⟨b, o, e, _, hc⟩ := h.at_ hu
  cases e
  rw [add_off]; exact hc

/-- Values that the call has made, at block base or later. -/
def OwnV (T : TypeId) (base : Nat) (w : World) (v : Value) (us : List Value) : Prop := w.ownsRow base T 1 v us.length us
/-- The same; behind them anything may lie. -/
def OwnW (T : TypeId) (base : Nat) (w : World) (v : Value) (us : List Value) : Prop :=
  ∃ A c, v = .slice A us.length c ∧ us.length ≤ c ∧ c ≤ maxLen ∧ (∀ a, A = some a → base ≤ a.block) ∧ (0 < us.length → ∃ g cur, A = some ⟨g, 0, none⟩ ∧ w.heap[g]? = some (.cells cur T (0, 0)) ∧ us.length ≤ cur.size ∧ ∀ (i : Nat) (u : Value), us[i]? = some u → cur[i]? = some u)
section
variable {T : TypeId} {base : Nat} {w w' : World} {v : Value} {us : List Value}
theorem OwnV.weak (h : OwnV T base w v us) : OwnW T base w v us := by
  obtain ⟨hl, h⟩ := h
  rcases h with ⟨rfl, hn⟩ | ⟨g, cap, cur, rfl, hb, hg, hn, hc, hs, ht⟩
  · exact ⟨none, 0, by rw [hn], by omega, by omega, fun a e => (by cases e), fun h => by omega⟩
  · refine ⟨_, cap, rfl, hn, hc, fun a e => by cases e; exact hb, fun _ => ⟨g, cur, rfl, hg, by omega, fun i u hu => ?_⟩⟩
    have hi : i < us.length := (List.getElem?_eq_some_iff.1 hu).1
    rw [← ht, List.getElem?_take, if_pos (by omega), Array.getElem?_toList] at hu
    exact hu
theorem OwnV.nil (T : TypeId) (base : Nat) (w : World) : OwnV T base w (.slice none 0 0) [] := ⟨rfl, .inl ⟨rfl, rfl⟩⟩
theorem OwnV.empty {g : Nat} (hb : base ≤ g) (h : w.heap[g]? = some (.cells #[] T (0, 0))) : OwnV T base w (.slice (some ⟨g, 0, none⟩) 0 0) [] :=
  ⟨rfl, .inr ⟨g, 0, #[], rfl, hb, h, Nat.le_refl _, Nat.zero_le _, rfl, rfl⟩⟩
/-- A list that has just been written out. -/
theorem OwnV.made {g n : Nat} {cur : Array Value} (hb : base ≤ g) (h : w.heap[g]? = some (.cells cur T (0, 0))) (hn : cur.size = n) (hm : n ≤ 1000000) (he : cur.toList = us) : OwnV T base w (.slice (some ⟨g, 0, none⟩) n n) us := by
  subst he
  have e : cur.toList.length = n := by rw [Array.length_toList, hn]
  refine ⟨by omega, .inr ⟨g, n, cur, by rw [e], hb, h, by omega, by unfold maxLen; omega, by omega, ?_⟩⟩
  rw [List.take_of_length_le (by omega)]
theorem OwnV.below (h : OwnV T base w v us) (hb : Below w.heap.size w w') : OwnV T base w' v us := by
  refine ⟨h.1, ?_⟩
  rcases h.2 with h | ⟨g, cap, cur, e, hb', hg, r⟩
  · exact .inl h
  · exact .inr ⟨g, cap, cur, e, hb', blk_below hg hb, r⟩
theorem OwnV.alloc (h : OwnV T base w v us) (o : Obj) : OwnV T base (w.alloc o) v us := h.below ((Below.refl _ _).alloc (Nat.le_refl _) o)
theorem OwnV.lower {base' : Nat} (h : OwnV T base w v us) (hb : base' ≤ base) : OwnV T base' w v us := by
  refine ⟨h.1, ?_⟩
  rcases h.2 with h | ⟨g, cap, cur, e, hb', r⟩
  · exact .inl h
  · exact .inr ⟨g, cap, cur, e, by omega, r⟩
theorem OwnV.row (h : OwnV T base w v us) : ∀ g, v.ownBlock = some g → base ≤ g ∧ g < w.heap.size := fun g hg => by
  rcases h.2 with ⟨rfl, _⟩ | ⟨g', cap, cur, rfl, hb', hg', _⟩
  · cases hg
  · simp only [Value.ownBlock, Option.some.injEq] at hg; subst hg; exact ⟨hb', blk_lt hg'⟩
/-- Another block is turned. -/
theorem OwnV.other {row : Option Nat} (h : OwnV T base w v us) (hg : w.grownBy w' row) (hne : ∀ g, v.ownBlock = some g → row ≠ some g) : OwnV T base w' v us := by
  refine ⟨h.1, ?_⟩
  rcases h.2 with h | ⟨g, cap, cur, e, hb', hgb, r⟩
  · exact .inl h
  · exact .inr ⟨g, cap, cur, e, hb', (hg.block g (blk_lt hgb) (fun e' => hne g (by rw [e]; rfl) e'.symm)).trans hgb, r⟩
theorem OwnW.nil (T : TypeId) (base : Nat) (w : World) : OwnW T base w (.slice none 0 0) [] := (OwnV.nil T base w).weak
theorem OwnW.below (h : OwnW T base w v us) (hb : Below w.heap.size w w') : OwnW T base w' v us := by
  obtain ⟨A, c, e, h1, h2, h3, h4⟩ := h
  exact ⟨A, c, e, h1, h2, h3, fun hn => by obtain ⟨g, cur, e, hg, hh⟩ := h4 hn; exact ⟨g, cur, e, blk_below hg hb, hh⟩⟩
theorem OwnW.lower {base' : Nat} (h : OwnW T base w v us) (hb : base' ≤ base) : OwnW T base' w v us := by
  obtain ⟨A, c, e, h1, h2, h3, h4⟩ := h
  exact ⟨A, c, e, h1, h2, fun a ha => Nat.le_trans hb (h3 a ha), h4⟩
theorem OwnW.form (h : OwnW T base w v us) : ∃ A c, v = .slice A us.length c ∧ us.length ≤ c ∧ c ≤ maxLen ∧ IsVs w A us.length us ∧ (∀ a, A = some a → base ≤ a.block) := by
  obtain ⟨A, c, e, h1, h2, h3, h4⟩ := h
  refine ⟨A, c, e, h1, h2, ⟨rfl, fun hn => ?_⟩, h3⟩
  obtain ⟨g, cur, e, hg, hh, hat⟩ := h4 hn
  exact ⟨g, 0, e, blk_lt hg, fun i u hu => by rw [blk_cell hg, Nat.zero_add]; exact hat i u hu⟩
theorem OwnW.clip {A : Option Addr} {n c : Nat} (h : OwnW T base w (.slice A n c) us) : n = us.length ∧ OwnW T base w (.slice A n n) us ∧ n ≤ c ∧ c ≤ maxLen := by
  obtain ⟨A', c', e, h1, h2, h3, h4⟩ := h
  cases e
  exact ⟨rfl, ⟨A, _, rfl, Nat.le_refl _, by omega, h3, h4⟩, h1, h2⟩
theorem OwnW.isV {A : Option Addr} {n c : Nat} (h : OwnW T base w (.slice A n c) us) : IsVs w A n us := by
  obtain ⟨A', c', e, _, _, h', _⟩ := h.form
  cases e; exact h'
theorem OwnW.other {row : Option Nat} (h : OwnW T base w v us) (hg : w.grownBy w' row) (hne : ∀ g, row = some g → g < base) : OwnW T base w' v us := by
  obtain ⟨A, c, e, h1, h2, h3, h4⟩ := h
  refine ⟨A, c, e, h1, h2, h3, fun hn => ?_⟩
  obtain ⟨g, cur, e', hgb, hh⟩ := h4 hn
  have := h3 _ e'
  exact ⟨g, cur, e', (hg.block g (blk_lt hgb) (fun e => by have := hne g e.symm; simp only at *; omega)).trans hgb, hh⟩
end

/-- append of values that lie in memory, to a list of the call's own. -/
theorem append_v {ops : Array Oper} {rest : List Oper} {o : Oper} {a : Act} {Q : Exit → Act → World → Prop} {w : World} (hgd : o.guard = none) (s x : Operand) (T t : TypeId) (z : Value) (bytes : Nat)
    (ht : Try.prog.underlying t = some (.slice T)) (hi : (Try.prog.info? T).map (fun i => (i.zero, i.size, i.bytes)) = some (some z, 1, bytes)) (hzs : z.cells.size = 1) (hby : bytes ≤ 24)
    (ho : o.op = .call { callee := .builtin .append, args := #[s, x], argTypes := #[t, t] })
    (base : Nat) (v : Value) (us : List Value) (hs : a.eval s = v) (hown : OwnV T base w v us) (ad : Addr) (m c : Nat) (news : List Value) (hx : a.eval x = .slice (some ad) m c) (hl : news.length = m)
    (hnews : ∀ j u, news[j]? = some u → w.cell? (ad.add j) = some u) (h1 : ∀ u ∈ news, u.oneCell' = true) (hlen : us.length + m ≤ 1000000) (hbase : base ≤ w.heap.size)
    (h : ∀ v' w', OwnV T base w' v' (us ++ news) → w.grownBy w' v.ownBlock → (v'.ownBlock = v.ownBlock ∨ v'.ownBlock = some w.heap.size) → wpList Try.prog ops Q rest (a.put o.dst v') w') : wpList Try.prog ops Q (o :: rest) a w := by
  obtain ⟨i0, hi0, hz0, hz1, hz2⟩ := info_parts hi
  have hb2 : (us.length + m) * bytes ≤ 1000000 * 24 := Nat.mul_le_mul hlen hby
  refine wpList_append_own_at w hgd s x _ ho base T i0 _ 1 bytes ht hi0 hz0 hz1 hz2 hzs (by omega) v us.length us hs hown ad m c news hx (by omega) hnews h1 (by unfold maxLen; omega) (by omega) hbase ?_
  intro v' w' h1 h2 _ h4
  refine h v' w' ?_ h2 h4
  unfold OwnV
  rw [List.length_append, hl]
  exact h1

end Go.Proofs.Ytadpmigppjjmhaa
