/-
  Rows of pairs (turns, tiles done) and rows of queues in memory.
-/
import Derived.Test.YtadpmigppjjmhaaPtsM
import Derived.Test.YtadpmigppjjmhaaDeqP
import Derived.Test.YtadpmigppjjmhaaPlW3
import Derived.Maps.AppendAt
import Derived.OwnWalk
import Derived.Deep.AppendLies
namespace Go.Proofs.Ytadpmigppjjmhaa
open Go.RowKit Pl

set_option linter.unusedSimpArgs false
set_option linter.unusedVariables false

/-- Kept for later. -/
structure Kept (p : Prop) : Prop where
  out : p

/-- Not the same block. -/
def Sep (a b : Option Nat) : Prop := ∀ g, a = some g → b ≠ some g
theorem Sep.symm {a b : Option Nat} (h : Sep a b) : Sep b a := fun g hb ha => h g ha hb
theorem Sep.far {a b : Option Nat} {s : Nat} (ha : ∀ g, a = some g → g < s) (hb : ∀ g, b = some g → s ≤ g) : Sep a b := fun g h1 h2 => by have := ha g h1; have := hb g h2; omega
theorem Sep.app {a b b' : Option Nat} {s : Nat} (h : Sep a b) (hb : b' = b ∨ b' = some s) (ha : ∀ g, a = some g → g < s) : Sep a b' := fun g hg e => by
  rcases hb with rfl | rfl
  · exact h g hg e
  · have := ha g hg; cases e; omega
def blkA (A : Option Addr) : Option Nat := A.map (·.block)
theorem blkA_own (A : Option Addr) (n c : Nat) : (Value.slice A n c).ownBlock = blkA A := by cases A <;> rfl
theorem IsVs.grown {w w' : World} {A : Option Addr} {n : Nat} {us : List Value} {row : Option Nat} (h : IsVs w A n us) (hg : w.grownBy w' row) (hs : Sep (blkA A) row) : IsVs w' A n us :=
  ⟨h.1, fun hn => by
    obtain ⟨b, o, rfl, hb, hc⟩ := h.2 hn
    have hblk := hg.block b hb (fun e => hs b rfl e.symm)
    exact ⟨b, o, rfl, Nat.lt_of_lt_of_le hb hg.size, fun i u hu => (World.cell?_of_block (a := ⟨b, _, .none⟩) hblk).trans (hc i u hu)⟩⟩
theorem news_blk {w : World} {g : Nat} {cs : Array Value} {T : TypeId} (h : w.heap[g]? = some (.cells cs T (0, 0))) : ∀ j u, cs.toList[j]? = some u → w.cell? ((⟨g, 0, none⟩ : Addr).add j) = some u := fun j u hu => by
  have hadd : (⟨g, 0, none⟩ : Addr).add j = ⟨g, j, none⟩ := by by_cases h : j = 0 <;> simp [Addr.add, h]
  rw [hadd, blk_cell h, ← hu, Array.getElem?_toList]

theorem grownRow_below {B e : Nat} {a w w1 : World} (h2 : w.grownBy w1 (some e)) (h1 : Below B a w) (hB : B ≤ w.heap.size) (he : B ≤ e) : Below B a w1 :=
  ⟨h2.os.trans h1.os, h2.tape.trans h1.tape, h2.output.trans h1.output, Nat.le_trans h1.size h2.size, fun i hi => (h2.block i (by omega) (fun k => by cases k; omega)).trans (h1.block i hi)⟩

/-- Pairs that the call has made. -/
def OwnC (T : TypeId) (base : Nat) (w : World) (v : Value) (l : List Pt) : Prop := w.ownsRow base T 2 v l.length (cellsP l)
section
variable {T : TypeId} {base : Nat} {w w' : World} {v : Value} {l : List Pt}
theorem OwnC.form (h : OwnC T base w v l) : ∃ A c, v = .slice A l.length c ∧ IsPts w A l.length l ∧ l.length ≤ c ∧ c ≤ maxLen ∧ (∀ a, A = some a → base ≤ a.block) := by
  obtain ⟨hl, h⟩ := h
  rcases h with ⟨rfl, hn⟩ | ⟨g, cap, cur, rfl, hb, hg, hn, hc, hs, ht⟩
  · exact ⟨none, 0, by rw [hn], ⟨rfl, fun h => by omega⟩, by omega, by omega, fun a e => by cases e⟩
  · refine ⟨some ⟨g, 0, none⟩, cap, rfl, ⟨rfl, fun _ => ⟨g, 0, rfl, blk_lt hg, fun i hi => ?_⟩⟩, hn, hc, fun a e => by cases e; exact hb⟩
    have hat : ∀ j, j < l.length * 2 → w.cell? ⟨g, 0 + j, none⟩ = (cellsP l)[j]? := fun j hj => by
      rw [blk_cell hg, ← ht, List.getElem?_take, if_pos hj, Nat.zero_add, Array.getElem?_toList]
    obtain ⟨d0, d1⟩ := cellsP_at l i hi
    exact ⟨by rw [hat _ (by omega), d0], by rw [Nat.add_assoc, hat _ (by omega), d1]⟩
theorem OwnC.nil (T : TypeId) (base : Nat) (w : World) : OwnC T base w (.slice none 0 0) [] := ⟨rfl, .inl ⟨rfl, rfl⟩⟩
theorem OwnC.empty {g : Nat} {T' : TypeId} (hT : T' = T) (hb : base ≤ g) (h : w.heap[g]? = some (.cells #[] T' (0, 0))) : OwnC T base w (.slice (some ⟨g, 0, none⟩) 0 0) [] := by
  subst hT; exact ⟨rfl, .inr ⟨g, 0, #[], rfl, hb, h, Nat.le_refl _, Nat.zero_le _, rfl, rfl⟩⟩
theorem OwnC.below (h : OwnC T base w v l) (hb : Below w.heap.size w w') : OwnC T base w' v l := by
  refine ⟨h.1, ?_⟩
  rcases h.2 with h | ⟨g, cap, cur, e, hb', hg, r⟩
  · exact .inl h
  · exact .inr ⟨g, cap, cur, e, hb', blk_below hg hb, r⟩
theorem OwnC.lower {base' : Nat} (h : OwnC T base w v l) (hb : base' ≤ base) : OwnC T base' w v l := by
  refine ⟨h.1, ?_⟩
  rcases h.2 with h | ⟨g, cap, cur, e, hb', r⟩
  · exact .inl h
  · exact .inr ⟨g, cap, cur, e, by omega, r⟩
theorem OwnC.row (h : OwnC T base w v l) : ∀ g, v.ownBlock = some g → base ≤ g ∧ g < w.heap.size := fun g hg => by
  rcases h.2 with ⟨rfl, _⟩ | ⟨g', cap, cur, rfl, hb', hgb, _⟩
  · cases hg
  · simp only [Value.ownBlock, Option.some.injEq] at hg; subst hg; exact ⟨hb', blk_lt hgb⟩
/-- Another block is turned, one below. -/
theorem OwnC.grown {g : Nat} (h : OwnC T base w v l) (hg : w.grownBy w' (some g)) (hne : g < base) : OwnC T base w' v l := by
  refine ⟨h.1, ?_⟩
  rcases h.2 with h | ⟨g', cap, cur, e, hb', hg', r⟩
  · exact .inl h
  · exact .inr ⟨g', cap, cur, e, hb', blk_grown hg' hg (by omega), r⟩
end

/-- append of one pair that has just been written out. -/
theorem append_c {ops : Array Oper} {rest : List Oper} {o : Oper} {a : Act} {Q : Exit → Act → World → Prop} {w : World} (hgd : o.guard = none) (s x : Operand) (T t : TypeId)
    (ht : Try.prog.underlying t = some (.slice T)) (hi : (Try.prog.info? T).map (fun i => (i.zero, i.size, i.bytes)) = some (some (.agg #[.int .i64 0, .int .i64 0]), 2, 16))
    (ho : o.op = .call { callee := .builtin .append, args := #[s, x], argTypes := #[t, t] })
    (base : Nat) (v : Value) (l : List Pt) (hs : a.eval s = v) (hown : OwnC T base w v l) (g m : Nat) (px py : Int) (T' : TypeId) (hx : a.eval x = .slice (some ⟨g, 0, none⟩) 1 m)
    (hg : w.heap[g]? = some (.cells #[.int .i64 px, .int .i64 py] T' (0, 0))) (hlen : l.length ≤ 1000000) (hbase : base ≤ w.heap.size)
    (h : ∀ v' w', OwnC T base w' v' (l ++ [(px, py)]) → w.grownBy w' v.ownBlock → (v'.ownBlock = v.ownBlock ∨ v'.ownBlock = some w.heap.size) → wpList Try.prog ops Q rest (a.put o.dst v') w') : wpList Try.prog ops Q (o :: rest) a w := by
  obtain ⟨i0, hi0, hz0, hz1, hz2⟩ := info_parts hi
  refine wpList_append_own_at w hgd s x _ ho base T i0 _ 2 16 ht hi0 hz0 hz1 hz2 rfl (by omega) v l.length (cellsP l) hs hown ⟨g, 0, none⟩ 1 m [.int .i64 px, .int .i64 py] hx rfl (news_blk hg)
    (fun u hu => by simp only [List.mem_cons, List.not_mem_nil, or_false] at hu; rcases hu with rfl | rfl <;> rfl) (by unfold maxLen; omega) (by omega) hbase ?_
  intro v' w' h1 h2 _ h4
  refine h v' w' ?_ h2 h4
  have e : cellsP (l ++ [(px, py)]) = cellsP l ++ [.int .i64 px, .int .i64 py] := by rw [cellsP_append]; rfl
  unfold OwnC
  rw [e, List.length_append]
  exact h1
theorem IsPts.news' {w : World} {a : Addr} {n : Nat} {l : List Pt} (h : IsPts w (some a) n l) : ∀ j u, (cellsP l)[j]? = some u → w.cell? (a.add j) = some u := fun j u hu => by
  rcases Nat.eq_zero_or_pos n with h0 | h0
  · subst h0
    have : l = [] := List.length_eq_zero_iff.1 h.1
    subst this
    simp [cellsP] at hu
  · obtain ⟨b, o, e, hp⟩ := h.2 h0
    cases e
    exact hp.news j u hu

/-! Rows of queues. -/
def HdQ (w : World) (h : Value) (d : Dq) : Prop := ∃ A c, h = .slice A 16 c ∧ IsI w A 16 d.s
theorem HdQ.below {w w' : World} {h : Value} {d : Dq} (k : HdQ w h d) (hb : Below w.heap.size w w') : HdQ w' h d := by
  obtain ⟨A, c, e, q⟩ := k; exact ⟨A, c, e, q.below hb⟩
theorem HdQ.grown {w w' : World} {h : Value} {d : Dq} {row : Option Nat} (k : HdQ w h d) (hg : w.grownBy w' row) (hs : Sep h.ownBlock row) : HdQ w' h d := by
  obtain ⟨A, c, rfl, q⟩ := k
  rw [blkA_own] at hs
  exact ⟨A, c, rfl, IsVs.grown q hg hs⟩
theorem HdQ.lt {w : World} {h : Value} {d : Dq} (k : HdQ w h d) : ∀ g, h.ownBlock = some g → g < w.heap.size := fun g hg => by
  obtain ⟨A, c, rfl, q⟩ := k
  obtain ⟨b, o, rfl, hb, _⟩ := q.2 (by omega)
  simp only [Value.ownBlock, Option.some.injEq] at hg; omega
def cellsD : List Value → List Dq → List Value
  | h :: hs, d :: ds => h :: .int .i64 d.t :: .int .i64 d.b :: cellsD hs ds
  | _, _ => []
theorem cellsD_len : ∀ (hs : List Value) (ds : List Dq), hs.length = ds.length → (cellsD hs ds).length = ds.length * 3
  | [], [], _ => rfl
  | h :: hs, d :: ds, e => by
    have := cellsD_len hs ds (by simpa using e)
    simp only [cellsD, List.length_cons, this]; omega
  | [], _ :: _, e => by simp at e
  | _ :: _, [], e => by simp at e
theorem cellsD_append : ∀ (hs : List Value) (ds : List Dq) (h : Value) (d : Dq), hs.length = ds.length → cellsD (hs ++ [h]) (ds ++ [d]) = cellsD hs ds ++ [h, .int .i64 d.t, .int .i64 d.b]
  | [], [], _, _, _ => rfl
  | h :: hs, d :: ds, h', d', e => by
    have := cellsD_append hs ds h' d' (by simpa using e)
    simp only [List.cons_append, cellsD, this]
  | [], _ :: _, _, _, e => by simp at e
  | _ :: _, [], _, _, e => by simp at e
theorem cellsD_at : ∀ (hs : List Value) (ds : List Dq) (i : Nat) (h : Value) (d : Dq), hs[i]? = some h → ds[i]? = some d →
    (cellsD hs ds)[i * 3]? = some h ∧ (cellsD hs ds)[i * 3 + 1]? = some (.int .i64 d.t) ∧ (cellsD hs ds)[i * 3 + 2]? = some (.int .i64 d.b)
  | h :: hs, d :: ds, 0, h', d', e1, e2 => by
    simp only [List.getElem?_cons_zero, Option.some.injEq] at e1 e2
    subst e1; subst e2; exact ⟨rfl, rfl, rfl⟩
  | h :: hs, d :: ds, i + 1, h', d', e1, e2 => by
    simp only [List.getElem?_cons_succ] at e1 e2
    have := cellsD_at hs ds i h' d' e1 e2
    simp only [cellsD]
    rw [show (i + 1) * 3 = i * 3 + 1 + 1 + 1 by omega]
    simp only [List.getElem?_cons_succ]
    exact this
  | [], _, _, _, _, e1, _ => by simp at e1
  | _ :: _, [], _, _, _, _, e2 => by simp at e2
theorem cellsD_one : ∀ (hs : List Value) (ds : List Dq), (∀ h ∈ hs, h.oneCell' = true) → ∀ u ∈ cellsD hs ds, u.oneCell' = true
  | h :: hs, d :: ds, hh, u, hu => by
    simp only [cellsD, List.mem_cons] at hu
    rcases hu with rfl | rfl | rfl | hu
    · exact hh _ (by simp)
    · rfl
    · rfl
    · exact cellsD_one hs ds (fun x hx => hh x (by simp [hx])) u hu
  | [], _, _, u, hu => by simp [cellsD] at hu
  | _ :: _, [], _, u, hu => by simp [cellsD] at hu
/-- The cells of a block begin with queues. -/
def QHas (cur : Array Value) (hs : List Value) (ds : List Dq) : Prop := hs.length = ds.length ∧ ds.length * 3 ≤ cur.size ∧
  ∀ (i : Nat) (h : Value) (d : Dq), hs[i]? = some h → ds[i]? = some d → cur[i * 3]? = some h ∧ cur[i * 3 + 1]? = some (.int .i64 d.t) ∧ cur[i * 3 + 2]? = some (.int .i64 d.b)
theorem QHas.put {cur : Array Value} {hs : List Value} {ds : List Dq} (k : QHas cur hs ds) {j : Nat} (hj : j < ds.length) (h : Value) (d : Dq) :
    QHas (((cur.setIfInBounds (j * 3) h).setIfInBounds (j * 3 + 1) (.int .i64 d.t)).setIfInBounds (j * 3 + 2) (.int .i64 d.b)) (hs.set j h) (ds.set j d) := by
  obtain ⟨k1, k2, k3⟩ := k
  refine ⟨by simpa using k1, by simpa using k2, fun i h' d' e1 e2 => ?_⟩
  by_cases e : j = i
  · subst e
    rw [List.getElem?_set_self (by omega)] at e1
    rw [List.getElem?_set_self hj] at e2
    cases e1; cases e2
    refine ⟨?_, ?_, ?_⟩
    · rw [Array.getElem?_setIfInBounds_ne (by omega), Array.getElem?_setIfInBounds_ne (by omega), Array.getElem?_setIfInBounds_self_of_lt (by omega)]
    · rw [Array.getElem?_setIfInBounds_ne (by omega), Array.getElem?_setIfInBounds_self_of_lt (by simp; omega)]
    · rw [Array.getElem?_setIfInBounds_self_of_lt (by simp; omega)]
  · rw [List.getElem?_set_ne e] at e1 e2
    obtain ⟨q1, q2, q3⟩ := k3 i h' d' e1 e2
    refine ⟨?_, ?_, ?_⟩
    · rw [Array.getElem?_setIfInBounds_ne (by omega), Array.getElem?_setIfInBounds_ne (by omega), Array.getElem?_setIfInBounds_ne (by omega)]; exact q1
    · rw [Array.getElem?_setIfInBounds_ne (by omega), Array.getElem?_setIfInBounds_ne (by omega), Array.getElem?_setIfInBounds_ne (by omega)]; exact q2
    · rw [Array.getElem?_setIfInBounds_ne (by omega), Array.getElem?_setIfInBounds_ne (by omega), Array.getElem?_setIfInBounds_ne (by omega)]; exact q3
/-- Block g holds queues. -/
structure HasQs (w : World) (g : Nat) (ds : List Dq) (r : Option Nat) : Prop where
  ex : ∃ (hs : List Value) (cur : Array Value), w.heap[g]? = some (.cells cur 56 (0, 0)) ∧ QHas cur hs ds ∧ ∀ (i : Nat) (h : Value) (d : Dq), hs[i]? = some h → ds[i]? = some d → HdQ w h d ∧ Sep h.ownBlock (some g) ∧ Sep h.ownBlock r
theorem HasQs.below {w w' : World} {g : Nat} {ds : List Dq} {r : Option Nat} (k : HasQs w g ds r) (hb : Below w.heap.size w w') : HasQs w' g ds r := by
  obtain ⟨hs, cur, h1, h2, h3⟩ := k.ex
  exact ⟨hs, cur, blk_below h1 hb, h2, fun i h d e1 e2 => ⟨(h3 i h d e1 e2).1.below hb, (h3 i h d e1 e2).2⟩⟩
/-- Beside the queues a row has grown. -/
theorem HasQs.app {w w' : World} {g : Nat} {ds : List Dq} {r r' : Option Nat} (k : HasQs w g ds r) (hg : w.grownBy w' r) (hne : r ≠ some g) (hat : r' = r ∨ r' = some w.heap.size) : HasQs w' g ds r' := by
  obtain ⟨hs, cur, h1, h2, h3⟩ := k.ex
  refine ⟨hs, cur, (hg.block g (blk_lt h1) (fun e => hne e.symm)).trans h1, h2, fun i h d e1 e2 => ?_⟩
  obtain ⟨a, b, c⟩ := h3 i h d e1 e2
  exact ⟨a.grown hg c, b, c.app hat a.lt⟩
theorem HasQs.lt {w : World} {g : Nat} {ds : List Dq} {r : Option Nat} (k : HasQs w g ds r) : g < w.heap.size := by
  obtain ⟨hs, cur, h1, _⟩ := k.ex; exact blk_lt h1
/-- One queue, read. -/
theorem HasQs.at_ {w : World} {g : Nat} {ds : List Dq} {r : Option Nat} (k : HasQs w g ds r) {i : Nat} (hi : i < ds.length) (hv : AllD ds) :
    ∃ A c l t b, dAt ds (i : Int) = ⟨l, t, b⟩ ∧ w.cell? ⟨g, i * 3, none⟩ = some (.slice A 16 c) ∧ w.cell? ⟨g, i * 3 + 1, none⟩ = some (.int .i64 t) ∧ w.cell? ⟨g, i * 3 + 2, none⟩ = some (.int .i64 b) ∧ IsI w A 16 l := by
  obtain ⟨hs, cur, h1, h2, h3⟩ := k.ex
  have hih : i < hs.length := by have := h2.1; omega
  have e1 : hs[i]? = some hs[i] := List.getElem?_eq_getElem hih
  have e2 : ds[i]? = some ds[i] := List.getElem?_eq_getElem hi
  obtain ⟨q1, q2, q3⟩ := h2.2.2 i _ _ e1 e2
  obtain ⟨⟨A, c, e, q⟩, _⟩ := h3 i _ _ e1 e2
  refine ⟨A, c, ds[i].s, ds[i].t, ds[i].b, ?_, ?_, ?_, ?_, q⟩
  · unfold dAt
    rw [List.getD_eq_getElem?_getD, Int.toNat_natCast, e2]; rfl
  · rw [blk_cell h1, q1, e]
  · rw [blk_cell h1, q2]
  · rw [blk_cell h1, q3]
/-- One queue is written. -/
theorem HasQs.put {w : World} {g : Nat} {ds : List Dq} {r : Option Nat} (k : HasQs w g ds r) {j : Nat} (hj : j < ds.length) {A : Option Addr} {c : Nat} {d : Dq} (hI : IsI w A 16 d.s) (hA : ∀ a, A = some a → a.block ≠ g) (hr : Sep (blkA A) r) :
    HasQs (((w.setCell ⟨g, j * 3, none⟩ (.slice A 16 c)).setCell ⟨g, j * 3 + 1, none⟩ (.int .i64 d.t)).setCell ⟨g, j * 3 + 2, none⟩ (.int .i64 d.b)) g (ds.set j d) r := by
  obtain ⟨hs, cur, h1, h2, h3⟩ := k.ex
  have hgr : w.grownBy (((w.setCell ⟨g, j * 3, none⟩ (.slice A 16 c)).setCell ⟨g, j * 3 + 1, none⟩ (.int .i64 d.t)).setCell ⟨g, j * 3 + 2, none⟩ (.int .i64 d.b)) (some g) := by
    repeat' (first | (with_reducible exact World.grownBy.refl _ _) | (with_reducible refine only_setCell ?_ (.inl rfl) _))
  have hb3 := blk_set (blk_set (blk_set h1 (j * 3) (.slice A 16 c)) (j * 3 + 1) (.int .i64 d.t)) (j * 3 + 2) (.int .i64 d.b)
  generalize (((w.setCell ⟨g, j * 3, none⟩ (.slice A 16 c)).setCell ⟨g, j * 3 + 1, none⟩ (.int .i64 d.t)).setCell ⟨g, j * 3 + 2, none⟩ (.int .i64 d.b)) = w' at hgr hb3 ⊢
  refine ⟨hs.set j (.slice A 16 c), _, hb3, h2.put hj _ _, fun i h d' e1 e2 => ?_⟩
  have hsj : Sep (Value.slice A 16 c).ownBlock (some g) := fun x hx e => by
    rw [blkA_own] at hx
    cases A with
    | none => cases hx
    | some a => simp only [blkA, Option.map, Option.some.injEq] at hx e; exact hA a rfl (by omega)
  by_cases e : j = i
  · subst e
    rw [List.getElem?_set_self (by have := h2.1; omega)] at e1
    rw [List.getElem?_set_self hj] at e2
    have e1' := Option.some.inj e1
    have e2' := Option.some.inj e2
    subst e1' e2'
    exact ⟨HdQ.grown ⟨A, c, rfl, hI⟩ hgr hsj, hsj, by rw [blkA_own]; exact hr⟩
  · rw [List.getElem?_set_ne e] at e1 e2
    obtain ⟨q1, q2⟩ := h3 i h d' e1 e2
    exact ⟨q1.grown hgr q2.1, q2⟩
/-- A row of queues that the call has made. -/
def OwnQs (base : Nat) (w : World) (v : Value) (ds : List Dq) : Prop := ∃ hs : List Value, w.ownsRow base 56 3 v ds.length (cellsD hs ds) ∧ hs.length = ds.length ∧ ∀ (i : Nat) (h : Value) (d : Dq), hs[i]? = some h → ds[i]? = some d → HdQ w h d ∧ Sep h.ownBlock v.ownBlock ∧ ∀ b, h.ownBlock = some b → base ≤ b
theorem OwnQs.nil (base : Nat) (w : World) : OwnQs base w (.slice none 0 0) [] := ⟨[], ⟨rfl, .inl ⟨rfl, rfl⟩⟩, rfl, fun i h d e => by simp at e⟩
theorem OwnQs.empty {base g : Nat} {w : World} {T : TypeId} (hT : T = 56) (hb : base ≤ g) (h : w.heap[g]? = some (.cells #[] T (0, 0))) : OwnQs base w (.slice (some ⟨g, 0, none⟩) 0 0) [] := by
  subst hT; exact ⟨[], ⟨rfl, .inr ⟨g, 0, #[], rfl, hb, h, Nat.le_refl _, Nat.zero_le _, rfl, rfl⟩⟩, rfl, fun i h d e => by simp at e⟩
theorem OwnQs.below {base : Nat} {w w' : World} {v : Value} {ds : List Dq} (k : OwnQs base w v ds) (hb : Below w.heap.size w w') : OwnQs base w' v ds := by
  obtain ⟨hs, h1, h2, h3⟩ := k
  refine ⟨hs, ⟨h1.1, ?_⟩, h2, fun i h d e1 e2 => ⟨(h3 i h d e1 e2).1.below hb, (h3 i h d e1 e2).2⟩⟩
  rcases h1.2 with h | ⟨g, cap, cur, e, hb', hg, r⟩
  · exact .inl h
  · exact .inr ⟨g, cap, cur, e, hb', blk_below hg hb, r⟩
theorem OwnQs.row {base : Nat} {w : World} {v : Value} {ds : List Dq} (k : OwnQs base w v ds) : ∀ g, v.ownBlock = some g → base ≤ g ∧ g < w.heap.size := fun g hg => by
  obtain ⟨hs, h1, _⟩ := k
  rcases h1.2 with ⟨rfl, _⟩ | ⟨g', cap, cur, rfl, hb', hgb, _⟩
  · cases hg
  · simp only [Value.ownBlock, Option.some.injEq] at hg; subst hg; exact ⟨hb', blk_lt hgb⟩
theorem OwnQs.open {base : Nat} {w : World} {v : Value} {ds : List Dq} {r : Option Nat} (k : OwnQs base w v ds) (hn : 0 < ds.length) (hr : ∀ b, r = some b → b < base) : ∃ g c, v = .slice (some ⟨g, 0, none⟩) ds.length c ∧ base ≤ g ∧ ds.length ≤ c ∧ c ≤ maxLen ∧ HasQs w g ds r := by
  obtain ⟨hs, h1, h2, h3⟩ := k
  rcases h1.2 with ⟨rfl, hn'⟩ | ⟨g, cap, cur, rfl, hb, hg, hl, hc, hsz, ht⟩
  · omega
  · refine ⟨g, cap, rfl, hb, hl, hc, ⟨hs, cur, hg, ⟨h2, by omega, fun i h d e1 e2 => ?_⟩, fun i h d e1 e2 => ⟨(h3 i h d e1 e2).1, (h3 i h d e1 e2).2.1, (Sep.far hr (h3 i h d e1 e2).2.2).symm⟩⟩⟩
    have hi : i < ds.length := (List.getElem?_eq_some_iff.1 e2).1
    have hat : ∀ j, j < ds.length * 3 → cur[j]? = (cellsD hs ds)[j]? := fun j hj => by rw [← ht, List.getElem?_take, if_pos hj, Array.getElem?_toList]
    obtain ⟨q1, q2, q3⟩ := cellsD_at hs ds i h d e1 e2
    exact ⟨by rw [hat _ (by omega), q1], by rw [hat _ (by omega), q2], by rw [hat _ (by omega), q3]⟩
theorem dq_info : (Try.prog.info? 56).map (fun i => (i.zero, i.size, i.bytes)) = some (some (.agg #[.slice none 0 0, .int .i64 0, .int .i64 0]), 3, 40) := by kernel_rfl

theorem cells_find {hs : List Value} {ds : List Dq} (he : hs.length = ds.length) {cur : Array Value} (h : QHas cur hs ds) : ∀ (j : Nat) (u : Value), (cellsD hs ds)[j]? = some u → cur[j]? = some u := fun j u hu => by
  have hj : j < ds.length * 3 := by rw [← cellsD_len hs ds he]; exact (List.getElem?_eq_some_iff.1 hu).1
  have hi : j / 3 < ds.length := by omega
  have e1 : hs[j / 3]? = some hs[j / 3] := List.getElem?_eq_getElem (by omega)
  have e2 : ds[j / 3]? = some ds[j / 3] := List.getElem?_eq_getElem hi
  obtain ⟨a0, a1, a2⟩ := h.2.2 _ _ _ e1 e2
  obtain ⟨b0, b1, b2⟩ := cellsD_at hs ds _ _ _ e1 e2
  have hr : j % 3 = 0 ∨ j % 3 = 1 ∨ j % 3 = 2 := by omega
  rcases hr with hr | hr | hr
  · have e : j = j / 3 * 3 := by omega
    rw [e] at hu ⊢
    rw [b0] at hu; rw [a0, ← hu]
  · have e : j = j / 3 * 3 + 1 := by omega
    rw [e] at hu ⊢
    rw [b1] at hu; rw [a1, ← hu]
  · have e : j = j / 3 * 3 + 2 := by omega
    rw [e] at hu ⊢
    rw [b2] at hu; rw [a2, ← hu]

/-- append of the queues of block g to a new row. -/
theorem append_qs {ops : Array Oper} {rest : List Oper} {o : Oper} {a : Act} {Q : Exit → Act → World → Prop} {w : World} (hgd : o.guard = none) (s x : Operand)
    (ho : o.op = .call { callee := .builtin .append, args := #[s, x], argTypes := #[50, 50] })
    (w0 : World) (e0 : Nat) (hs : a.eval s = .slice (some ⟨e0, 0, none⟩) 0 0) (he0 : w.heap[e0]? = some (.cells #[] 56 (0, 0))) (hb0 : w0.heap.size ≤ e0) (g n c : Nat) (ds : List Dq) (hx : a.eval x = .slice (some ⟨g, 0, none⟩) n c) (hn : ds.length = n)
    {r : Option Nat} (hq : HasQs w0 g ds r) (hbel : Below w0.heap.size w0 w) (hlen : n ≤ 1000000) (hn0 : 0 < n)
    (h : ∀ g' c' w', HasQs w' g' ds r → n ≤ c' → c' ≤ maxLen → w0.heap.size ≤ g' → Below w0.heap.size w0 w' → w.grownBy w' (some e0) → (g' = e0 ∨ g' = w.heap.size) → wpList Try.prog ops Q rest (a.put o.dst (.slice (some ⟨g', 0, none⟩) n c')) w') : wpList Try.prog ops Q (o :: rest) a w := by
  obtain ⟨hds, cur, h1, h2, h3⟩ := hq.ex
  obtain ⟨i0, hi0, hz0, hz1, hz2⟩ := info_parts dq_info
  have hz := hbel.size
  have hlt := blk_lt h1
  have hld : hds.length = ds.length := h2.1
  have hcd := cellsD_len hds ds hld
  have hone : ∀ hd ∈ hds, hd.oneCell' = true := fun hd hm => by
    obtain ⟨i, hi⟩ := List.mem_iff_getElem?.1 hm
    have hil : i < hds.length := (List.getElem?_eq_some_iff.1 hi).1
    obtain ⟨⟨A, c, rfl, _⟩, _⟩ := h3 i hd _ hi (List.getElem?_eq_getElem (by omega))
    rfl
  refine wpList_append_own_at w hgd s x _ ho w0.heap.size 56 i0 _ 3 40 Try.underlying50 hi0 hz0 hz1 hz2 rfl (by omega) _ 0 [] hs
    ⟨rfl, .inr ⟨e0, 0, #[], rfl, hb0, he0, Nat.le_refl _, Nat.zero_le _, rfl, rfl⟩⟩ ⟨g, 0, none⟩ n c (cellsD hds ds) hx (by rw [hcd, hn])
    (fun j u hu => ?_) (cellsD_one hds ds hone) (by unfold maxLen; omega) (by omega) hz ?_
  · have hadd : (⟨g, 0, none⟩ : Addr).add j = ⟨g, j, none⟩ := by by_cases h : j = 0 <;> simp [Addr.add, h]
    rw [hadd, blk_cell (blk_below h1 hbel)]
    exact cells_find hld h2 j u hu
  intro v' w' k1 k2 _ k4
  have hrow : ∀ g', v'.ownBlock = some g' → w0.heap.size ≤ g' := fun g' hg' => by
    rcases k4 with k4 | k4
    · rw [k4] at hg'; simp only [Value.ownBlock, Option.some.injEq] at hg'; omega
    · rw [k4] at hg'; cases hg'; exact hz
  have hbw : Below w0.heap.size w0 w' := grownRow_below k2 hbel hz hb0
  rcases k1.2 with ⟨rfl, hn'⟩ | ⟨g', cap, cur', rfl, hb, hg, hl, hc, hsz, ht⟩
  · omega
  · have hg' := hrow g' rfl
    simp only [Nat.zero_add, List.nil_append] at hl hsz ht
    rw [Nat.zero_add]
    have k5 : g' = e0 ∨ g' = w.heap.size := by
      rcases k4 with k4 | k4
      · exact .inl (Option.some.inj k4)
      · exact .inr (Option.some.inj k4)
    refine h g' cap w' ⟨hds, cur', hg, ⟨hld, by omega, fun i hd d e1 e2 => ?_⟩, fun i hd d e1 e2 => ?_⟩ hl hc hg' hbw k2 k5
    · have hi : i < ds.length := (List.getElem?_eq_some_iff.1 e2).1
      have hat : ∀ j, j < ds.length * 3 → cur'[j]? = (cellsD hds ds)[j]? := fun j hj => by rw [← ht, List.getElem?_take, if_pos (by omega), Array.getElem?_toList]
      obtain ⟨q1, q2, q3⟩ := cellsD_at hds ds i hd d e1 e2
      exact ⟨by rw [hat _ (by omega), q1], by rw [hat _ (by omega), q2], by rw [hat _ (by omega), q3]⟩
    · obtain ⟨a1, a2⟩ := h3 i hd d e1 e2
      exact ⟨a1.below hbw, Sep.far (a1.lt) (fun x hx => by cases hx; exact hg'), a2.2⟩

end Go.Proofs.Ytadpmigppjjmhaa
