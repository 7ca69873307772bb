/-
  Rows of queues of the program: slices of numbers, first grown, then cut.
-/
import Derived.Test.YtadpmigppjjmhaaWk
import Derived.Test.YtadpmigppjjmhaaInts
namespace Go.Proofs.Ytadpmigppjjmhaa
open Go.RowKit Pl

set_option linter.unusedSimpArgs false
set_option linter.unusedVariables false

theorem hd_info : (Try.prog.info? 39).map (fun i => (i.zero, i.size, i.bytes)) = some (some (.slice none 0 0), 1, 24) := by kernel_rfl
theorem make_qs (n : Nat) (hn : n ≤ 1000) : ∃ Z : Array Value, Z.toList = List.replicate n (.slice none 0 0) ∧ ∀ w : World, (Instr.makeSlice 48 (.int .i64 (n : Int)) (.int .i64 (n : Int))).run Try.prog w = .ok (.slice (some ⟨w.heap.size, 0, none⟩) n n) (w.alloc (.cells Z 39)) := by
  obtain ⟨i0, hi0, hz0, hz1, hz2⟩ := info_parts hd_info
  refine ⟨madeCells (Value.slice none 0 0).cells (n * 1), by rw [Nat.mul_one]; exact toList_madeCells_one _ _, fun w => ?_⟩
  have h := run_make (P := Try.prog) w 48 39 i0 _ Try.underlying48 hi0 hz0 .i64 .i64 n n (by omega) (Int.le_refl _) (by rw [hz2]; omega) (by omega)
  rw [hz1] at h
  simpa using h

/-- Block g lists queues that grow, each in memory of its own. -/
structure HasQO (base : Nat) (w : World) (g : Nat) (qs : List (List Int)) : Prop where
  ex : ∃ (cur : Array Value) (us : List Value), w.heap[g]? = some (.cells cur 39 (0, 0)) ∧ cur.toList = us ∧ us.length = qs.length ∧ (∀ (i : Nat) (u : Value) (q : List Int), us[i]? = some u → qs[i]? = some q → OwnI base w u q) ∧
    ∀ (i j : Nat) (u u' : Value), i ≠ j → us[i]? = some u → us[j]? = some u' → Sep u.ownBlock u'.ownBlock
theorem HasQO.lt {base g : Nat} {w : World} {qs : List (List Int)} (k : HasQO base w g qs) : g < w.heap.size := by
  obtain ⟨cur, us, h1, _⟩ := k.ex; exact blk_lt h1
theorem HasQO.below {base g : Nat} {w w' : World} {qs : List (List Int)} (k : HasQO base w g qs) (hb : Below w.heap.size w w') : HasQO base w' g qs := by
  obtain ⟨cur, us, h1, h2, h3, h4, h5⟩ := k.ex
  exact ⟨cur, us, blk_below h1 hb, h2, h3, fun i u q e1 e2 => (h4 i u q e1 e2).below hb, h5⟩
theorem HasQO.made {base g n : Nat} {w : World} {Z : Array Value} (h : w.heap[g]? = some (.cells Z 39 (0, 0))) (hZ : Z.toList = List.replicate n (.slice none 0 0)) : HasQO base w g (List.replicate n []) := by
  refine ⟨Z, _, h, hZ, by simp, fun i u q e1 e2 => ?_, fun i j u u' _ e1 _ => ?_⟩
  · rw [List.getElem?_replicate] at e1 e2
    split at e1
    · rename_i hi
      rw [if_pos hi] at e2
      cases e1; cases e2
      exact OwnI.nil _ _
    · cases e1
  · rw [List.getElem?_replicate] at e1
    split at e1
    · cases e1; exact fun g h => by cases h
    · cases e1
/-- One queue, read. -/
theorem HasQO.at_ {base g i : Nat} {w : World} {qs : List (List Int)} (k : HasQO base w g qs) (hi : i < qs.length) : ∃ (A : Option Addr) (c : Nat) (q : List Int), qs[i]? = some q ∧ w.cell? ⟨g, i, none⟩ = some (.slice A q.length c) ∧ OwnI base w (.slice A q.length c) q := by
  obtain ⟨cur, us, h1, h2, h3, h4, _⟩ := k.ex
  have e1 : us[i]? = some us[i] := List.getElem?_eq_getElem (by omega)
  have e2 : qs[i]? = some qs[i] := List.getElem?_eq_getElem hi
  have ho := h4 i _ _ e1 e2
  obtain ⟨A, c, e, _⟩ := OwnJ.form ho.weak
  refine ⟨A, c, _, e2, ?_, by rw [← e]; exact ho⟩
  rw [blk_cell h1, ← Array.getElem?_toList, h2, e1, e]
/-- One queue has grown, and is stored. -/
theorem HasQO.put {base g i : Nat} {w w' : World} {qs : List (List Int)} {u v : Value} {q' : List Int} (k : HasQO base w g qs) (hgb : g < base) (hi : i < qs.length) (hu : w.cell? ⟨g, i, none⟩ = some u)
    (hg : w.grownBy w' u.ownBlock) (hv : OwnI base w' v q') (hat : v.ownBlock = u.ownBlock ∨ v.ownBlock = some w.heap.size) : HasQO base (w'.setCell ⟨g, i, none⟩ v) g (qs.set i q') := by
  obtain ⟨cur, us, h1, h2, h3, h4, h5⟩ := k.ex
  have e1 : us[i]? = some us[i] := List.getElem?_eq_getElem (by omega)
  have e2 : qs[i]? = some qs[i] := List.getElem?_eq_getElem hi
  have hui : us[i]? = some u := by rw [blk_cell h1, ← Array.getElem?_toList, h2] at hu; exact hu
  have hou := h4 i _ _ hui e2
  have hrow := hou.row
  have h1' : w'.heap[g]? = some (.cells cur 39 (0, 0)) := (hg.block g (blk_lt h1) (fun e => by have := (hrow g e.symm).1; omega)).trans h1
  have hset : ∀ {x : Value} {l : List Int}, OwnI base w' x l → OwnI base (w'.setCell ⟨g, i, none⟩ v) x l := fun hx =>
    OwnV.other hx (only_setCell (World.grownBy.refl _ _) (.inl rfl) _) (fun g' hg' e => by have h1 := (OwnI.row hx g' hg').1; have h2 : g = g' := Option.some.inj e; omega)
  have hcs : cur.size = us.length := by rw [← h2, Array.length_toList]
  refine ⟨_, us.set i v, blk_set h1' i v, ?_, by simpa using h3, fun j x q f1 f2 => ?_, fun j m x y hjm f1 f2 => ?_⟩
  · rw [Array.toList_setIfInBounds, h2]
  · by_cases e : i = j
    · subst e
      rw [List.getElem?_set_self (by omega)] at f1
      rw [List.getElem?_set_self hi] at f2
      cases f1; cases f2
      exact hset hv
    · rw [List.getElem?_set_ne e] at f1 f2
      have ho := h4 j x q f1 f2
      exact hset (OwnV.other ho hg (fun g' hg' e' => h5 j i x u (Ne.symm e) f1 hui g' hg' e'))
  · have hlt : ∀ (j : Nat) (x : Value), us[j]? = some x → ∀ g', x.ownBlock = some g' → g' < w.heap.size := fun j x f g' hg' => by
      have hjl : j < us.length := (List.getElem?_eq_some_iff.1 f).1
      exact (OwnI.row (h4 j x _ f (List.getElem?_eq_getElem (by omega))) g' hg').2
    by_cases ej : i = j
    · subst ej
      rw [List.getElem?_set_self (by omega)] at f1
      cases f1
      rw [List.getElem?_set_ne hjm] at f2
      exact ((h5 m i y u (Ne.symm hjm) f2 hui).app hat (hlt m y f2)).symm
    · rw [List.getElem?_set_ne ej] at f1
      by_cases em : i = m
      · subst em
        rw [List.getElem?_set_self (by omega)] at f2
        cases f2
        exact (h5 j i x u hjm f1 hui).app hat (hlt j x f1)
      · rw [List.getElem?_set_ne em] at f2
        exact h5 j m x y hjm f1 f2

/-- Block g lists queues that are read. -/
structure HasQI (w : World) (g : Nat) (qs : List (List Int)) (r : Option Nat) : Prop where
  ex : ∃ cur : Array Value, w.heap[g]? = some (.cells cur 39 (0, 0)) ∧ cur.size = qs.length ∧ ∀ (i : Nat) (q : List Int), qs[i]? = some q → ∃ A c, cur[i]? = some (.slice A q.length c) ∧ q.length ≤ c ∧ c ≤ maxLen ∧ IsI w A q.length q ∧ (0 < q.length → Sep (blkA A) (some g) ∧ Sep (blkA A) r)
theorem HasQI.lt {g : Nat} {w : World} {qs : List (List Int)} {r : Option Nat} (k : HasQI w g qs r) : g < w.heap.size := by
  obtain ⟨cur, h1, _⟩ := k.ex; exact blk_lt h1
theorem HasQI.below {g : Nat} {w w' : World} {qs : List (List Int)} {r : Option Nat} (k : HasQI w g qs r) (hb : Below w.heap.size w w') : HasQI w' g qs r := by
  obtain ⟨cur, h1, h2, h3⟩ := k.ex
  refine ⟨cur, blk_below h1 hb, h2, fun i q e => ?_⟩
  obtain ⟨A, c, a1, a2, a3, a4, a5⟩ := h3 i q e
  exact ⟨A, c, a1, a2, a3, a4.below hb, a5⟩
theorem isI_grown {w w' : World} {A : Option Addr} {q : List Int} {row : Option Nat} (h : IsI w A q.length q) (hg : w.grownBy w' row) (hs : 0 < q.length → Sep (blkA A) row) : IsI w' A q.length q := by
  rcases Nat.eq_zero_or_pos q.length with h0 | h0
  · obtain rfl : q = [] := List.length_eq_zero_iff.1 h0
    exact IsI.nil _ _
  · exact IsVs.grown h hg (hs h0)
theorem isI_lt {w : World} {A : Option Addr} {q : List Int} (h : IsI w A q.length q) (h0 : 0 < q.length) : ∀ g, blkA A = some g → g < w.heap.size := fun g hg => by
  obtain ⟨b, o, e, hb, _⟩ := h.2 h0
  subst e; cases hg; exact hb
theorem HasQI.app {g : Nat} {w w' : World} {qs : List (List Int)} {r r' : Option Nat} (k : HasQI w g qs r) (hg : w.grownBy w' r) (hne : r ≠ some g) (hat : r' = r ∨ r' = some w.heap.size) : HasQI w' g qs r' := by
  obtain ⟨cur, h1, h2, h3⟩ := k.ex
  refine ⟨cur, (hg.block g (blk_lt h1) (fun e => hne e.symm)).trans h1, h2, fun i q e => ?_⟩
  obtain ⟨A, c, a1, a2, a3, a4, a5⟩ := h3 i q e
  exact ⟨A, c, a1, a2, a3, isI_grown a4 hg (fun h0 => (a5 h0).2), fun h0 => ⟨(a5 h0).1, (a5 h0).2.app hat (isI_lt a4 h0)⟩⟩
theorem HasQO.reads {base g : Nat} {w : World} {qs : List (List Int)} (k : HasQO base w g qs) (hgb : g < base) : HasQI w g qs none := by
  obtain ⟨cur, us, h1, h2, h3, h4, h5⟩ := k.ex
  refine ⟨cur, h1, by rw [← h3, ← h2, Array.length_toList], fun i q e => ?_⟩
  have hi : i < qs.length := (List.getElem?_eq_some_iff.1 e).1
  have e1 : us[i]? = some us[i] := List.getElem?_eq_getElem (by omega)
  have ho := h4 i _ _ e1 e
  obtain ⟨A, c, e', a1, a2, a3, a4⟩ := OwnJ.form ho.weak
  refine ⟨A, c, by rw [← Array.getElem?_toList, h2, e1, e'], a1, a2, a3, fun _ => ⟨fun x hx ex => ?_, fun x _ ex => by cases ex⟩⟩
  cases A with
  | none => cases hx
  | some a => have e1 : a.block = x := Option.some.inj hx; have e2 : g = x := Option.some.inj ex; have := a4 a rfl; omega
/-- One queue, read. -/
theorem HasQI.at_ {g i : Nat} {w : World} {qs : List (List Int)} {r : Option Nat} (k : HasQI w g qs r) (hi : i < qs.length) : ∃ (A : Option Addr) (c : Nat) (q : List Int), qs[i]? = some q ∧ w.cell? ⟨g, i, none⟩ = some (.slice A q.length c) ∧ q.length ≤ c ∧ c ≤ maxLen ∧ IsI w A q.length q ∧ (0 < q.length → Sep (blkA A) (some g) ∧ Sep (blkA A) r) := by
  obtain ⟨cur, h1, h2, h3⟩ := k.ex
  have e2 : qs[i]? = some qs[i] := List.getElem?_eq_getElem hi
  obtain ⟨A, c, a1, a2⟩ := h3 i _ e2
  exact ⟨A, c, _, e2, by rw [blk_cell h1, a1], a2⟩
/-- One queue is stored. -/
theorem HasQI.put {g i : Nat} {w : World} {qs : List (List Int)} {r : Option Nat} {A : Option Addr} {c : Nat} {q : List Int} (k : HasQI w g qs r) (hi : i < qs.length) (hc : q.length ≤ c) (hm : c ≤ maxLen) (hI : IsI w A q.length q)
    (hs : 0 < q.length → Sep (blkA A) (some g) ∧ Sep (blkA A) r) : HasQI (w.setCell ⟨g, i, none⟩ (.slice A q.length c)) g (qs.set i q) r := by
  obtain ⟨cur, h1, h2, h3⟩ := k.ex
  have hgr : w.grownBy (w.setCell ⟨g, i, none⟩ (.slice A q.length c)) (some g) := only_setCell (World.grownBy.refl _ _) (.inl rfl) _
  refine ⟨_, blk_set h1 i _, by simpa using h2, fun j q' e => ?_⟩
  by_cases f : i = j
  · subst f
    rw [List.getElem?_set_self hi] at e
    cases e
    exact ⟨A, c, Array.getElem?_setIfInBounds_self_of_lt (by omega), hc, hm, isI_grown hI hgr (fun h0 => (hs h0).1), hs⟩
  · rw [List.getElem?_set_ne f] at e
    obtain ⟨A', c', a1, a2, a3, a4, a5⟩ := h3 j q' e
    exact ⟨A', c', by rw [Array.getElem?_setIfInBounds_ne f]; exact a1, a2, a3, isI_grown a4 hgr (fun h0 => (a5 h0).1), a5⟩
/-- The queue without its last number; without its first one. -/
theorem isI_init {w : World} {A : Option Addr} {q : List Int} (h : IsI w A q.length q) : IsI w A q.dropLast.length q.dropLast := by
  refine ⟨iv_len _, fun h0 => ?_⟩
  have hl : q.dropLast.length < q.length ∨ q = [] := by
    rcases q with _ | ⟨a, q⟩
    · exact .inr rfl
    · exact .inl (by simp)
  rcases hl with hl | hl
  · obtain ⟨b, o, e, hb, hc⟩ := h.2 (by omega)
    refine ⟨b, o, e, hb, fun i u hu => hc i u ?_⟩
    have hi : i < q.dropLast.length := by have := (List.getElem?_eq_some_iff.1 hu).1; rwa [iv_len] at this
    rw [iv_at hi] at hu
    rw [iv_at (by omega), ← hu]
    congr 2
    unfold nt
    rw [List.getD_eq_getElem?_getD, List.getD_eq_getElem?_getD, List.getElem?_eq_getElem hi, List.getElem?_eq_getElem (by omega), List.getElem_dropLast]
  · subst hl; simp at h0
theorem isI_tail {w : World} {b o : Nat} {q : List Int} (h : IsI w (some ⟨b, o, none⟩) q.length q) : IsI w (some ⟨b, o + 1, none⟩) q.tail.length q.tail := by
  refine ⟨iv_len _, fun h0 => ?_⟩
  rw [List.length_tail] at h0
  obtain ⟨b', o', e, hb, hc⟩ := h.2 (by omega)
  cases e
  refine ⟨b, o + 1, rfl, hb, fun i u hu => ?_⟩
  have hi : i < q.tail.length := by have := (List.getElem?_eq_some_iff.1 hu).1; rwa [iv_len] at this
  rw [iv_at hi] at hu
  rw [show o + 1 + i = o + (i + 1) by omega]
  refine hc (i + 1) u ?_
  rw [List.length_tail] at hi
  rw [iv_at (by omega), ← hu]
  congr 2
  unfold nt
  rw [List.getD_eq_getElem?_getD, List.getD_eq_getElem?_getD]
  congr 1
  cases q with
  | nil => simp at hi
  | cons a q => rfl

end Go.Proofs.Ytadpmigppjjmhaa
