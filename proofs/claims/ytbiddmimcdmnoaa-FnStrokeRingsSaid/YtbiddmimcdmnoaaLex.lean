/-
  A cheap check that the text's order serves for a region that draws: the slots are numbered one by one, each operation looks at earlier slots alone, and waits for those that it looks at.
-/
import Derived.Still
import Derived.BigQuiet
namespace Go.Proofs.Ytbiddmimcdmnoaa
open Go

set_option linter.unusedVariables false

def lexOne (ops : Array Oper) (d0 i : Nat) (o : Oper) : Bool :=
  (match o.op with | .select .. => false | _ => true) && (o.dst == some (d0 + i)) && (o.after.all fun e => !Region.binds .any e || Nat.blt e.on i) &&
  ((o.looksAt ops).all fun t => Nat.blt t d0 || (Nat.blt t (d0 + i) && o.after.any fun e => Region.binds .any e && Nat.beq (d0 + e.on) t))
def lexAll (ops : Array Oper) (d0 : Nat) : Nat → List Oper → Bool
  | _, [] => true
  | i, o :: l => lexOne ops d0 i o && lexAll ops d0 (i + 1) l
theorem lexAll_at {ops : Array Oper} {d0 : Nat} : ∀ (l : List Oper) (i : Nat), lexAll ops d0 i l = true → ∀ (j : Nat) (o : Oper), l[j]? = some o → lexOne ops d0 (i + j) o = true
  | [], _, _, j, o, h => by simp at h
  | x :: l, i, hA, j, o, h => by
    simp only [lexAll, Bool.and_eq_true] at hA
    cases j with
    | zero => simp only [List.getElem?_cons_zero, Option.some.injEq] at h; subst h; exact hA.1
    | succ j =>
      simp only [List.getElem?_cons_succ] at h
      have := lexAll_at l (i + 1) hA.2 j o h
      rwa [show i + 1 + j = i + (j + 1) by omega] at this
theorem lexOne_parts {ops : Array Oper} {d0 i : Nat} {o : Oper} (h : lexOne ops d0 i o = true) :
    (∀ cs b, o.op ≠ .select cs b) ∧ o.dst = some (d0 + i) ∧ (∀ e ∈ o.after, Region.binds .any e = true → e.on < i) ∧
    (∀ t ∈ o.looksAt ops, t < d0 ∨ (t < d0 + i ∧ ∃ e ∈ o.after, Region.binds .any e = true ∧ d0 + e.on = t)) := by
  simp only [lexOne, Bool.and_eq_true, beq_iff_eq] at h
  obtain ⟨⟨⟨h1, h2⟩, h3⟩, h4⟩ := h
  refine ⟨fun cs b e => by rw [e] at h1; simp at h1, h2, fun e he hb => ?_, fun t ht => ?_⟩
  · have := Array.all_eq_true_iff_forall_mem.1 h3 e he
    simpa [hb] using this
  · have := (List.all_eq_true.1 h4) t ht
    simp only [Bool.or_eq_true, Bool.and_eq_true, Nat.blt_eq] at this
    rcases this with h | ⟨h, h'⟩
    · exact .inl h
    · obtain ⟨e, he, hb⟩ := Array.any_eq_true'.1 h'
      simp only [Bool.and_eq_true] at hb
      exact .inr ⟨h, e, he, hb.1, Nat.eq_of_beq_eq_true hb.2⟩
/-- The first k are listed. -/
def Listed (n k : Nat) (listed : Array Bool) : Prop := listed.size = n ∧ ∀ j, j < n → listed[j]? = some (decide (j < k))
theorem Listed.getT {n k j : Nat} {listed : Array Bool} (h : Listed n k listed) (hj : j < n) (d : Bool) : listed.getD j d = decide (j < k) := by
  have := h.2 j hj
  rw [Array.getD_eq_getD_getElem?, this]; rfl
theorem Listed.next {n k : Nat} {listed : Array Bool} (h : Listed n k listed) (hk : k < n) : Listed n (k + 1) (listed.setIfInBounds k true) := by
  refine ⟨by rw [Array.size_setIfInBounds]; exact h.1, fun j hj => ?_⟩
  by_cases e : k = j
  · subst e
    rw [Array.getElem?_setIfInBounds_self_of_lt (by rw [h.1]; exact hj)]
    simp
  · rw [Array.getElem?_setIfInBounds_ne e, h.2 j hj]
    congr 1
    have : (j < k) ↔ (j < k + 1) := by omega
    simp only [this]
theorem lexFrom_of {l : List Oper} {d0 : Nat} (hA : lexAll l.toArray d0 0 l = true) : ∀ (fuel k : Nat) (listed : Array Bool), fuel + k = l.length → Listed l.length k listed → Region.lexFrom .any l.toArray fuel k listed = true
  | 0, k, listed, hk, hL => by
    simp only [Region.lexFrom, Region.ready, List.isEmpty_iff]
    apply List.filter_eq_nil_iff.2
    intro i hi
    simp only [List.mem_range, List.size_toArray] at hi
    rw [hL.getT hi, decide_eq_true (by omega)]
    simp
  | fuel + 1, k, listed, hk, hL => by
    have hkn : k < l.length := by omega
    have hat : ∀ j o, l[j]? = some o → lexOne l.toArray d0 j o = true := fun j o h => by have := lexAll_at l 0 hA j o h; rwa [Nat.zero_add] at this
    obtain ⟨ok, hok⟩ : ∃ o, l[k]? = some o := ⟨_, List.getElem?_eq_getElem hkn⟩
    obtain ⟨_, hd, hon, hlook⟩ := lexOne_parts (hat k ok hok)
    simp only [Region.lexFrom, Bool.and_eq_true]
    refine ⟨⟨?_, ?_⟩, lexFrom_of hA fuel (k + 1) _ (by omega) (hL.next hkn)⟩
    · simp only [Region.ready, List.contains_iff_mem, List.mem_filter, List.mem_range, List.size_toArray]
      refine ⟨hkn, ?_⟩
      rw [hL.getT hkn, decide_eq_false (by omega)]
      simp only [List.getElem?_toArray, hok, Option.map_some, Option.getD_some, Bool.not_false, Bool.true_and]
      apply Array.all_eq_true_iff_forall_mem.2
      intro e he
      cases hb : Region.binds .any e with
      | false => rfl
      | true =>
        have := hon e he hb
        rw [hL.getT (by omega), decide_eq_true this]; rfl
    · unfold Region.free
      simp only [List.getElem?_toArray, hok, List.all_eq_true, List.mem_range, List.size_toArray]
      intro j hj
      rcases Nat.lt_trichotomy j k with h | h | h
      · rw [hL.getT hj, decide_eq_true h]; simp
      · subst h; simp
      · obtain ⟨oj, hoj⟩ : ∃ o, l[j]? = some o := ⟨_, List.getElem?_eq_getElem hj⟩
        obtain ⟨_, hdj, _, hlookj⟩ := lexOne_parts (hat j oj hoj)
        simp only [hoj]
        by_cases hc : d0 + k ∈ oj.looksAt l.toArray
        · rcases hlookj _ hc with h' | ⟨_, e, he, hb, heq⟩
          · exact absurd (show (d0 + k : Nat) < d0 from h') (by omega)
          · have heq' : (d0 + e.on : Nat) = d0 + k := heq
            have : (oj.after.any fun e => Region.binds .any e && e.on == k) = true := Array.any_eq_true'.2 ⟨e, he, by simp [hb]; omega⟩
            rw [this]; simp
        · have hap : ok.apart l.toArray oj = true := by
            have h2 : d0 + j ∉ ok.looksAt l.toArray := fun hm => by
              rcases hlook _ hm with h' | ⟨h', _⟩
              · exact absurd (show (d0 + j : Nat) < d0 from h') (by omega)
              · exact absurd (show (d0 + j : Nat) < d0 + k from h') (by omega)
            unfold Oper.apart
            rw [hd, hdj]
            simp [hc, h2]
            omega
          rw [hap]; simp
/-- The text's order serves. -/
theorem lexB_of {l : List Oper} (d0 : Nat) (hA : lexAll l.toArray d0 0 l = true) : Region.lexB .any l.toArray = true := by
  simp only [Region.lexB, Bool.and_eq_true]
  constructor
  · unfold Region.noSelect
    apply Array.all_eq_true_iff_forall_mem.2
    intro o ho
    obtain ⟨j, hj⟩ := List.mem_iff_getElem?.1 (List.mem_toArray.1 ho)
    have := lexAll_at l 0 hA j o hj
    have h1 := (lexOne_parts this).1
    split
    · rename_i cs b e; exact absurd e (h1 _ _)
    · rfl
  · refine lexFrom_of hA _ 0 _ (by simp) ⟨by simp, fun j hj => ?_⟩
    simp [hj]

end Go.Proofs.Ytbiddmimcdmnoaa
