/-
  A region that draws its order, walked once: each operation has a fact of its own, which says what its value is good for; an operation may use the facts of those that it waits for; whatever order the tape picks, at the end all facts hold. The operations of the tail wait for all before them.
-/
import Derived.Orders
import Derived.Deep.Draws
import Derived.Tactics2
import Derived.Below
namespace Go.Proofs.Ytadpmigppjjmhaa
open Go

/-- What is said of one operation: the operations whose facts it uses, and its own fact. -/
structure RS where
  use : List Nat
  post : Value → World → Prop

@[simp] def Facts (S : List RS) (v : Nat → Value) (w : World) : List Nat → Prop
  | [] => True
  | k :: l => (match S[k]? with | some s => s.post (v k) w | none => True) ∧ Facts S v w l

def Stable (R : World → World → Prop) : List RS → Prop
  | [] => True
  | s :: r => (∀ v w w', R w w' → s.post v w → s.post v w') ∧ Stable R r

/-- The frame in which operation i of the list has left v i. -/
@[simp] def puts (a : Act) : List Oper → Nat → (Nat → Value) → Act
  | [], _, _ => a
  | o :: l, i, v => puts (a.put o.dst (v i)) l (i + 1) v

def RegObl (P : Program) (N : Nat) (ops : Array Oper) (C : Nat → World → Prop) (R : World → World → Prop) (Q : Exit → Act → World → Prop) (F : (Nat → Value) → Act) (S : List RS) : List Oper → List RS → Prop
  | o :: l, s :: r => (∀ (v : Nat → Value) (k : Nat) (w : World) (K : Act → World → Prop), k < N → C k w → Facts S v w s.use →
        (∀ u w', s.post u w' → R w w' → C (k + 1) w' → K ((F v).put o.dst u) w') →
        if Region.wanted o (yielded ops (F v).tmps) then o.wp P (F v) w K Q else K ((F v).put o.dst undef) w) ∧ RegObl P N ops C R Q F S l r
  | _, _ => True

def direct (o : Oper) : List Nat := (o.after.toList.filter fun e => Region.binds .any e).map (·.on)
/-- What is waited for, through n steps. -/
def closure (ops : List Oper) : Nat → List Nat → List Nat
  | 0, S => S
  | n + 1, S => closure ops n (S ++ S.flatMap fun k => (ops[k]?.map direct).getD []).eraseDups
def isMove (dsts : List Tmp) (o : Oper) : Bool :=
  match o.op, o.guard with
  | .move (.tmp t), none => !dsts.contains t
  | _, _ => false

/-- The closed facts on a region: m operations, then a tail of which each waits for all before it, but for copies of variables ('free'), which may as well come first. -/
def regCheck (ops : List Oper) (uses : List (List Nat)) (free : List Nat) : Bool :=
  (decide (uses.length ≤ ops.length) && decide (free.length ≤ ops.length)) &&
  (ops.zipIdx.all fun (o, i) => o.after.all fun e => !Region.binds .any e || decide (e.on < i)) &&
  (ops.zipIdx.all fun (o, t) => decide (t < uses.length) || (List.range t).all fun j => free.contains j || (closure ops 12 (direct o)).contains j) &&
  ((uses.zip ops).all fun (u, o) => u.all fun k => (direct o).contains k) &&
  (((ops.take uses.length).filterMap (·.dst)).Nodup) &&
  (free.all fun f => decide (f < uses.length) && (match ops[f]? with | some o => isMove ((ops.take uses.length).filterMap (·.dst)) o && (direct o).isEmpty | none => false))

/-- The copies are taken first. -/
def takeOk (ops : Array Oper) : List Nat → Array Bool → Bool
  | [], _ => true
  | f :: r, listed => Region.free .any ops listed f && (Region.ready .any ops listed).contains f && takeOk ops r (listed.setIfInBounds f true)
def listedOf : List Nat → Array Bool → Array Bool
  | [], l => l
  | f :: r, l => listedOf r (l.setIfInBounds f true)

theorem puts_congr {l : List Oper} : ∀ {a : Act} {i : Nat} {v v' : Nat → Value}, (∀ j, i ≤ j → v j = v' j) → puts a l i v = puts a l i v' := by
  induction l with
  | nil => intro a i v v' _; rfl
  | cons o l ih =>
    intro a i v v' h
    simp only [puts]
    rw [h i (Nat.le_refl _)]
    exact ih fun j hj => h j (by omega)

theorem puts_comm {l : List Oper} {x : Option Tmp} {u : Value} : (∀ y ∈ l, ∀ d, x = some d → y.dst ≠ some d) → ∀ {a : Act} {i : Nat} {v : Nat → Value}, (puts a l i v).put x u = puts (a.put x u) l i v := by
  induction l with
  | nil => intro _ a i v; rfl
  | cons o l ih =>
    intro h a i v
    simp only [puts]
    rw [ih (fun y hy => h y (List.mem_cons_of_mem _ hy)), Act.put_comm a u (v i) (fun d hd => h o (List.mem_cons_self ..) d hd)]

theorem put_put (a : Act) (x : Option Tmp) (u u' : Value) : (a.put x u).put x u' = a.put x u' := by
  cases x with
  | none => rfl
  | some d => simp [Act.put]

theorem nodup_cons {o : Oper} {l : List Oper} (h : ((o :: l).filterMap (·.dst)).Nodup) : (∀ y ∈ l, ∀ d, o.dst = some d → y.dst ≠ some d) ∧ (l.filterMap (·.dst)).Nodup := by
  cases hd : o.dst with
  | none => rw [List.filterMap_cons_none hd] at h; exact ⟨(fun _ _ _ h => by cases h), h⟩
  | some d =>
    rw [List.filterMap_cons_some hd, List.nodup_cons] at h
    refine ⟨fun y hy d' hd' hy' => ?_, h.2⟩
    cases hd'
    exact h.1 (List.mem_filterMap.2 ⟨y, hy, hy'⟩)

theorem puts_put {l : List Oper} : (l.filterMap (·.dst)).Nodup → ∀ {a : Act} {i k : Nat} {o : Oper} {v : Nat → Value} {u : Value}, l[k]? = some o →
    (puts a l i v).put o.dst u = puts a l i (fun j => if j = i + k then u else v j) := by
  induction l with
  | nil => intro _ a i k o v u h; simp at h
  | cons x l ih =>
    intro hn a i k o v u h
    obtain ⟨hx, hl⟩ := nodup_cons hn
    cases k with
    | zero =>
      simp only [List.getElem?_cons_zero, Option.some.injEq] at h
      subst h
      simp only [puts, Nat.add_zero, if_true]
      rw [puts_comm hx, put_put]
      exact puts_congr fun j hj => by rw [if_neg (by omega)]
    | succ k =>
      simp only [List.getElem?_cons_succ] at h
      simp only [puts]
      rw [ih hl h, if_neg (by omega)]
      exact puts_congr fun j hj => by
        by_cases e : j = i + 1 + k
        · rw [if_pos e, if_pos (by omega)]
        · rw [if_neg e, if_neg (by omega)]

def slotOf (a : Act) (l : List Oper) (i : Nat) (j : Nat) : Value :=
  match (l[j - i]?).bind (·.dst) with
  | some d => a.tmps.getD d undef
  | none => undef

theorem put_same (a : Act) (x : Option Tmp) : a.put x (match x with | some d => a.tmps.getD d undef | none => undef) = a := by
  cases x with
  | none => rfl
  | some d =>
    simp only [Act.put]
    congr 1
    apply Array.ext
    · simp
    · intro j h1 h2
      rw [Array.getElem_setIfInBounds h2]
      split
      · rename_i e; subst e; simp [Array.getD, h2]
      · rfl

theorem puts_start (a : Act) : ∀ (l : List Oper) (i : Nat), puts a l i (slotOf a l i) = a := by
  intro l
  induction l with
  | nil => intro i; rfl
  | cons o l ih =>
    intro i
    simp only [puts]
    have h0 : slotOf a (o :: l) i i = (match o.dst with | some d => a.tmps.getD d undef | none => undef) := by simp [slotOf]
    rw [h0, put_same]
    refine Eq.trans (puts_congr fun j hj => ?_) (ih (i + 1))
    unfold slotOf
    have e : j - i = (j - (i + 1)) + 1 := by omega
    rw [e, List.getElem?_cons_succ]

theorem facts_of {S : List RS} {v : Nat → Value} {w : World} : ∀ {l : List Nat}, (∀ k ∈ l, ∀ s, S[k]? = some s → s.post (v k) w) → Facts S v w l
  | [], _ => trivial
  | k :: l, h => ⟨by
      cases e : S[k]? with
      | none => trivial
      | some s => exact h k (List.mem_cons_self ..) s e, facts_of fun j hj => h j (List.mem_cons_of_mem _ hj)⟩

theorem stable_at {R : World → World → Prop} : ∀ {S : List RS}, Stable R S → ∀ {k : Nat} {s : RS}, S[k]? = some s → ∀ v w w', R w w' → s.post v w → s.post v w'
  | [], _, _, _, h => by simp at h
  | x :: r, hs, 0, s, h => by simp only [List.getElem?_cons_zero, Option.some.injEq] at h; subst h; exact hs.1
  | x :: r, hs, k + 1, s, h => by simp only [List.getElem?_cons_succ] at h; exact stable_at hs.2 h

theorem obl_at {P : Program} {N : Nat} {ops : Array Oper} {C : Nat → World → Prop} {R : World → World → Prop} {Q : Exit → Act → World → Prop} {F : (Nat → Value) → Act} {S : List RS} :
    ∀ {l : List Oper} {r : List RS}, RegObl P N ops C R Q F S l r → ∀ {j : Nat} {o : Oper} {s : RS}, l[j]? = some o → r[j]? = some s →
      ∀ (v : Nat → Value) (k : Nat) (w : World) (K : Act → World → Prop), k < N → C k w → Facts S v w s.use → (∀ u w', s.post u w' → R w w' → C (k + 1) w' → K ((F v).put o.dst u) w') →
        if Region.wanted o (yielded ops (F v).tmps) then o.wp P (F v) w K Q else K ((F v).put o.dst undef) w
  | [], _, _, _, _, _, h, _ => by simp at h
  | _ :: _, [], _, _, _, _, _, h => by simp at h
  | _ :: _, _ :: _, ho, 0, _, _, h1, h2 => by
    simp only [List.getElem?_cons_zero, Option.some.injEq] at h1 h2
    subst h1; subst h2
    exact ho.1
  | _ :: _, _ :: _, ho, _ + 1, _, _, h1, h2 => by
    simp only [List.getElem?_cons_succ] at h1 h2
    exact obl_at ho.2 h1 h2

theorem count_set {l : Array Bool} {j : Nat} (hj : l.getD j true = false) : (l.setIfInBounds j true).toList.countP (! ·) + 1 = l.toList.countP (! ·) := by
  have hlt : j < l.size := by
    rcases Nat.lt_or_ge j l.size with h | h
    · exact h
    · simp [Array.getD, Nat.not_lt.2 h] at hj
  have hv : l[j] = false := by simpa [Array.getD, hlt] using hj
  rw [Array.toList_setIfInBounds, List.countP_set (by simpa using hlt)]
  simp only [Array.getElem_toList, hv, Bool.not_false, if_true, Bool.not_true, Bool.false_eq_true, if_false, Nat.add_zero]
  have : 0 < l.toList.countP (! ·) := List.countP_pos_iff.2 ⟨false, by rw [← hv]; exact Array.getElem_mem_toList hlt, rfl⟩
  omega

theorem getD_set_true {l : Array Bool} {j k : Nat} (b : Bool) (hlt : j < l.size) : (l.setIfInBounds j true).getD k b = if k = j then true else l.getD k b := by
  by_cases e : k = j
  · subst e; simp [Array.getD, hlt]
  · rw [if_neg e]
    simp only [Array.getD, Array.size_setIfInBounds]
    by_cases h : k < l.size
    · simp [h, Ne.symm e]
    · simp [h]

section
variable {P : Program} {ops : Array Oper} {Q : Exit → Act → World → Prop}

/-- What is listed is closed under waiting. -/
def Closed (l : List Oper) (listed : Array Bool) : Prop := ∀ (k : Nat) (o : Oper), l[k]? = some o → listed.getD k true = true → ∀ j ∈ direct o, listed.getD j true = true

theorem closure_listed {l : List Oper} {listed : Array Bool} (hc : Closed l listed) : ∀ (n : Nat) (S : List Nat), (∀ j ∈ S, listed.getD j true = true) → ∀ j ∈ closure l n S, listed.getD j true = true
  | 0, _, h => h
  | n + 1, S, h => closure_listed hc n _ fun j hj => by
      rw [List.mem_eraseDups, List.mem_append] at hj
      rcases hj with hj | hj
      · exact h j hj
      · obtain ⟨k, hk, hjk⟩ := List.mem_flatMap.1 hj
        cases ho : l[k]? with
        | none => simp [ho] at hjk
        | some o => simp [ho] at hjk; exact hc k o ho (h k hk) j hjk

theorem mem_direct {o : Oper} {j : Nat} : j ∈ direct o ↔ ∃ e ∈ o.after, Region.binds .any e = true ∧ e.on = j := by
  simp only [direct, List.mem_map, List.mem_filter, Array.mem_toList_iff]
  exact ⟨fun ⟨e, ⟨h1, h2⟩, h3⟩ => ⟨e, h1, h2, h3⟩, fun ⟨e, h1, h2, h3⟩ => ⟨e, ⟨h1, h2⟩, h3⟩⟩

theorem regCheck_parts {l : List Oper} {uses : List (List Nat)} {free : List Nat} (h : regCheck l uses free = true) :
    (uses.length ≤ l.length ∧ free.length ≤ l.length) ∧ (∀ (i : Nat) (o : Oper), l[i]? = some o → ∀ e ∈ o.after, Region.binds .any e = true → e.on < i) ∧
    (∀ (t : Nat) (o : Oper), l[t]? = some o → uses.length ≤ t → ∀ j, j < t → j ∈ free ∨ j ∈ closure l 12 (direct o)) ∧
    (∀ (i : Nat) (o : Oper) (u : List Nat), l[i]? = some o → uses[i]? = some u → ∀ k ∈ u, k ∈ direct o) ∧
    ((l.take uses.length).filterMap (·.dst)).Nodup ∧
    (∀ f ∈ free, f < uses.length ∧ ∃ o t, l[f]? = some o ∧ o.op = .move (.tmp t) ∧ o.guard = none ∧ t ∉ (l.take uses.length).filterMap (·.dst) ∧ direct o = []) := by
  simp only [regCheck, Bool.and_eq_true, decide_eq_true_eq] at h
  obtain ⟨⟨⟨⟨⟨h1, h2⟩, h3⟩, h4⟩, h5⟩, h6⟩ := h
  refine ⟨h1, fun i o ho e he hb => ?_, fun t o ho ht j hj => ?_, fun i o u ho hu k hk => ?_, h5, fun f hf => ?_⟩
  · have hm : (o, i) ∈ l.zipIdx := by rw [List.mem_zipIdx_iff_getElem?]; exact ho
    have := (List.all_eq_true.1 h2) (o, i) hm
    have := (Array.all_eq_true'.1 this) e he
    simpa [hb] using this
  · have hm : (o, t) ∈ l.zipIdx := by rw [List.mem_zipIdx_iff_getElem?]; exact ho
    have := (List.all_eq_true.1 h3) (o, t) hm
    simp only [Bool.or_eq_true, decide_eq_true_eq, List.all_eq_true, List.mem_range, List.contains_iff_mem] at this
    rcases this with h | h
    · omega
    · exact h j hj
  · have hm : (u, o) ∈ uses.zip l := by
      rw [List.mem_iff_getElem?]
      exact ⟨i, List.getElem?_zip_eq_some.2 ⟨hu, ho⟩⟩
    have := (List.all_eq_true.1 h4) (u, o) hm
    have := (List.all_eq_true.1 this) k hk
    simpa [List.contains_iff_mem] using this
  · have := (List.all_eq_true.1 h6) f hf
    simp only [Bool.and_eq_true, decide_eq_true_eq] at this
    obtain ⟨hlt, hm⟩ := this
    refine ⟨hlt, ?_⟩
    cases ho : l[f]? with
    | none => simp [ho] at hm
    | some o =>
      simp only [ho, Bool.and_eq_true] at hm
      obtain ⟨hm, hd⟩ := hm
      unfold isMove at hm
      split at hm
      · rename_i t hop hgd
        exact ⟨o, t, rfl, hop, hgd, by simpa [List.contains_iff_mem] using hm, by simpa using hd⟩
      · cases hm

/-- The tail, in its only order. -/
theorem closed_step {l : List Oper} {listed : Array Bool} {j : Nat} {o : Oper} (hc : Closed l listed) (ho : l[j]? = some o) (hall : ∀ e ∈ o.after, Region.binds .any e = true → listed.getD e.on false = true) (hj : j < listed.size) : Closed l (listed.setIfInBounds j true) := by
  intro k o' ho' hk i hi
  rw [getD_set_true _ hj] at hk ⊢
  by_cases e1 : i = j
  · rw [if_pos e1]
  · rw [if_neg e1]
    by_cases e2 : k = j
    · subst e2
      rw [ho] at ho'
      cases ho'
      obtain ⟨e, he, hb, hon⟩ := mem_direct.1 hi
      have h1 := hall e he hb
      rw [hon] at h1
      by_cases hs : i < listed.size
      · simpa [Array.getD, hs] using h1
      · simp [Array.getD, hs]
    · rw [if_neg e2] at hk
      exact hc k o' ho' hk i hi

theorem tail_walk {l : List Oper} (hl : ops.toList = l) {m : Nat} {free : List Nat} (hac : ∀ (i : Nat) (o : Oper), l[i]? = some o → ∀ e ∈ o.after, Region.binds .any e = true → e.on < i)
    (hta : ∀ (t : Nat) (o : Oper), l[t]? = some o → m ≤ t → ∀ j, j < t → j ∈ free ∨ j ∈ closure l 12 (direct o)) (hfr : ∀ f ∈ free, f < m) :
    ∀ (fuel t : Nat) (listed : Array Bool) (a : Act) (w : World), m ≤ t → fuel + t = l.length → listed.size = l.length → (∀ k, k < l.length → listed.getD k true = decide (k < t)) → Closed l listed →
      wpList P ops Q (l.drop t) a w → wpAny P .any ops Q fuel listed a w := by
  have hget : ∀ i, ops[i]? = l[i]? := fun i => by rw [← hl, Array.getElem?_toList]
  intro fuel
  induction fuel with
  | zero =>
    intro t listed a w _ hf hs hli _ h
    have ht : t = l.length := by omega
    subst ht
    refine ⟨?_, by simpa [wpList] using h⟩
    rw [List.eq_nil_iff_forall_not_mem]
    intro j hj
    obtain ⟨hu, o, ho, _⟩ := mem_ready.1 hj
    have hlt : j < l.length := by rw [hget] at ho; exact (List.getElem?_eq_some_iff.1 ho).1
    rw [hli j hlt] at hu
    simp [hlt] at hu
  | succ fuel ih =>
    intro t listed a w hmt hf hs hli hcl h
    have hlt : t < l.length := by omega
    have ho : l[t]? = some l[t] := List.getElem?_eq_getElem hlt
    rw [List.drop_eq_getElem_cons hlt] at h
    have hrd : t ∈ Region.ready .any ops listed := mem_ready.2 ⟨by rw [hli t hlt]; simp, l[t], by rw [hget]; exact ho, fun e he hb => by
      have h1 := hac t _ ho e he hb
      have h2 := hli e.on (by omega)
      have : e.on < listed.size := by omega
      simp only [Array.getD, this, dite_true] at h2 ⊢
      rw [h2]; simpa using h1⟩
    refine ⟨(fun h0 => by rw [h0] at hrd; cases hrd), fun j hj => ?_⟩
    obtain ⟨hu, o, hoj, hall⟩ := mem_ready.1 hj
    rw [hget] at hoj
    have hjl : j < l.length := (List.getElem?_eq_some_iff.1 hoj).1
    have hjt : j = t := by
      rw [hli j hjl] at hu
      have hge : t ≤ j := by simpa using hu
      rcases Nat.lt_or_ge t j with hlt' | hge'
      · rcases hta j o hoj (by omega) t hlt' with hf' | hin
        · have := hfr t hf'; omega
        · have h1 := closure_listed hcl 12 (direct o) (fun i hi => by
            obtain ⟨e, he, hb, hon⟩ := mem_direct.1 hi
            have h1 := hall e he hb
            rw [hon] at h1
            by_cases hs' : i < listed.size
            · simpa [Array.getD, hs'] using h1
            · simp [Array.getD, hs']) t hin
          rw [hli t hlt] at h1; simp at h1
      · omega
    subst hjt
    have next : ∀ a' w', wpList P ops Q (l.drop (j + 1)) a' w' → wpAny P .any ops Q fuel (listed.setIfInBounds j true) a' w' := fun a' w' h' =>
      ih (j + 1) _ a' w' (by omega) (by omega) (by simpa using hs) (fun k hk => by
        rw [getD_set_true _ (by omega)]
        by_cases e : k = j
        · subst e; simp
        · rw [if_neg e, hli k hk]; simp; omega) (closed_step hcl hoj hall (by omega)) h'
    unfold wpOp
    rw [hget, ho]
    simp only [wpList] at h
    show if Region.wanted l[j] (yielded ops a.tmps) then _ else _
    split
    · rename_i hw
      rw [if_pos hw] at h
      rcases h with h | h
      · exact .inl (Oper.wp_mono next h)
      · exact .inr h
    · rename_i hw
      rw [if_neg hw] at h
      exact next _ _ h

theorem eval_puts {l : List Oper} {t : Tmp} : ∀ {a : Act} {i : Nat} {v : Nat → Value}, t ∉ l.filterMap (·.dst) → (puts a l i v).eval (.tmp t) = a.eval (.tmp t) := by
  induction l with
  | nil => intro a i v _; rfl
  | cons o l ih =>
    intro a i v h
    simp only [puts]
    have h' : t ∉ l.filterMap (·.dst) := fun hm => h (by
      obtain ⟨y, hy, hd⟩ := List.mem_filterMap.1 hm
      exact List.mem_filterMap.2 ⟨y, List.mem_cons_of_mem _ hy, hd⟩)
    rw [ih h']
    exact Act.eval_put fun d hd he => h (by
      cases he
      exact List.mem_filterMap.2 ⟨o, List.mem_cons_self .., hd⟩)

/-- The copies, taken first. -/
theorem take_all {l : List Oper} {m : Nat} {a0 : Act} {w : World} (hs : Region.noSelect l.toArray = true) 
    (hnd : ((l.take m).filterMap (·.dst)).Nodup) :
    ∀ (free : List Nat) (fuel : Nat) (listed : Array Bool) (v : Nat → Value), (free ≠ [] → ∀ c a d v w, Q (.panic c) (Act.put a d v) w → Q (.panic c) a w) → takeOk l.toArray free listed = true → listed.size = l.length → listed.toList.countP (! ·) = fuel + free.length →
      (∀ f ∈ free, f < m ∧ ∃ o t, l[f]? = some o ∧ o.op = .move (.tmp t) ∧ o.guard = none ∧ t ∉ (l.take m).filterMap (·.dst) ∧ direct o = []) → Closed l listed →
      (∀ v' : Nat → Value, (∀ f ∈ free, ∀ o t, l[f]? = some o → o.op = .move (.tmp t) → v' f = a0.eval (.tmp t)) → (∀ k, k ∉ free → v' k = v k) → Closed l (listedOf free listed) → (listedOf free listed).toList.countP (! ·) = fuel → wpAny P .any l.toArray Q fuel (listedOf free listed) (puts a0 (l.take m) 0 v') w) →
      wpAny P .any l.toArray Q (fuel + free.length) listed (puts a0 (l.take m) 0 v) w
  | [], fuel, listed, v, _, _, _, hcn, _, hc, h => h v (fun _ h => by cases h) (fun _ _ => rfl) hc hcn
  | f :: r, fuel, listed, v, hQ, hok, hsz, hcn, hfr, hc, h => by
    simp only [takeOk, Bool.and_eq_true] at hok
    obtain ⟨⟨hf, hr⟩, hok⟩ := hok
    obtain ⟨hfm, o, t, ho, hop, hgd, ht, hdir⟩ := hfr f (List.mem_cons_self ..)
    have hfl : f < l.length := (List.getElem?_eq_some_iff.1 ho).1
    refine wpAny_take (v := a0.eval (.tmp t)) (i := f) (oi := o) (by simpa using ho) hs hf hr (fun c a w => hQ (by simp) c a _ _ w) ?_ ?_
    · refine .inl ⟨by simp [Region.wanted, hgd], fun w => ?_⟩
      have he := eval_puts (a := a0) (i := 0) (v := v) ht
      simp only [execOp, hop, he]
      rfl
    · rw [puts_put hnd (k := f) (by rw [List.getElem?_take]; simp [hfm, ho])]
      refine take_all hs hnd r fuel _ _ (fun _ => hQ (by simp)) hok (by simpa using hsz) (by
        have hu : listed.getD f true = false := (mem_ready.1 (by simpa using hr)).1
        have := count_set hu
        simp only [List.length_cons] at hcn
        omega) (fun f' hf' => hfr f' (List.mem_cons_of_mem _ hf')) (closed_step hc ho (fun e he hb => by
        have : e.on ∈ direct o := mem_direct.2 ⟨e, he, hb, rfl⟩
        rw [hdir] at this; cases this) (by omega)) fun v' h1 h2 h3 h4 => h v' (fun f' hf' o' t' ho' hop' => ?_) (fun k hk => ?_) h3 h4
      · by_cases hin : f' ∈ r
        · exact h1 f' hin o' t' ho' hop'
        · rcases List.mem_cons.1 hf' with rfl | hm
          · rw [h2 f' hin, if_pos (by omega)]
            rw [ho] at ho'; cases ho'; rw [hop] at hop'; cases hop'; rfl
          · exact absurd hm hin
      · rw [h2 k (fun hm => hk (List.mem_cons_of_mem _ hm)), if_neg (fun e => hk (by rw [e]; simp))]

def FreeOk (a0 : Act) (l : List Oper) (S : List RS) : List Nat → Prop
  | [] => True
  | f :: r => (match l[f]?, S[f]? with | some o, some s => (match o.op with | .move x => ∀ w, s.post (a0.eval x) w | _ => False) | _, _ => False) ∧ FreeOk a0 l S r

theorem freeOk_at {a0 : Act} {l : List Oper} {S : List RS} : ∀ {free : List Nat}, FreeOk a0 l S free → ∀ f ∈ free, ∀ o t s, l[f]? = some o → o.op = .move (.tmp t) → S[f]? = some s → ∀ w, s.post (a0.eval (.tmp t)) w
  | [], _, _, h, _, _, _ => by cases h
  | f' :: r, h, f, hf, o, t, s => fun ho hop hs w => by
    rcases List.mem_cons.1 hf with rfl | hm
    · have := h.1
      simp only [ho, hs, hop] at this
      exact this w
    · exact freeOk_at h.2 f hm o t s ho hop hs w

theorem listedOf_size : ∀ (free : List Nat) (listed : Array Bool), (listedOf free listed).size = listed.size
  | [], _ => rfl
  | f :: r, listed => by simp only [listedOf]; rw [listedOf_size r]; simp

theorem listedOf_get : ∀ (free : List Nat) (listed : Array Bool) (k : Nat), k < listed.size → (listedOf free listed).getD k true = (free.contains k || listed.getD k true)
  | [], _, _, _ => by simp [listedOf]
  | f :: r, listed, k, hk => by
    simp only [listedOf]
    rw [listedOf_get r _ k (by simpa using hk)]
    by_cases hf : f < listed.size
    · rw [getD_set_true _ hf]
      by_cases e : k = f
      · subst e; simp
      · rw [if_neg e]; simp [e]
    · have : k ≠ f := by omega
      rw [Array.setIfInBounds_eq_of_size_le (by omega)]; simp [this]

theorem wp_region_facts {id : Nat} {a0 : Act} {w0 : World} {l : List Oper} (hm : P.follows .mixedOrders = true) (C : Nat → World → Prop) (R : World → World → Prop) (S : List RS) (free : List Nat)
    (hsel : Region.noSelect l.toArray = true) (hQ : free ≠ [] → ∀ c a d v w, Q (.panic c) (Act.put a d v) w → Q (.panic c) a w)
    (hc : regCheck l (S.map (·.use)) free = true) (htk : takeOk l.toArray free (Array.replicate l.length false) = true) (hst : Stable R S) (h0 : C 0 w0.drew)
    (hop : RegObl P l.length l.toArray C R Q (puts a0 (l.take S.length) 0) S l S) (hfo : FreeOk a0 l S free)
    (hend : ∀ (v : Nat → Value) (k : Nat) (w : World), k ≤ l.length → C k w → Facts S v w (List.range S.length) → wpList P l.toArray Q (l.drop S.length) (puts a0 (l.take S.length) 0 v) w) :
    (Code.region id l.toArray true).wp P Q a0 w0 := by
  obtain ⟨⟨hle, hfl⟩, hac, hta, huse, hnd, hfr⟩ := regCheck_parts hc
  simp only [List.length_map] at hle hta hnd hfr
  have hfr1 : ∀ f ∈ free, f < S.length := fun f hf => (hfr f hf).1
  have hm' : ∀ (fuel : Nat) (listed : Array Bool) (v : Nat → Value) (w : World) (k : Nat), listed.size = l.length → listed.toList.countP (! ·) = fuel → k + fuel ≤ l.length → C k w → Closed l listed → (∀ f ∈ free, listed.getD f true = true) →
      (∀ t, S.length ≤ t → t < l.length → listed.getD t true = false) → (∀ i s, S[i]? = some s → listed.getD i true = true → s.post (v i) w) →
      wpAny P .any l.toArray Q fuel listed (puts a0 (l.take S.length) 0 v) w := by
    intro fuel
    induction fuel with
    | zero =>
      intro listed v w k hs hcnt hk hC hcl hfrl htl hfa
      have hall : ∀ i, i < l.length → listed.getD i true = true := fun i hi => by
        have h1 : i < listed.size := by omega
        simp only [Array.getD, h1, dite_true]
        have := List.countP_eq_zero.1 hcnt listed[i] (Array.getElem_mem_toList h1)
        simpa using this
      have hSl : S.length = l.length := by
        rcases Nat.lt_or_ge S.length l.length with h | h
        · have h1 := htl _ (Nat.le_refl _) h
          have h2 := hall _ h
          exact absurd (h1.symm.trans h2) (by decide)
        · omega
      refine tail_walk (ops := l.toArray) (by simp) hac hta hfr1 0 l.length listed _ w (by omega) (by omega) hs (fun i hi => by rw [hall i hi]; simpa using hi) hcl ?_
      have := hend v k w (by omega) hC (facts_of fun i hi s hs' => hfa i s hs' (hall i (by have := List.mem_range.1 hi; omega)))
      rw [hSl] at this
      simpa [hSl] using this
    | succ fuel ih =>
      intro listed v w k hs hcnt hk hC hcl hfrl htl hfa
      by_cases hpre : ∀ i, i < S.length → listed.getD i true = true
      · have hli : ∀ i, i < l.length → listed.getD i true = decide (i < S.length) := fun i hi => by
          by_cases h : i < S.length
          · rw [hpre i h]; simpa using h
          · rw [htl i (by omega) hi]; simpa using h
        have hcn : fuel + 1 + S.length = l.length := by
          have e : listed.toList = List.replicate S.length true ++ List.replicate (l.length - S.length) false := by
            apply List.ext_getElem
            · simp; omega
            · intro i h1 h2
              have hi : i < l.length := by simpa [hs] using h1
              have h3 := hli i hi
              have h4 : i < listed.size := by omega
              simp only [Array.getD, h4, dite_true] at h3
              rw [Array.getElem_toList, show listed[i] = decide (i < S.length) from h3, List.getElem_append]
              split
              · rename_i h; simp at h; simp [h]
              · rename_i h; simp at h; simp; omega
          rw [e, List.countP_append] at hcnt
          simp [List.countP_replicate] at hcnt
          omega
        exact tail_walk (ops := l.toArray) (by simp) hac hta hfr1 (fuel + 1) S.length listed _ w (Nat.le_refl _) hcn hs hli hcl
          (hend v k w (by omega) hC (facts_of fun i hi s hs' => hfa i s hs' (hpre i (List.mem_range.1 hi))))
      · have hex : ∃ i, i < S.length ∧ listed.getD i true = false := by
          false_or_by_contra
          rename_i hne
          exact hpre fun i hi => by
            cases h : listed.getD i true with
            | true => rfl
            | false => exact absurd ⟨i, hi, h⟩ hne
        have hlow : ∀ n i, i ≤ n → i < S.length → listed.getD i true = false → ∃ j, j < S.length ∧ j ∈ Region.ready .any l.toArray listed := by
          intro n
          induction n with
          | zero =>
            intro i hi hiS hu
            have hil : i < l.length := by omega
            refine ⟨i, hiS, mem_ready.2 ⟨hu, l[i], by simp [hil], fun e he hb => ?_⟩⟩
            have := hac i l[i] (List.getElem?_eq_getElem hil) e he hb
            omega
          | succ n ihn =>
            intro i hi hiS hu
            have hil : i < l.length := by omega
            by_cases hr : ∀ e ∈ l[i].after, Region.binds .any e = true → listed.getD e.on false = true
            · exact ⟨i, hiS, mem_ready.2 ⟨hu, l[i], by simp [hil], hr⟩⟩
            · have : ∃ e, e ∈ l[i].after ∧ Region.binds .any e = true ∧ listed.getD e.on false = false := by
                false_or_by_contra
                rename_i hne
                exact hr fun e he hb => by
                  cases h : listed.getD e.on false with
                  | true => rfl
                  | false => exact absurd ⟨e, he, hb, h⟩ hne
              obtain ⟨e, he, hb, hf⟩ := this
              have hlt := hac i l[i] (List.getElem?_eq_getElem hil) e he hb
              have hsz : e.on < listed.size := by omega
              exact ihn e.on (by omega) (by omega) (by simpa [Array.getD, hsz] using hf)
        obtain ⟨i, hi, hu⟩ := hex
        obtain ⟨j0, _, hj0⟩ := hlow i i (Nat.le_refl _) hi hu
        refine ⟨(fun h => by rw [h] at hj0; cases hj0), fun j hj => ?_⟩
        obtain ⟨hju, o, hoj, hall⟩ := mem_ready.1 hj
        have hoj' : l[j]? = some o := by simpa using hoj
        have hjl : j < l.length := (List.getElem?_eq_some_iff.1 hoj').1
        have hjs : j < listed.size := by omega
        have listedD : ∀ k ∈ direct o, listed.getD k true = true := fun k hk => by
          obtain ⟨e, he, hb, hon⟩ := mem_direct.1 hk
          have h1 := hall e he hb
          rw [hon] at h1
          by_cases hsz : k < listed.size
          · simpa [Array.getD, hsz] using h1
          · simp [Array.getD, hsz]
        by_cases hjS : j < S.length
        · have hs' : S[j]? = some S[j] := List.getElem?_eq_getElem hjS
          have husej : (S.map (·.use))[j]? = some S[j].use := by simp [hjS]
          have hF := facts_of (S := S) (v := v) (w := w) (l := S[j].use) fun k' hk' s hs'' => hfa k' s hs'' (listedD k' (huse j o _ hoj' husej k' hk'))
          have hstep := obl_at hop hoj' hs' v k w (wpAny P .any l.toArray Q fuel (listed.setIfInBounds j true)) (by omega) hC hF (fun u w' hp hR hC' => by
            have hput : (puts a0 (l.take S.length) 0 v).put o.dst u = puts a0 (l.take S.length) 0 (fun i => if i = 0 + j then u else v i) := puts_put hnd (by rw [List.getElem?_take]; simp [hjS, hoj'])
            rw [hput]
            refine ih _ _ w' (k + 1) (by simpa using hs) (by have := count_set hju; omega) (by omega) hC' (closed_step hcl hoj' hall hjs) (fun f hf => by rw [getD_set_true _ hjs]; split <;> simp [hfrl f hf]) (fun t ht htl' => ?_) (fun i s hsi hli => ?_)
            · rw [getD_set_true _ hjs, if_neg (by omega)]; exact htl t ht htl'
            · rw [getD_set_true _ hjs] at hli
              simp only [Nat.zero_add]
              by_cases e : i = j
              · subst e
                rw [if_pos rfl]
                rw [hs'] at hsi
                cases hsi
                exact hp
              · rw [if_neg e] at hli ⊢
                exact stable_at hst hsi _ _ _ hR (hfa i s hsi hli))
          unfold wpOp
          rw [show (l.toArray)[j]? = some o from hoj]
          show if Region.wanted o (yielded l.toArray (puts a0 (l.take S.length) 0 v).tmps) then _ else _
          split
          · rename_i hw; rw [if_pos hw] at hstep; exact .inl hstep
          · rename_i hw
            rw [if_neg hw] at hstep
            exact hstep
        · exfalso
          rcases hta j o hoj' (by omega) i (by omega) with hin | hin
          · rw [hfrl i hin] at hu; cases hu
          · have := closure_listed hcl 12 (direct o) listedD i hin
            rw [hu] at this; cases this
  refine wp_region_any hm ?_
  have hps := puts_start a0 (l.take S.length) 0
  have hcr : (Array.replicate l.length false).toList.countP (! ·) = l.length := by simp [List.countP_replicate]
  have ht := take_all (w := w0.drew) hsel hnd free (l.length - free.length) (Array.replicate l.length false) (slotOf a0 (l.take S.length) 0) hQ htk (by simp) (by rw [hcr]; omega) hfr
    (fun k o ho hk => by
      have hkl : k < l.length := (List.getElem?_eq_some_iff.1 ho).1
      simp [Array.getD, hkl] at hk)
    (fun v' h1 h2 h3 h4 => hm' _ _ v' _ 0 (by rw [listedOf_size]; simp) h4 (by omega) h0 h3
      (fun f hf => by
        have hfs := hfr1 f hf
        rw [listedOf_get _ _ _ (by simp; omega)]
        simp [hf])
      (fun t ht htl => by
        rw [listedOf_get _ _ _ (by simpa using htl)]
        have : t ∉ free := fun hm => by have := hfr1 t hm; omega
        simp [Array.getD, htl, this])
      (fun i s hs hli => by
        have hi : i < S.length := (List.getElem?_eq_some_iff.1 hs).1
        rw [listedOf_get _ _ _ (by simp; omega)] at hli
        have hil : i < l.length := by omega
        have hin : i ∈ free := by simpa [Array.getD, hil] using hli
        obtain ⟨_, o, t, ho, hop', _⟩ := hfr i hin
        rw [h1 i hin o t ho hop']
        exact freeOk_at hfo i hin o t s ho hop' hs _))
  rw [hps, show l.length - free.length + free.length = l.length by omega] at ht
  simpa using ht

/-- The second world has all blocks of the first as they were. -/
def Ext (w w' : World) : Prop := RowKit.Below w.heap.size w w'

def IsV (x : Value) (v : Value) (_ : World) : Prop := v = x
def IsBox (B : Nat) (cs : Array Value) (T : TypeId) (v : Value) (w : World) : Prop := ∃ g, v = .pointer (some ⟨g, 0, none⟩) ∧ B ≤ g ∧ g < w.heap.size ∧ w.heap[g]? = some (.cells cs T (0, 0))
@[simp] theorem isV_iff {x v : Value} {w : World} : IsV x v w ↔ v = x := Iff.rfl
@[simp] theorem put_some (t : Array Value) (d : List Deferred) (i : Nat) (u : Value) : Act.put ⟨t, d⟩ (some i) u = ⟨t.setIfInBounds i u, d⟩ := rfl
@[simp] theorem put_none (a : Act) (u : Value) : Act.put a none u = a := rfl
/-- A value that is known. -/
@[simp] def RS.det (use : List Nat) (x : Value) : RS := ⟨use, IsV x⟩
/-- A pointer to a block that is made here. -/
@[simp] def RS.box (use : List Nat) (B : Nat) (cs : Array Value) (T : TypeId) : RS := ⟨use, IsBox B cs T⟩

theorem st_nil {R : World → World → Prop} : Stable R [] := trivial
theorem st_det {R : World → World → Prop} {use : List Nat} {x : Value} {S : List RS} (h : Stable R S) : Stable R (RS.det use x :: S) := ⟨fun _ _ _ _ h => h, h⟩
theorem st_box {use : List Nat} {B : Nat} {cs : Array Value} {T : TypeId} {S : List RS} (h : Stable Ext S) : Stable Ext (RS.box use B cs T :: S) :=
  ⟨fun _ _ _ hR ⟨g, h1, h2, h3, h4⟩ => ⟨g, h1, h2, Nat.lt_of_lt_of_le h3 hR.size, (hR.block g h3).trans h4⟩, h⟩
theorem isBox_new {B : Nat} {w : World} (cs : Array Value) (T : TypeId) (h : B ≤ w.heap.size) : IsBox B cs T (.pointer (some ⟨w.heap.size, 0, none⟩)) (w.alloc (.cells cs T)) :=
  ⟨_, rfl, h, by simp, by show (w.heap.push _)[w.heap.size]? = _; simp⟩

/-- A slice over a block that is made here. -/
def IsSl (B : Nat) (cs : Array Value) (T : TypeId) (m : Nat) (v : Value) (w : World) : Prop := ∃ g, v = .slice (some ⟨g, 0, none⟩) m m ∧ B ≤ g ∧ g < w.heap.size ∧ w.heap[g]? = some (.cells cs T (0, 0))
@[simp] def RS.sl (use : List Nat) (B : Nat) (cs : Array Value) (T : TypeId) (m : Nat) : RS := ⟨use, IsSl B cs T m⟩
theorem st_sl {use : List Nat} {B : Nat} {cs : Array Value} {T : TypeId} {m : Nat} {S : List RS} (h : Stable Ext S) : Stable Ext (RS.sl use B cs T m :: S) :=
  ⟨fun _ _ _ hR ⟨g, h1, h2, h3, h4⟩ => ⟨g, h1, h2, Nat.lt_of_lt_of_le h3 hR.size, (hR.block g h3).trans h4⟩, h⟩
theorem isSl_new {B : Nat} {w : World} (cs : Array Value) (T : TypeId) (m : Nat) (h : B ≤ w.heap.size) : IsSl B cs T m (.slice (some ⟨w.heap.size, 0, none⟩) m m) (w.alloc (.cells cs T)) :=
  ⟨_, rfl, h, by simp, by show (w.heap.push _)[w.heap.size]? = _; simp⟩
/-- Some number. -/
def IsNum (v : Value) (_ : World) : Prop := ∃ x : Int, v = .int .i64 x
@[simp] def RS.num (use : List Nat) : RS := ⟨use, IsNum⟩
theorem st_num {R : World → World → Prop} {use : List Nat} {S : List RS} (h : Stable R S) : Stable R (RS.num use :: S) := ⟨fun _ _ _ _ h => h, h⟩
/-- Whatever is said of the value alone. -/
def IsP (p : Value → Prop) (v : Value) (_ : World) : Prop := p v
@[simp] def RS.p (use : List Nat) (p : Value → Prop) : RS := ⟨use, IsP p⟩
theorem st_p {R : World → World → Prop} {use : List Nat} {p : Value → Prop} {S : List RS} (h : Stable R S) : Stable R (RS.p use p :: S) := ⟨fun _ _ _ _ h => h, h⟩

theorem blk_cell {w : World} {g : Nat} {cs : Array Value} {T : TypeId} (h : w.heap[g]? = some (.cells cs T (0, 0))) (i : Nat) : w.cell? ⟨g, i, none⟩ = cs[i]? := by simp [World.cell?, h]
theorem blk_free {w : World} {g : Nat} {cs : Array Value} {T : TypeId} (h : w.heap[g]? = some (.cells cs T (0, 0))) (i : Nat) : w.frozen? ⟨g, i, none⟩ = false := by simp [World.frozen?, h]

theorem blk_lt {w : World} {g : Nat} {o : Obj} (h : w.heap[g]? = some o) : g < w.heap.size := by
  rcases Nat.lt_or_ge g w.heap.size with h' | h'
  · exact h'
  · rw [Array.getElem?_eq_none h'] at h; cases h

theorem blk_set {w : World} {g : Nat} {cs : Array Value} {T : TypeId} (h : w.heap[g]? = some (.cells cs T (0, 0))) (i : Nat) (u : Value) : (w.setCell ⟨g, i, none⟩ u).heap[g]? = some (.cells (cs.setIfInBounds i u) T (0, 0)) := by
  simp [World.setCell, Array.getElem?_modify, h]
theorem blk_far {w : World} {g : Nat} {o : Option Obj} (h : w.heap[g]? = o) {p : Addr} (u : Value) (hne : g ≠ p.block) : (w.setCell p u).heap[g]? = o := (RowKit.Below.heap_setCell w p u g hne).trans h
theorem blk_alloc {w : World} {g : Nat} {o : Obj} (h : w.heap[g]? = some o) (o' : Obj) : (w.alloc o').heap[g]? = some o := (RowKit.Below.heap_alloc w o' g (blk_lt h)).trans h
theorem blk_new (w : World) (o : Obj) : (w.alloc o).heap[w.heap.size]? = some o := by show (w.heap.push o)[w.heap.size]? = _; simp
theorem blk_below {w w' : World} {g : Nat} {o : Obj} (h : w.heap[g]? = some o) (hb : RowKit.Below w.heap.size w w') : w'.heap[g]? = some o := (hb.block g (blk_lt h)).trans h
theorem blk_grown {w w' : World} {g r : Nat} {o : Obj} (h : w.heap[g]? = some o) (hb : w.grownBy w' (some r)) (hne : g ≠ r) : w'.heap[g]? = some o := (hb.block g (blk_lt h) (by simpa using hne)).trans h
theorem blk_set2 {w : World} {g : Nat} {T : TypeId} {a0 a1 : Value} (h : w.heap[g]? = some (.cells #[a0, a1] T (0, 0))) (b0 b1 : Value) :
    ((w.setCell ⟨g, 0, none⟩ b0).setCell ⟨g, 1, none⟩ b1).heap[g]? = some (.cells #[b0, b1] T (0, 0)) := blk_set (blk_set h 0 b0) 1 b1
theorem blk_set3 {w : World} {g : Nat} {T : TypeId} {a0 a1 a2 : Value} (h : w.heap[g]? = some (.cells #[a0, a1, a2] T (0, 0))) (b0 b1 b2 : Value) :
    (((w.setCell ⟨g, 0, none⟩ b0).setCell ⟨g, 1, none⟩ b1).setCell ⟨g, 2, none⟩ b2).heap[g]? = some (.cells #[b0, b1, b2] T (0, 0)) := blk_set (blk_set (blk_set h 0 b0) 1 b1) 2 b2
theorem blk_set4 {w : World} {g : Nat} {T : TypeId} {a0 a1 a2 a3 : Value} (h : w.heap[g]? = some (.cells #[a0, a1, a2, a3] T (0, 0))) (b0 b1 b2 b3 : Value) :
    ((((w.setCell ⟨g, 0, none⟩ b0).setCell ⟨g, 1, none⟩ b1).setCell ⟨g, 2, none⟩ b2).setCell ⟨g, 3, none⟩ b3).heap[g]? = some (.cells #[b0, b1, b2, b3] T (0, 0)) := blk_set (blk_set (blk_set (blk_set h 0 b0) 1 b1) 2 b2) 3 b3

theorem blk_far1 {w : World} {g : Nat} {o : Option Obj} (h : w.heap[g]? = o) {g' i : Nat} (hne : g ≠ g') (u : Value) : (w.setCell ⟨g', i, none⟩ u).heap[g]? = o := blk_far h u hne
theorem blk_far2 {w : World} {g : Nat} {o : Option Obj} (h : w.heap[g]? = o) {g' i j : Nat} (hne : g ≠ g') (u v : Value) : ((w.setCell ⟨g', i, none⟩ u).setCell ⟨g', j, none⟩ v).heap[g]? = o := blk_far (blk_far h u hne) v hne
theorem blk_far4 {w : World} {g : Nat} {o : Option Obj} (h : w.heap[g]? = o) {g' i j k m : Nat} (hne : g ≠ g') (u v x y : Value) :
    ((((w.setCell ⟨g', i, none⟩ u).setCell ⟨g', j, none⟩ v).setCell ⟨g', k, none⟩ x).setCell ⟨g', m, none⟩ y).heap[g]? = o := blk_far (blk_far (blk_far (blk_far h u hne) v hne) x hne) y hne

def Obls (P : Program) (ops : Array Oper) (Q : Exit → Act → World → Prop) (F : (Nat → Value) → Act) (S : List RS) (w0 : World) : List Oper → List RS → Prop
  | o :: l, s :: r => (∀ (v : Nat → Value) (w : World) (K : Act → World → Prop), RowKit.Below w0.heap.size w0 w → Facts S v w s.use →
        (∀ u w', s.post u w' → RowKit.Below w.heap.size w w' → K ((F v).put o.dst u) w') →
        if Region.wanted o (yielded ops (F v).tmps) then o.wp P (F v) w K Q else K ((F v).put o.dst undef) w) ∧ Obls P ops Q F S w0 l r
  | _, _ => True

theorem obl_of {N : Nat} {F : (Nat → Value) → Act} {S : List RS} {w0 : World} : ∀ {l : List Oper} {r : List RS}, Obls P ops Q F S w0 l r → RegObl P N ops (fun _ w => RowKit.Below w0.heap.size w0 w) Ext Q F S l r
  | [], _, _ => by simp [RegObl]
  | _ :: _, [], _ => by simp [RegObl]
  | _ :: _, _ :: _, h => ⟨fun v _ w K _ hC hF hK => h.1 v w K hC hF fun u w' hp hR => hK u w' hp hR (hC.trans (hR.mono hC.size)), obl_of h.2⟩

/-- A region in which nothing that was there is written, but by the tail. -/
theorem wp_region_pure {id : Nat} {a0 : Act} {w0 : World} {l : List Oper} (hm : P.follows .mixedOrders = true) (uses : List (List Nat)) (S : List RS) (free : List Nat) (hu : S.map (·.use) = uses)
    (hsel : Region.noSelect l.toArray = true) (hQ : free ≠ [] → ∀ c a d v w, Q (.panic c) (Act.put a d v) w → Q (.panic c) a w)
    (hc : regCheck l uses free = true) (htk : takeOk l.toArray free (Array.replicate l.length false) = true) (hst : Stable Ext S)
    (F : (Nat → Value) → Act) (hF : ∀ v, puts a0 (l.take S.length) 0 v = F v)
    (hop : Obls P l.toArray Q F S w0 l S) (hfo : FreeOk a0 l S free)
    (hend : ∀ (v : Nat → Value) (w : World), RowKit.Below w0.heap.size w0 w → Facts S v w (List.range S.length) → wpList P l.toArray Q (l.drop S.length) (F v) w) :
    (Code.region id l.toArray true).wp P Q a0 w0 := by
  have e : puts a0 (l.take S.length) 0 = F := funext hF
  exact wp_region_facts hm (fun _ w => RowKit.Below w0.heap.size w0 w) Ext S free hsel hQ (by rw [hu]; exact hc) htk hst (RowKit.Below.refl _ _).drew (by rw [e]; exact obl_of hop) hfo fun v _ w _ hC hf => by rw [e]; exact hend v w hC hf

end
end Go.Proofs.Ytadpmigppjjmhaa
