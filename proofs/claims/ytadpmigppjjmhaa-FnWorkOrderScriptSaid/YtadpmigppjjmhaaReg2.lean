/-
  The rule for regions that draw, with operations that may come late: pure operations (a part of a tuple) for which the tail need not wait. They are taken as soon as they are ready.
-/
import Derived.Test.YtadpmigppjjmhaaReg
namespace Go.Proofs.Ytadpmigppjjmhaa
open Go

def regCheck2 (ops : List Oper) (uses : List (List Nat)) (free late : List Nat) : Bool :=
  (decide (uses.length ≤ ops.length) && decide (free.length ≤ ops.length)) &&
  (ops.zipIdx.all fun (o, i) => o.after.all fun e => !Region.binds .any e || decide (e.on < i)) &&
  (ops.zipIdx.all fun (o, t) => decide (t < uses.length) || (List.range t).all fun j => (free ++ late).contains j || (closure ops 12 (direct o)).contains j) &&
  ((uses.zip ops).all fun (u, o) => u.all fun k => (direct o).contains k) &&
  (((ops.take uses.length).filterMap (·.dst)).Nodup) &&
  (free.all fun f => decide (f < uses.length) && (match ops[f]? with | some o => isMove ((ops.take uses.length).filterMap (·.dst)) o && (direct o).isEmpty | none => false)) &&
  (late.all fun f => decide (f < uses.length) && (match ops[f]? with | some o => (direct o).all fun j => !late.contains j | none => false))
/-- Listed: what operation f waits for. -/
def marked (n : Nat) (C : List Nat) : Array Bool := ((List.range n).map fun k => C.contains k).toArray
theorem marked_get {n j : Nat} {C : List Nat} (h : j < n) : (marked n C).getD j true = C.contains j := by simp [marked, Array.getD, h]
def before (l : List Oper) (f : Nat) : Array Bool := marked l.length (closure l 12 ((l[f]?.map direct).getD []))
def lateFree (l : List Oper) (late : List Nat) : Bool := late.all fun f => Region.free .any l.toArray (before l f) f

theorem regCheck2_parts {l : List Oper} {uses : List (List Nat)} {free late : List Nat} (h : regCheck2 l uses free late = true) :
    (uses.length ≤ l.length ∧ free.length ≤ l.length) ∧ (∀ (i : Nat) (o : Oper), l[i]? = some o → ∀ e ∈ o.after, Region.binds .any e = true → e.on < i) ∧
    (∀ (t : Nat) (o : Oper), l[t]? = some o → uses.length ≤ t → ∀ j, j < t → j ∈ free ++ late ∨ j ∈ closure l 12 (direct o)) ∧
    (∀ (i : Nat) (o : Oper) (u : List Nat), l[i]? = some o → uses[i]? = some u → ∀ k ∈ u, k ∈ direct o) ∧
    ((l.take uses.length).filterMap (·.dst)).Nodup ∧
    (∀ f ∈ free, f < uses.length ∧ ∃ o t, l[f]? = some o ∧ o.op = .move (.tmp t) ∧ o.guard = none ∧ t ∉ (l.take uses.length).filterMap (·.dst) ∧ direct o = []) ∧
    (∀ f ∈ late, f < uses.length ∧ ∃ o, l[f]? = some o ∧ ∀ j ∈ direct o, j ∉ late) := by
  simp only [regCheck2, Bool.and_eq_true, decide_eq_true_eq] at h
  obtain ⟨⟨⟨⟨⟨⟨h1, h2⟩, h3⟩, h4⟩, h5⟩, h6⟩, h7⟩ := h
  refine ⟨h1, fun i o ho e he hb => ?_, fun t o ho ht j hj => ?_, fun i o u ho hu k hk => ?_, h5, fun f hf => ?_, fun f hf => ?_⟩
  · have hm : (o, i) ∈ l.zipIdx := by rw [List.mem_zipIdx_iff_getElem?]; exact ho
    have := (List.all_eq_true.1 h2) (o, i) hm
    have := (Array.all_eq_true'.1 this) e he
    simpa [hb] using this
  · have hm : (o, t) ∈ l.zipIdx := by rw [List.mem_zipIdx_iff_getElem?]; exact ho
    have := (List.all_eq_true.1 h3) (o, t) hm
    simp only [Bool.or_eq_true, decide_eq_true_eq, List.all_eq_true, List.mem_range, List.contains_iff_mem] at this
    rcases this with h | h
    · omega
    · exact h j hj
  · have hm : (u, o) ∈ uses.zip l := by
      rw [List.mem_iff_getElem?]
      exact ⟨i, List.getElem?_zip_eq_some.2 ⟨hu, ho⟩⟩
    have := (List.all_eq_true.1 h4) (u, o) hm
    have := (List.all_eq_true.1 this) k hk
    simpa [List.contains_iff_mem] using this
  · have := (List.all_eq_true.1 h6) f hf
    simp only [Bool.and_eq_true, decide_eq_true_eq] at this
    obtain ⟨hlt, hm⟩ := this
    refine ⟨hlt, ?_⟩
    cases ho : l[f]? with
    | none => simp [ho] at hm
    | some o =>
      simp only [ho, Bool.and_eq_true] at hm
      obtain ⟨hm, hd⟩ := hm
      unfold isMove at hm
      split at hm
      · rename_i t hop hgd
        exact ⟨o, t, rfl, hop, hgd, by simpa [List.contains_iff_mem] using hm, by simpa using hd⟩
      · cases hm
  · have := (List.all_eq_true.1 h7) f hf
    simp only [Bool.and_eq_true, decide_eq_true_eq] at this
    obtain ⟨hlt, hm⟩ := this
    refine ⟨hlt, ?_⟩
    cases ho : l[f]? with
    | none => simp [ho] at hm
    | some o =>
      simp only [ho, List.all_eq_true] at hm
      exact ⟨o, rfl, fun j hj hin => by have := hm j hj; simp [hin] at this⟩

theorem free_mono {l : List Oper} {listed : Array Bool} {f : Nat} {o : Oper} (ho : l[f]? = some o) (hc : ∀ k ∈ closure l 12 (direct o), listed.getD k true = true) (h : Region.free .any l.toArray (before l f) f = true) : Region.free .any l.toArray listed f = true := by
  have ho' : l.toArray[f]? = some o := by simpa using ho
  unfold Region.free at h ⊢
  rw [ho'] at h ⊢
  simp only [List.all_eq_true, List.mem_range] at h ⊢
  intro j hj
  have h1 := h j hj
  have hjn : j < l.length := by simpa using hj
  simp only [Bool.or_eq_true] at h1 ⊢
  rcases h1 with (h1 | h1) | h1
  · exact .inl (.inl h1)
  · refine .inl (.inr (hc j ?_))
    unfold before at h1
    rw [ho, marked_get hjn] at h1
    exact List.contains_iff_mem.1 h1
  · exact .inr h1

section
variable {P : Program} {ops : Array Oper} {Q : Exit → Act → World → Prop}

theorem wp_region_late {id : Nat} {a0 : Act} {w0 : World} {l : List Oper} (hm : P.follows .mixedOrders = true) (C : Nat → World → Prop) (R : World → World → Prop) (S : List RS) (free late : List Nat)
    (hsel : Region.noSelect l.toArray = true) (hQ : free ++ late ≠ [] → ∀ c a d v w, Q (.panic c) (Act.put a d v) w → Q (.panic c) a w)
    (hc : regCheck2 l (S.map (·.use)) free late = true) (hlf : lateFree l late = true) (htk : takeOk l.toArray free (Array.replicate l.length false) = true) (hst : Stable R S) (h0 : C 0 w0.drew)
    (hop : RegObl P l.length l.toArray C R Q (puts a0 (l.take S.length) 0) S l S) (hfo : FreeOk a0 l S free)
    (hlate : ∀ f ∈ late, ∀ o s, l[f]? = some o → S[f]? = some s → ∀ (v : Nat → Value) (w : World), Facts S v w s.use → ∃ x, Yields P l.toArray o x (puts a0 (l.take S.length) 0 v) ∧ ∀ w, s.post x w)
    (hend : ∀ (v : Nat → Value) (k : Nat) (w : World), k ≤ l.length → C k w → Facts S v w (List.range S.length) → wpList P l.toArray Q (l.drop S.length) (puts a0 (l.take S.length) 0 v) w) :
    (Code.region id l.toArray true).wp P Q a0 w0 := by
  obtain ⟨⟨hle, hfl⟩, hac, hta, huse, hnd, hfr, hlt⟩ := regCheck2_parts hc
  simp only [List.length_map] at hle hta hnd hfr hlt
  have hall1 : ∀ f ∈ free ++ late, f < S.length := fun f hf => by rcases List.mem_append.1 hf with h | h; exact (hfr f h).1; exact (hlt f h).1
  have hlf' : ∀ f ∈ late, Region.free .any l.toArray (before l f) f = true := fun f hf => List.all_eq_true.1 hlf f hf
  have hfr1 : ∀ f ∈ free, f < S.length := fun f hf => (hfr f hf).1
  have hm' : ∀ (fuel : Nat) (listed : Array Bool) (v : Nat → Value) (w : World) (k : Nat), listed.size = l.length → listed.toList.countP (! ·) = fuel → k + fuel ≤ l.length → C k w → Closed l listed → (∀ f ∈ free, listed.getD f true = true) →
      (∀ t, S.length ≤ t → t < l.length → listed.getD t true = false) → (∀ i s, S[i]? = some s → listed.getD i true = true → s.post (v i) w) →
      wpAny P .any l.toArray Q fuel listed (puts a0 (l.take S.length) 0 v) w := by
    intro fuel
    induction fuel with
    | zero =>
      intro listed v w k hs hcnt hk hC hcl hfrl htl hfa
      have hall : ∀ i, i < l.length → listed.getD i true = true := fun i hi => by
        have h1 : i < listed.size := by omega
        simp only [Array.getD, h1, dite_true]
        have := List.countP_eq_zero.1 hcnt listed[i] (Array.getElem_mem_toList h1)
        simpa using this
      have hSl : S.length = l.length := by
        rcases Nat.lt_or_ge S.length l.length with h | h
        · have h1 := htl _ (Nat.le_refl _) h
          have h2 := hall _ h
          exact absurd (h1.symm.trans h2) (by decide)
        · omega
      refine tail_walk (ops := l.toArray) (by simp) hac hta hall1 0 l.length listed _ w (by omega) (by omega) hs (fun i hi => by rw [hall i hi]; simpa using hi) hcl ?_
      have := hend v k w (by omega) hC (facts_of fun i hi s hs' => hfa i s hs' (hall i (by have := List.mem_range.1 hi; omega)))
      rw [hSl] at this
      simpa [hSl] using this
    | succ fuel ih =>
      intro listed v w k hs hcnt hk hC hcl hfrl htl hfa
      by_cases hlx : ∃ f, f ∈ late ∧ listed.getD f true = false ∧ f ∈ Region.ready .any l.toArray listed
      · obtain ⟨f, hf, hfu, hfr'⟩ := hlx
        have hfS : f < S.length := (hlt f hf).1
        have hfl' : f < l.length := by omega
        have hfs : f < listed.size := by omega
        obtain ⟨_, o, hof, hall⟩ := mem_ready.1 hfr'
        have hof' : l[f]? = some o := by simpa using hof
        have hs' : S[f]? = some S[f] := List.getElem?_eq_getElem hfS
        have husef : (S.map (·.use))[f]? = some S[f].use := by simp [hfS]
        have listedD : ∀ k ∈ direct o, listed.getD k true = true := fun k hk => by
          obtain ⟨e, he, hb, hon⟩ := mem_direct.1 hk
          have h1 := hall e he hb
          rw [hon] at h1
          by_cases hsz : k < listed.size
          · simpa [Array.getD, hsz] using h1
          · simp [Array.getD, hsz]
        have hF := facts_of (S := S) (v := v) (w := w) (l := S[f].use) fun k' hk' s hs'' => hfa k' s hs'' (listedD k' (huse f o _ hof' husef k' hk'))
        obtain ⟨x, hy, hpost⟩ := hlate f hf o S[f] hof' hs' v w hF
        refine wpAny_take (v := x) hof hsel (free_mono hof' (closure_listed hcl 12 (direct o) listedD) (hlf' f hf)) (by simpa using hfr') (fun c a w => hQ (by intro e; have := List.append_eq_nil_iff.1 e; rw [this.2] at hf; cases hf) c a _ _ w) hy ?_
        have hput : (puts a0 (l.take S.length) 0 v).put o.dst x = puts a0 (l.take S.length) 0 (fun i => if i = 0 + f then x else v i) := puts_put hnd (by rw [List.getElem?_take]; simp [hfS, hof'])
        rw [hput]
        refine ih _ _ w k (by simpa using hs) (by have := count_set hfu; omega) (by omega) hC (closed_step hcl hof' hall hfs) (fun f' hf' => by rw [getD_set_true _ hfs]; split <;> simp [hfrl f' hf']) (fun t ht htl' => ?_) (fun i s hsi hli => ?_)
        · rw [getD_set_true _ hfs, if_neg (by omega)]; exact htl t ht htl'
        · rw [getD_set_true _ hfs] at hli
          simp only [Nat.zero_add]
          by_cases e : i = f
          · subst e
            rw [if_pos rfl]
            rw [hs'] at hsi
            cases hsi
            exact hpost w
          · rw [if_neg e] at hli ⊢
            exact hfa i s hsi hli
      by_cases hpre : ∀ i, i < S.length → listed.getD i true = true
      · have hli : ∀ i, i < l.length → listed.getD i true = decide (i < S.length) := fun i hi => by
          by_cases h : i < S.length
          · rw [hpre i h]; simpa using h
          · rw [htl i (by omega) hi]; simpa using h
        have hcn : fuel + 1 + S.length = l.length := by
          have e : listed.toList = List.replicate S.length true ++ List.replicate (l.length - S.length) false := by
            apply List.ext_getElem
            · simp; omega
            · intro i h1 h2
              have hi : i < l.length := by simpa [hs] using h1
              have h3 := hli i hi
              have h4 : i < listed.size := by omega
              simp only [Array.getD, h4, dite_true] at h3
              rw [Array.getElem_toList, show listed[i] = decide (i < S.length) from h3, List.getElem_append]
              split
              · rename_i h; simp at h; simp [h]
              · rename_i h; simp at h; simp; omega
          rw [e, List.countP_append] at hcnt
          simp [List.countP_replicate] at hcnt
          omega
        exact tail_walk (ops := l.toArray) (by simp) hac hta hall1 (fuel + 1) S.length listed _ w (Nat.le_refl _) hcn hs hli hcl
          (hend v k w (by omega) hC (facts_of fun i hi s hs' => hfa i s hs' (hpre i (List.mem_range.1 hi))))
      · have hex : ∃ i, i < S.length ∧ listed.getD i true = false := by
          false_or_by_contra
          rename_i hne
          exact hpre fun i hi => by
            cases h : listed.getD i true with
            | true => rfl
            | false => exact absurd ⟨i, hi, h⟩ hne
        have hlow : ∀ n i, i ≤ n → i < S.length → listed.getD i true = false → ∃ j, j < S.length ∧ j ∈ Region.ready .any l.toArray listed := by
          intro n
          induction n with
          | zero =>
            intro i hi hiS hu
            have hil : i < l.length := by omega
            refine ⟨i, hiS, mem_ready.2 ⟨hu, l[i], by simp [hil], fun e he hb => ?_⟩⟩
            have := hac i l[i] (List.getElem?_eq_getElem hil) e he hb
            omega
          | succ n ihn =>
            intro i hi hiS hu
            have hil : i < l.length := by omega
            by_cases hr : ∀ e ∈ l[i].after, Region.binds .any e = true → listed.getD e.on false = true
            · exact ⟨i, hiS, mem_ready.2 ⟨hu, l[i], by simp [hil], hr⟩⟩
            · have : ∃ e, e ∈ l[i].after ∧ Region.binds .any e = true ∧ listed.getD e.on false = false := by
                false_or_by_contra
                rename_i hne
                exact hr fun e he hb => by
                  cases h : listed.getD e.on false with
                  | true => rfl
                  | false => exact absurd ⟨e, he, hb, h⟩ hne
              obtain ⟨e, he, hb, hf⟩ := this
              have hlt := hac i l[i] (List.getElem?_eq_getElem hil) e he hb
              have hsz : e.on < listed.size := by omega
              exact ihn e.on (by omega) (by omega) (by simpa [Array.getD, hsz] using hf)
        obtain ⟨i, hi, hu⟩ := hex
        obtain ⟨j0, _, hj0⟩ := hlow i i (Nat.le_refl _) hi hu
        refine ⟨(fun h => by rw [h] at hj0; cases hj0), fun j hj => ?_⟩
        obtain ⟨hju, o, hoj, hall⟩ := mem_ready.1 hj
        have hoj' : l[j]? = some o := by simpa using hoj
        have hjl : j < l.length := (List.getElem?_eq_some_iff.1 hoj').1
        have hjs : j < listed.size := by omega
        have listedD : ∀ k ∈ direct o, listed.getD k true = true := fun k hk => by
          obtain ⟨e, he, hb, hon⟩ := mem_direct.1 hk
          have h1 := hall e he hb
          rw [hon] at h1
          by_cases hsz : k < listed.size
          · simpa [Array.getD, hsz] using h1
          · simp [Array.getD, hsz]
        by_cases hjS : j < S.length
        · have hs' : S[j]? = some S[j] := List.getElem?_eq_getElem hjS
          have husej : (S.map (·.use))[j]? = some S[j].use := by simp [hjS]
          have hF := facts_of (S := S) (v := v) (w := w) (l := S[j].use) fun k' hk' s hs'' => hfa k' s hs'' (listedD k' (huse j o _ hoj' husej k' hk'))
          have hstep := obl_at hop hoj' hs' v k w (wpAny P .any l.toArray Q fuel (listed.setIfInBounds j true)) (by omega) hC hF (fun u w' hp hR hC' => by
            have hput : (puts a0 (l.take S.length) 0 v).put o.dst u = puts a0 (l.take S.length) 0 (fun i => if i = 0 + j then u else v i) := puts_put hnd (by rw [List.getElem?_take]; simp [hjS, hoj'])
            rw [hput]
            refine ih _ _ w' (k + 1) (by simpa using hs) (by have := count_set hju; omega) (by omega) hC' (closed_step hcl hoj' hall hjs) (fun f hf => by rw [getD_set_true _ hjs]; split <;> simp [hfrl f hf]) (fun t ht htl' => ?_) (fun i s hsi hli => ?_)
            · rw [getD_set_true _ hjs, if_neg (by omega)]; exact htl t ht htl'
            · rw [getD_set_true _ hjs] at hli
              simp only [Nat.zero_add]
              by_cases e : i = j
              · subst e
                rw [if_pos rfl]
                rw [hs'] at hsi
                cases hsi
                exact hp
              · rw [if_neg e] at hli ⊢
                exact stable_at hst hsi _ _ _ hR (hfa i s hsi hli))
          unfold wpOp
          rw [show (l.toArray)[j]? = some o from hoj]
          show if Region.wanted o (yielded l.toArray (puts a0 (l.take S.length) 0 v).tmps) then _ else _
          split
          · rename_i hw; rw [if_pos hw] at hstep; exact .inl hstep
          · rename_i hw
            rw [if_neg hw] at hstep
            exact hstep
        · exfalso
          have tail : ∀ d, d < j → d ∉ late → listed.getD d true = true := fun d hd hdl => by
            rcases hta j o hoj' (by omega) d hd with hin | hin
            · rcases List.mem_append.1 hin with h | h
              · exact hfrl d h
              · exact absurd h hdl
            · exact closure_listed hcl 12 (direct o) listedD d hin
          rcases hta j o hoj' (by omega) i (by omega) with hin | hin
          · rcases List.mem_append.1 hin with hin | hin
            · rw [hfrl i hin] at hu; cases hu
            · obtain ⟨_, o', ho', hd'⟩ := hlt i hin
              refine hlx ⟨i, hin, hu, mem_ready.2 ⟨hu, o', by simpa using ho', fun e he hb => ?_⟩⟩
              have hdm : e.on ∈ direct o' := mem_direct.2 ⟨e, he, hb, rfl⟩
              have hlt' := hac i o' ho' e he hb
              have h1 := tail e.on (by omega) (hd' _ hdm)
              have hsz : e.on < listed.size := by omega
              simpa [Array.getD, hsz] using h1
          · have := closure_listed hcl 12 (direct o) listedD i hin
            rw [hu] at this; cases this
  refine wp_region_any hm ?_
  have hps := puts_start a0 (l.take S.length) 0
  have hcr : (Array.replicate l.length false).toList.countP (! ·) = l.length := by simp [List.countP_replicate]
  have ht := take_all (w := w0.drew) hsel hnd free (l.length - free.length) (Array.replicate l.length false) (slotOf a0 (l.take S.length) 0) (fun hne => hQ (by intro e; exact hne (List.append_eq_nil_iff.1 e).1)) htk (by simp) (by rw [hcr]; omega) hfr
    (fun k o ho hk => by
      have hkl : k < l.length := (List.getElem?_eq_some_iff.1 ho).1
      simp [Array.getD, hkl] at hk)
    (fun v' h1 h2 h3 h4 => hm' _ _ v' _ 0 (by rw [listedOf_size]; simp) h4 (by omega) h0 h3
      (fun f hf => by
        have hfs := hfr1 f hf
        rw [listedOf_get _ _ _ (by simp; omega)]
        simp [hf])
      (fun t ht htl => by
        rw [listedOf_get _ _ _ (by simpa using htl)]
        have : t ∉ free := fun hm => by have := hfr1 t hm; omega
        simp [Array.getD, htl, this])
      (fun i s hs hli => by
        have hi : i < S.length := (List.getElem?_eq_some_iff.1 hs).1
        rw [listedOf_get _ _ _ (by simp; omega)] at hli
        have hil : i < l.length := by omega
        have hin : i ∈ free := by simpa [Array.getD, hil] using hli
        obtain ⟨_, o, t, ho, hop', _⟩ := hfr i hin
        rw [h1 i hin o t ho hop']
        exact freeOk_at hfo i hin o t s ho hop' hs _))
  rw [hps, show l.length - free.length + free.length = l.length by omega] at ht
  simpa using ht

/-- The late operations, one by one. -/
def LateOk (P : Program) (l : List Oper) (F : (Nat → Value) → Act) (S : List RS) : List Nat → Prop
  | [] => True
  | f :: r => (match l[f]?, S[f]? with | some o, some s => ∀ (v : Nat → Value) (w : World), Facts S v w s.use → ∃ x, Yields P l.toArray o x (F v) ∧ ∀ w, s.post x w | _, _ => False) ∧ LateOk P l F S r
theorem lateOk_at {l : List Oper} {F : (Nat → Value) → Act} {S : List RS} : ∀ {late : List Nat}, LateOk P l F S late → ∀ f ∈ late, ∀ o s, l[f]? = some o → S[f]? = some s → ∀ (v : Nat → Value) (w : World), Facts S v w s.use → ∃ x, Yields P l.toArray o x (F v) ∧ ∀ w, s.post x w
  | [], _, _, h => by cases h
  | f' :: r, h, f, hf => fun o s ho hs => by
    rcases List.mem_cons.1 hf with rfl | hm
    · have := h.1
      simp only [ho, hs] at this
      exact this
    · exact lateOk_at h.2 f hm o s ho hs

theorem wp_region_pure2 {id : Nat} {a0 : Act} {w0 : World} {l : List Oper} (hm : P.follows .mixedOrders = true) (uses : List (List Nat)) (S : List RS) (free late : List Nat) (hu : S.map (·.use) = uses)
    (hsel : Region.noSelect l.toArray = true) (hQ : free ++ late ≠ [] → ∀ c a d v w, Q (.panic c) (Act.put a d v) w → Q (.panic c) a w)
    (hc : regCheck2 l uses free late = true) (hlf : lateFree l late = true) (htk : takeOk l.toArray free (Array.replicate l.length false) = true) (hst : Stable Ext S)
    (F : (Nat → Value) → Act) (hF : ∀ v, puts a0 (l.take S.length) 0 v = F v)
    (hop : Obls P l.toArray Q F S w0 l S) (hfo : FreeOk a0 l S free) (hlo : LateOk P l F S late)
    (hend : ∀ (v : Nat → Value) (w : World), RowKit.Below w0.heap.size w0 w → Facts S v w (List.range S.length) → wpList P l.toArray Q (l.drop S.length) (F v) w) :
    (Code.region id l.toArray true).wp P Q a0 w0 := by
  have e : puts a0 (l.take S.length) 0 = F := funext hF
  exact wp_region_late hm (fun _ w => RowKit.Below w0.heap.size w0 w) Ext S free late hsel hQ (by rw [hu]; exact hc) hlf htk hst (RowKit.Below.refl _ _).drew (by rw [e]; exact obl_of hop) hfo (by rw [e]; exact lateOk_at hlo) fun v _ w _ hC hf => by rw [e]; exact hend v w hC hf

end
end Go.Proofs.Ytadpmigppjjmhaa
