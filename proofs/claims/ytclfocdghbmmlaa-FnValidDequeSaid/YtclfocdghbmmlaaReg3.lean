/-
  A region that draws its order, with appends in it: blocks that the call has made may be written behind what is said of them; all lists said of are beginnings of one list.
-/
import Derived.Test.YtclfocdghbmmlaaRegQ
import Derived.Test.YtclfocdghbmmlaaVals
import Derived.Deep.Upon
namespace Go.Proofs.Ytclfocdghbmmlaa
open Go.RowKit

set_option linter.unusedSimpArgs false
set_option linter.unusedVariables false

/-- Nothing below block B is turned; blocks from B on keep their size, and a cell that turns lies at k0 or later and takes its value from the list fin. -/
structure RF (B : Nat) (T : TypeId) (k0 : Nat) (fin : List Value) (w w' : World) : Prop where
  below : Below B w w'
  blk : ∀ (g : Nat) (cur : Array Value) (U : TypeId), w.heap[g]? = some (.cells cur U (0, 0)) →
    w'.heap[g]? = some (.cells cur U (0, 0)) ∨ (U = T ∧ ∃ cur', w'.heap[g]? = some (.cells cur' U (0, 0)) ∧ cur'.size = cur.size ∧ ∀ i, cur'[i]? = cur[i]? ∨ (k0 ≤ i ∧ cur'[i]? = fin[i]?))

section
variable {B : Nat} {T : TypeId} {k0 : Nat} {fin : List Value} {w w' : World}
theorem RF.of (h : Below w.heap.size w w') (hB : B ≤ w.heap.size) : RF B T k0 fin w w' := ⟨h.mono hB, fun g cur U hg => .inl (blk_below hg h)⟩

theorem owns_rf {base sz n : Nat} {v : Value} {U : TypeId} {xs : List Value} (hp : ∀ (i : Nat) u, xs[i]? = some u → fin[i]? = some u) (hR : RF B T k0 fin w w') (h : w.ownsRow base U sz v n xs) : w'.ownsRow base U sz v n xs := by
  refine ⟨h.1, ?_⟩
  rcases h.2 with e | ⟨g, cap, cur, e, hb, hg, hn, hc, hs, ht⟩
  · exact .inl e
  · rcases hR.blk g cur U hg with hg' | ⟨_, cur', hg', hs', hat⟩
    · exact .inr ⟨g, cap, cur, e, hb, hg', hn, hc, hs, ht⟩
    · refine .inr ⟨g, cap, cur', e, hb, hg', hn, hc, hs'.trans hs, ?_⟩
      apply List.ext_getElem?
      intro i
      rw [List.getElem?_take]
      by_cases hi : i < n * sz
      · rw [if_pos hi, Array.getElem?_toList]
        have hx : xs[i]? = cur[i]? := by rw [← ht, List.getElem?_take, if_pos hi, Array.getElem?_toList]
        rcases hat i with e' | ⟨_, e'⟩
        · rw [e', hx]
        · have hl : i < xs.length := by rw [h.1]; exact hi
          have hu : xs[i]? = some xs[i] := List.getElem?_eq_getElem hl
          rw [e', hp i _ hu, hu]
      · rw [if_neg hi, List.getElem?_eq_none (by rw [h.1]; omega)]

theorem ownW_rf {base : Nat} {v : Value} {U : TypeId} {xs : List Value} (hp : ∀ (i : Nat) u, xs[i]? = some u → fin[i]? = some u) (hR : RF B T k0 fin w w') (h : OwnW U base w v xs) : OwnW U base w' v xs := by
  obtain ⟨A, c, e, h1, h2, h3, h4⟩ := h
  refine ⟨A, c, e, h1, h2, h3, fun hn => ?_⟩
  obtain ⟨g, cur, e', hg, hs, hat⟩ := h4 hn
  rcases hR.blk g cur U hg with hg' | ⟨_, cur', hg', hs', hat'⟩
  · exact ⟨g, cur, e', hg', hs, hat⟩
  · refine ⟨g, cur', e', hg', by omega, fun i u hu => ?_⟩
    rcases hat' i with e2 | ⟨_, e2⟩
    · rw [e2]; exact hat i u hu
    · rw [e2]; exact hp i u hu

theorem isSl_rf {b : Nat} {cs : Array Value} {U : TypeId} {m : Nat} {v : Value} (hk : U ≠ T ∨ cs.size ≤ k0) (hR : RF B T k0 fin w w') (h : IsSl b cs U m v w) : IsSl b cs U m v w' := by
  obtain ⟨g, e, h1, h2, h3⟩ := h
  refine ⟨g, e, h1, Nat.lt_of_lt_of_le h2 hR.below.size, ?_⟩
  rcases hR.blk g cs U h3 with hg' | ⟨hU, cur', hg', hs', hat⟩
  · exact hg'
  · rcases hk with hk | hk
    · exact absurd hU hk
    · have : cur' = cs := by
        apply Array.ext_getElem?
        intro i
        rcases hat i with e2 | ⟨h0, e2⟩
        · exact e2
        · rw [Array.getElem?_eq_none (by omega), Array.getElem?_eq_none (by omega)]
      rw [hg', this]

theorem st_slF {use : List Nat} {b : Nat} {cs : Array Value} {U : TypeId} {m : Nat} {S : List RS} (hk : U ≠ T ∨ cs.size ≤ k0) (h : Stable (RF B T k0 fin) S) : Stable (RF B T k0 fin) (RS.sl use b cs U m :: S) :=
  ⟨fun _ _ _ hR h => isSl_rf hk hR h, h⟩
end

section
variable {P : Program} {ops : Array Oper} {Q : Exit → Act → World → Prop}

def OblsF (P : Program) (ops : Array Oper) (Q : Exit → Act → World → Prop) (F : (Nat → Value) → Act) (S : List RS) (T : TypeId) (k0 : Nat) (fin : List Value) (w0 : World) : List Oper → List RS → Prop
  | o :: l, s :: r => (∀ (v : Nat → Value) (w : World) (K : Act → World → Prop), Below w0.heap.size w0 w → Facts S v w s.use →
        (∀ u w', s.post u w' → RF w0.heap.size T k0 fin w w' → K ((F v).put o.dst u) w') →
        if Region.wanted o (yielded ops (F v).tmps) then o.wp P (F v) w K Q else K ((F v).put o.dst undef) w) ∧ OblsF P ops Q F S T k0 fin w0 l r
  | _, _ => True

theorem oblF_of {F : (Nat → Value) → Act} {S : List RS} {T : TypeId} {k0 : Nat} {fin : List Value} {w0 : World} {N : Nat} : ∀ {l : List Oper} {r : List RS}, OblsF P ops Q F S T k0 fin w0 l r → RegObl P N ops (fun _ w => Below w0.heap.size w0 w) (RF w0.heap.size T k0 fin) Q F S l r
  | [], _, _ => by simp [RegObl]
  | _ :: _, [], _ => by simp [RegObl]
  | _ :: _, _ :: _, h => ⟨fun v _ w K _ hC hF hK => h.1 v w K hC hF fun u w' hp hR => hK u w' hp hR (hC.trans hR.below), oblF_of h.2⟩

theorem wp_region_app {id : Nat} {a0 : Act} {w0 : World} {l : List Oper} (T : TypeId) (k0 : Nat) (fin : List Value) (hm : P.follows .mixedOrders = true) (uses : List (List Nat)) (S : List RS) (free : List Nat) (hu : S.map (·.use) = uses)
    (hsel : Region.noSelect l.toArray = true) (hQ : free ≠ [] → ∀ c a d v w, Q (.panic c) (Act.put a d v) w → Q (.panic c) a w)
    (hc : regCheck l uses free = true) (htk : takeOk l.toArray free (Array.replicate l.length false) = true) (hst : Stable (RF w0.heap.size T k0 fin) S)
    (F : (Nat → Value) → Act) (hF : ∀ v, puts a0 (l.take S.length) 0 v = F v)
    (hop : OblsF P l.toArray Q F S T k0 fin w0 l S) (hfo : FreeOk a0 l S free)
    (hend : ∀ (v : Nat → Value) (w : World), Below w0.heap.size w0 w → Facts S v w (List.range S.length) → wpList P l.toArray Q (l.drop S.length) (F v) w) :
    (Code.region id l.toArray true).wp P Q a0 w0 := by
  have e : puts a0 (l.take S.length) 0 = F := funext hF
  exact wp_region_facts hm (fun _ w => Below w0.heap.size w0 w) (RF w0.heap.size T k0 fin) S free hsel hQ (by rw [hu]; exact hc) htk hst (Below.refl _ _).drew (by rw [e]; exact oblF_of hop) hfo fun v _ w _ hC hf => by rw [e]; exact hend v w hC hf
end

theorem grow_below (w : World) (o : Obj) : Below w.heap.size w (w.drew.alloc o) := ⟨rfl, rfl, rfl, by simp, fun k hk => Go.heap_alloc_old w.drew o (r := k) hk⟩

section
variable {P : Program} {ops : Array Oper} {o : Oper} {a : Act} {K : Act → World → Prop} {Q : Exit → Act → World → Prop} {E : Prop} {w : World}

/-- append to an empty list that has just been written out. -/
theorem op_append_new {tm : Array Value} (hw : Region.wanted o (yielded ops tm) = true) (s x : Operand) (t T : TypeId) (sz : Nat) (z : Value) (bytes : Nat)
    (ht : P.underlying t = some (.slice T)) (hi : (P.info? T).map (fun i => (i.zero, i.size, i.bytes)) = some (some z, sz, bytes)) (hzs : z.cells.size = sz) (hsz : 0 < sz) (hby : bytes ≤ 64)
    (ho : o.op = .call { callee := .builtin .append, args := #[s, x], argTypes := #[t, t] })
    (base g : Nat) (hs : a.eval s = .slice (some ⟨g, 0, none⟩) 0 0) (hbg : base ≤ g) (hg : w.heap[g]? = some (.cells #[] T (0, 0)))
    (A : Option Addr) (m c : Nat) (us : List Value) (hx : a.eval x = .slice A m c) (hl : us.length = m * sz) (hnews : 0 < m → ∃ ad, A = some ad ∧ ∀ j u, us[j]? = some u → w.cell? (ad.add j) = some u)
    (h1 : ∀ u ∈ us, u.oneCell' = true) (hlen : m ≤ 1000000) (hbase : base ≤ w.heap.size)
    (h : ∀ v' w', w'.ownsRow base T sz v' m us → (m = 0 → ∃ g, v' = .slice (some ⟨g, 0, none⟩) 0 0) → Below w.heap.size w w' → K (a.put o.dst v') w') : if Region.wanted o (yielded ops tm) = true then Oper.wp P o a w K Q else E := by
  rw [if_pos hw]
  obtain ⟨i0, hi0, hz0, hz1, hz2⟩ := info_parts hi
  subst hz1
  have hown : w.ownsRow base T i0.size (.slice (some ⟨g, 0, none⟩) 0 0) 0 [] := ⟨by simp, .inr ⟨g, 0, #[], rfl, hbg, hg, Nat.le_refl _, Nat.zero_le _, by simp, by simp⟩⟩
  unfold Oper.wp execOp
  rcases Nat.eq_zero_or_pos m with rfl | hm
  · have hus : us = [] := List.eq_nil_of_length_eq_zero (by omega)
    subst hus
    have hsrc : Src P i0.size t (.slice A 0 c) 0 [] w := by
      cases A with
      | none => exact Src.ofNil w ht c
      | some ad => exact Src.ofSlice w ht ad 0 c [] (by simp) (fun j u hu => by simp at hu) (fun u hu => by simp at hu)
    have hr := run_append_nothing (P := P) w t t o.type T i0 ht hi0 (some ⟨g, 0, none⟩) 0 0 (Nat.le_refl _) _ hsrc
    simp only [ho, resolve, invoke, builtin, Sem.run_bind, Sem.run_pure, Result.andThen_ok, List.map_toArray, List.map_cons, List.map_nil, hs, hx, hr]
    exact h _ _ hown (fun _ => ⟨g, rfl⟩) (Below.refl _ _)
  · obtain ⟨ad, rfl, hn⟩ := hnews hm
    have hb2 : (0 + m) * bytes ≤ 1000000 * 64 := Nat.mul_le_mul (by omega) hby
    obtain ⟨v', w', hr, h2, h3, _, h5⟩ := run_append_own_at (P := P) w base t o.type T i0 z i0.size bytes ht hi0 hz0 rfl hz2 hzs hsz _ 0 [] hown ad m c us hl hn h1
      (by unfold maxLen; omega) (by omega) hbase
    have hgr := run_append_grow (P := P) w t o.type T i0 z ht hi0 hz0 ⟨g, 0, none⟩ 0 0 [] (by simp) (fun j v hv => by simp at hv) ad m c us hl hn (by omega) (by omega) (by rw [hz2]; exact growslice_fits (by omega) (by omega))
    have e := hr.symm.trans hgr
    injection e with e1 e2
    simp only [ho, resolve, invoke, builtin, Sem.run_bind, Sem.run_pure, Result.andThen_ok, List.map_toArray, List.map_cons, List.map_nil, hs, hx, hr]
    refine h v' w' (by simpa using h2) (fun h0 => by omega) ?_
    rw [e2]; exact grow_below _ _

/-- append to a list that has just been written out and has no room. -/
theorem op_append_full {tm : Array Value} (hw : Region.wanted o (yielded ops tm) = true) (s x : Operand) (t T : TypeId) (sz : Nat) (z : Value) (bytes : Nat)
    (ht : P.underlying t = some (.slice T)) (hi : (P.info? T).map (fun i => (i.zero, i.size, i.bytes)) = some (some z, sz, bytes)) (hzs : z.cells.size = sz) (hsz : 0 < sz) (hby : bytes ≤ 64)
    (ho : o.op = .call { callee := .builtin .append, args := #[s, x], argTypes := #[t, t] })
    (base g n : Nat) (cur : Array Value) (hs : a.eval s = .slice (some ⟨g, 0, none⟩) n n) (hbg : base ≤ g) (hg : w.heap[g]? = some (.cells cur T (0, 0))) (hcur : cur.size = n * sz)
    (A : Option Addr) (m c : Nat) (us : List Value) (hx : a.eval x = .slice A m c) (hl : us.length = m * sz) (hnews : 0 < m → ∃ ad, A = some ad ∧ ∀ j u, us[j]? = some u → w.cell? (ad.add j) = some u)
    (h1 : ∀ u ∈ us, u.oneCell' = true) (hlen : n + m ≤ 1000000) (hbase : base ≤ w.heap.size)
    (h : ∀ v' w', w'.ownsRow base T sz v' (n + m) (cur.toList ++ us) → Below w.heap.size w w' → K (a.put o.dst v') w') : if Region.wanted o (yielded ops tm) = true then Oper.wp P o a w K Q else E := by
  rw [if_pos hw]
  obtain ⟨i0, hi0, hz0, hz1, hz2⟩ := info_parts hi
  subst hz1
  have hown : w.ownsRow base T i0.size (.slice (some ⟨g, 0, none⟩) n n) n cur.toList :=
    ⟨by simp [hcur], .inr ⟨g, n, cur, rfl, hbg, hg, Nat.le_refl _, by unfold maxLen; omega, hcur, by rw [← hcur, List.take_of_length_le (by simp)]⟩⟩
  unfold Oper.wp execOp
  rcases Nat.eq_zero_or_pos m with rfl | hm
  · have hus : us = [] := List.eq_nil_of_length_eq_zero (by omega)
    subst hus
    have hsrc : Src P i0.size t (.slice A 0 c) 0 [] w := by
      cases A with
      | none => exact Src.ofNil w ht c
      | some ad => exact Src.ofSlice w ht ad 0 c [] (by simp) (fun j u hu => by simp at hu) (fun u hu => by simp at hu)
    have hr := run_append_nothing (P := P) w t t o.type T i0 ht hi0 (some ⟨g, 0, none⟩) n n (Nat.le_refl _) _ hsrc
    simp only [ho, resolve, invoke, builtin, Sem.run_bind, Sem.run_pure, Result.andThen_ok, List.map_toArray, List.map_cons, List.map_nil, hs, hx, hr]
    exact h _ _ (by rw [List.append_nil]; exact hown) (Below.refl _ _)
  · obtain ⟨ad, rfl, hn⟩ := hnews hm
    have hb2 : (n + m) * bytes ≤ 1000000 * 64 := Nat.mul_le_mul (by omega) hby
    obtain ⟨v', w', hr, h2, h3, _, h5⟩ := run_append_own_at (P := P) w base t o.type T i0 z i0.size bytes ht hi0 hz0 rfl hz2 hzs hsz _ n cur.toList hown ad m c us hl hn h1
      (by unfold maxLen; omega) (by omega) hbase
    have hgr := run_append_grow (P := P) w t o.type T i0 z ht hi0 hz0 ⟨g, 0, none⟩ n n cur.toList (by simp [hcur]) (fun j u hu => by
        rw [add_off, blk_cell hg, Nat.zero_add, ← Array.getElem?_toList]; exact hu) ad m c us hl hn (by omega) (by omega) (by rw [hz2]; exact growslice_fits (by omega) (by omega))
    have e := hr.symm.trans hgr
    injection e with e1 e2
    simp only [ho, resolve, invoke, builtin, Sem.run_bind, Sem.run_pure, Result.andThen_ok, List.map_toArray, List.map_cons, List.map_nil, hs, hx, hr]
    refine h v' w' h2 ?_
    rw [e2]; exact grow_below _ _

/-- append to a list of the call's own; there may be room. -/
theorem op_append_rf {tm : Array Value} (hw : Region.wanted o (yielded ops tm) = true) (s x : Operand) (t T : TypeId) (sz : Nat) (z : Value) (bytes : Nat)
    (ht : P.underlying t = some (.slice T)) (hi : (P.info? T).map (fun i => (i.zero, i.size, i.bytes)) = some (some z, sz, bytes)) (hzs : z.cells.size = sz) (hsz : 0 < sz) (hby : bytes ≤ 64)
    (ho : o.op = .call { callee := .builtin .append, args := #[s, x], argTypes := #[t, t] })
    (B k0 n : Nat) (v : Value) (xs fin : List Value) (hs : a.eval s = v) (hown : w.ownsRow B T sz v n xs) (hk : k0 ≤ n * sz ∨ ∃ A, v = .slice A 0 0)
    (A : Option Addr) (m c : Nat) (us : List Value) (hx : a.eval x = .slice A m c) (hl : us.length = m * sz) (hnews : 0 < m → ∃ ad, A = some ad ∧ ∀ j u, us[j]? = some u → w.cell? (ad.add j) = some u)
    (h1 : ∀ u ∈ us, u.oneCell' = true) (hlen : n + m ≤ 1000000) (hbase : B ≤ w.heap.size) (hp : ∀ (i : Nat) u, (xs ++ us)[i]? = some u → fin[i]? = some u)
    (h : ∀ v' w', w'.ownsRow B T sz v' (n + m) (xs ++ us) → RF B T k0 fin w w' → K (a.put o.dst v') w') : if Region.wanted o (yielded ops tm) = true then Oper.wp P o a w K Q else E := by
  rw [if_pos hw]
  obtain ⟨i0, hi0, hz0, hz1, hz2⟩ := info_parts hi
  subst hz1
  unfold Oper.wp execOp
  rcases Nat.eq_zero_or_pos m with rfl | hm
  · have hus : us = [] := List.eq_nil_of_length_eq_zero (by omega)
    subst hus
    have hsrc : Src P i0.size t (.slice A 0 c) 0 [] w := by
      cases A with
      | none => exact Src.ofNil w ht c
      | some ad => exact Src.ofSlice w ht ad 0 c [] (by simp) (fun j u hu => by simp at hu) (fun u hu => by simp at hu)
    obtain ⟨A', c', rfl, hle⟩ : ∃ A' c', v = .slice A' n c' ∧ n ≤ c' := by
      rcases hown.2 with ⟨e, hn0⟩ | ⟨g, cap, cur, e, _, _, hn, _⟩
      · exact ⟨none, 0, by rw [e, hn0], by omega⟩
      · exact ⟨_, cap, e, hn⟩
    have hr := run_append_nothing (P := P) w t t o.type T i0 ht hi0 A' n c' hle _ hsrc
    simp only [ho, resolve, invoke, builtin, Sem.run_bind, Sem.run_pure, Result.andThen_ok, List.map_toArray, List.map_cons, List.map_nil, hs, hx, hr]
    exact h _ _ (by rw [List.append_nil]; exact hown) (RF.of (Below.refl _ _) hbase)
  · obtain ⟨ad, rfl, hn⟩ := hnews hm
    have hb2 : (n + m) * bytes ≤ 1000000 * 64 := Nat.mul_le_mul hlen hby
    obtain ⟨v', w', hr, h2, h3, _, h5⟩ := run_append_own_at (P := P) w B t o.type T i0 z i0.size bytes ht hi0 hz0 rfl hz2 hzs hsz v n xs hown ad m c us hl hn h1
      (by unfold maxLen; omega) (by omega) hbase
    have hRF : RF B T k0 fin w w' := by
      rcases hown.2 with ⟨rfl, hn0⟩ | ⟨g, cap, cur, rfl, hb, hg, hnc, hcm, hcs, hct⟩
      · exact RF.of ⟨h3.os, h3.tape, h3.output, h3.size, fun k hk => h3.block k hk (by simp [Value.ownBlock])⟩ hbase
      · by_cases hroom : n + m ≤ cap
        · have hsz2 : n * i0.size + us.length ≤ cur.size := by rw [hcs, hl, ← Nat.add_mul]; exact Nat.mul_le_mul_right _ hroom
          have hgr := run_append_room (P := P) (w := w) t o.type T i0 ht hi0 g n cap cur hg ad m c us hl hn h1 hroom hsz2
          have e := hr.symm.trans hgr
          injection e with e1 e2
          subst e2
          have hk' : k0 ≤ n * i0.size := by
            rcases hk with h | ⟨A, e⟩
            · exact h
            · injection e with _ _ e3; omega
          refine ⟨⟨rfl, rfl, rfl, by simp [World.setRow], fun k hk => setRow_other _ _ _ _ (by omega)⟩, fun g' cur0 U hg' => ?_⟩
          by_cases eg : g' = g
          · subst eg
            rw [hg] at hg'
            simp only [Option.some.injEq, Obj.cells.injEq] at hg'
            obtain ⟨rfl, rfl, _⟩ := hg'
            refine .inr ⟨rfl, _, setRow_heap _ _ _ _ _ _ hg, ?_, fun i => ?_⟩
            · simp only [List.size_toArray, List.length_append, List.length_take, List.length_drop, Array.length_toList]; omega
            · simp only [List.getElem?_toArray]
              by_cases h0 : i < n * i0.size
              · left
                rw [List.append_assoc, List.getElem?_append_left (by simp; omega), List.getElem?_take, if_pos h0, Array.getElem?_toList]
              · by_cases h1' : i < n * i0.size + us.length
                · right
                  refine ⟨by omega, ?_⟩
                  have hxl : xs.length = n * i0.size := hown.1
                  have hi' : (xs ++ us)[i]? = us[i - n * i0.size]? := by rw [List.getElem?_append_right (by omega), hxl]
                  have hlt : i - n * i0.size < us.length := by omega
                  rw [List.append_assoc, List.getElem?_append_right (by simp; omega), List.getElem?_append_left (by simp; omega)]
                  simp only [List.length_take, Array.length_toList]
                  rw [show i - min (n * i0.size) cur.size = i - n * i0.size by omega, List.getElem?_eq_getElem hlt]
                  exact (hp i _ (by rw [hi', List.getElem?_eq_getElem hlt])).symm
                · left
                  rw [List.getElem?_append_right (by simp; omega), List.getElem?_drop, Array.getElem?_toList]
                  simp only [List.length_append, List.length_take, Array.length_toList]
                  congr 1
                  omega
          · exact .inl ((setRow_other _ _ _ _ eg).trans hg')
        · have hgr := run_append_grow (P := P) w t o.type T i0 z ht hi0 hz0 ⟨g, 0, none⟩ n cap xs hown.1 (fun j u hu => by
              rw [add_off, blk_cell hg, Nat.zero_add]
              have hj : j < n * i0.size := by rw [← hown.1]; exact (List.getElem?_eq_some_iff.1 hu).1
              rw [← hct, List.getElem?_take, if_pos hj, Array.getElem?_toList] at hu
              exact hu) ad m c us hl hn (by omega) (by omega) (by rw [hz2]; exact growslice_fits (by omega) (by omega))
          have e := hr.symm.trans hgr
          injection e with e1 e2
          rw [e2]
          exact RF.of (grow_below _ _) hbase
    simp only [ho, resolve, invoke, builtin, Sem.run_bind, Sem.run_pure, Result.andThen_ok, List.map_toArray, List.map_cons, List.map_nil, hs, hx, hr]
    exact h v' w' h2 hRF
end

end Go.Proofs.Ytclfocdghbmmlaa
