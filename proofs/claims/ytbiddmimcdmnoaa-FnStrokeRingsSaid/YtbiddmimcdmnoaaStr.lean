/-
  Rings of four points in memory of the call's own: made one by one, marked, read.
-/
import Derived.Test.YtbiddmimcdmnoaaRings
import Derived.Test.YtbiddmimcdmnoaaExQ
namespace Go.Proofs.Ytbiddmimcdmnoaa
open Go.RowKit Pl

set_option linter.unusedSimpArgs false
set_option linter.unusedVariables false

theorem OwnP.apart {base : Nat} {w w' : World} {v : Value} {l : List Pt} {row : Option Nat} (h : OwnP base w v l) (hg : w.grownBy w' row) (hs : 0 < l.length → Sep v.ownBlock row) : OwnP base w' v l := by
  obtain ⟨A, c, e, h1, h2, h3, h4⟩ := h
  refine ⟨A, c, e, h1, h2, h3, fun hn => ?_⟩
  obtain ⟨g, cur, e', hgb, hh⟩ := h4 hn
  refine ⟨g, cur, e', (hg.block g (blk_lt hgb) (fun e2 => hs hn g (by rw [e, e']; rfl) e2.symm)).trans hgb, hh⟩
theorem OwnP.row {base : Nat} {w : World} {v : Value} {l : List Pt} (h : OwnP base w v l) : ∀ g, v.ownBlock = some g → base ≤ g := by
  obtain ⟨A, c, e, h1, h2, h3, h4⟩ := h
  subst e
  rw [blkA_own]
  exact blkA_ge h3
theorem OwnP.past {base base' : Nat} {wx w w' : World} {x v : Value} {lx l : List Pt} (hx : OwnP base wx x lx) (h0 : lx.length = 0 → l.length = 0) (hs : wx.heap.size ≤ base') (h : OwnP base' w v l) (hg : w.grownBy w' x.ownBlock) : OwnP base' w' v l :=
  h.apart hg fun hn => (Sep.far (s := base') (fun g hg => Nat.lt_of_lt_of_le (OwnP.lt' hx (by omega) g hg) hs) h.row).symm
theorem OwnP.markBelow {B base : Nat} {a wx w w' : World} {x : Value} {lx : List Pt} (hx : OwnP base wx x lx) (hB : B ≤ base) (h : Below B a w) (hw : B ≤ w.heap.size) (hg : w.grownBy w' x.ownBlock) : Below B a w' :=
  h.grown hg hw fun k hk => Nat.le_trans hB (hx.row k hk)
theorem OwnP.oneCell {base : Nat} {w : World} {v : Value} {l : List Pt} (h : OwnP base w v l) : v.oneCell' = true := by
  obtain ⟨A, c, rfl, _⟩ := h; rfl
theorem OwnP.hd {base : Nat} {w : World} {v : Value} {l : List Pt} (h : OwnP base w v l) : IsHd w v l := by
  obtain ⟨A, c, e, h1, h2, h3, _⟩ := h.form
  exact ⟨A, c, e, h1, h2, h3⟩
theorem OwnW.apart {T : TypeId} {base : Nat} {w w' : World} {v : Value} {us : List Value} {row : Option Nat} (h : OwnW T base w v us) (hg : w.grownBy w' row) (hs : 0 < us.length → Sep v.ownBlock row) : OwnW T base w' v us := by
  obtain ⟨A, c, e, h1, h2, h3, h4⟩ := h
  refine ⟨A, c, e, h1, h2, h3, fun hn => ?_⟩
  obtain ⟨g, cur, e', hgb, hh⟩ := h4 hn
  refine ⟨g, cur, e', (hg.block g (blk_lt hgb) (fun e2 => hs hn g (by rw [e, e']; rfl) e2.symm)).trans hgb, hh⟩

/-- Rings of four points, apart from each other and from the row v. -/
def Apart (base : Nat) (w : World) (v : Value) (us : List Value) (f : Nat → List Pt) : Prop :=
  (∀ (i : Nat) (u : Value), us[i]? = some u → OwnP base w u (f i) ∧ (f i).length = 4 ∧ Sep u.ownBlock v.ownBlock) ∧
  (∀ (i j : Nat) (u u' : Value), i ≠ j → us[i]? = some u → us[j]? = some u' → Sep u.ownBlock u'.ownBlock)
def OwnRL (base : Nat) (w : World) (v : Value) (n : Nat) (f : Nat → List Pt) : Prop := ∃ us, OwnV 27 base w v us ∧ us.length = n ∧ Apart base w v us f
def OwnRO (base : Nat) (w : World) (v : Value) (n : Nat) (f : Nat → List Pt) : Prop := ∃ us, OwnW 27 base w v us ∧ us.length = n ∧ Apart base w v us f
section
variable {base n : Nat} {w w' : World} {v : Value} {us : List Value} {f f' : Nat → List Pt}
theorem Apart.below (h : Apart base w v us f) (hb : Below w.heap.size w w') : Apart base w' v us f :=
  ⟨fun i u hu => by obtain ⟨a, b, c⟩ := h.1 i u hu; exact ⟨a.below hb, b, c⟩, h.2⟩
theorem OwnRL.below (h : OwnRL base w v n f) (hb : Below w.heap.size w w') : OwnRL base w' v n f := by
  obtain ⟨us, h1, h2, h3⟩ := h; exact ⟨us, h1.below hb, h2, h3.below hb⟩
theorem OwnRO.below (h : OwnRO base w v n f) (hb : Below w.heap.size w w') : OwnRO base w' v n f := by
  obtain ⟨us, h1, h2, h3⟩ := h; exact ⟨us, h1.below hb, h2, h3.below hb⟩
theorem OwnRL.weak (h : OwnRL base w v n f) : OwnRO base w v n f := by
  obtain ⟨us, h1, h2⟩ := h; exact ⟨us, h1.weak, h2⟩
theorem OwnRL.row (h : OwnRL base w v n f) : ∀ g, v.ownBlock = some g → base ≤ g ∧ g < w.heap.size := by
  obtain ⟨us, h1, _⟩ := h; exact h1.row
theorem OwnRL.nil (base : Nat) (w : World) (f : Nat → List Pt) : OwnRL base w (.slice none 0 0) 0 f := ⟨[], OwnV.nil _ _ _, rfl, fun i u h => by simp at h, fun i j u u' _ h => by simp at h⟩
theorem OwnRL.empty {g : Nat} {T : TypeId} (hT : T = 27) (hb : base ≤ g) (h : w.heap[g]? = some (.cells #[] T (0, 0))) (f : Nat → List Pt) : OwnRL base w (.slice (some ⟨g, 0, none⟩) 0 0) 0 f := by
  subst hT; exact ⟨[], OwnV.empty hb h, rfl, fun i u h => by simp at h, fun i j u u' _ h => by simp at h⟩
theorem OwnRO.nil (base : Nat) (w : World) (f : Nat → List Pt) : OwnRO base w (.slice none 0 0) 0 f := (OwnRL.nil base w f).weak
theorem OwnRO.congr (h : OwnRO base w v n f) (hf : ∀ i, i < n → f i = f' i) : OwnRO base w v n f' := by
  obtain ⟨us, h1, h2, h3, h4⟩ := h
  refine ⟨us, h1, h2, fun i u hu => ?_, h4⟩
  rw [← hf i (by have := (List.getElem?_eq_some_iff.1 hu).1; omega)]
  exact h3 i u hu
theorem OwnRO.form (h : OwnRO base w v n f) : ∃ A c, v = .slice A n c ∧ n ≤ c ∧ c ≤ maxLen := by
  obtain ⟨us, ⟨A, c, e, h1, h2, _⟩, h3, _⟩ := h
  subst h3
  exact ⟨A, c, e, h1, h2⟩
theorem OwnRO.clip {A : Option Addr} {m c : Nat} (h : OwnRO base w (.slice A m c) n f) : m = n ∧ OwnRO base w (.slice A n n) n f ∧ n ≤ c ∧ c ≤ maxLen := by
  obtain ⟨us, h1, h2, h3⟩ := h
  obtain ⟨q1, q2, q3, q4⟩ := h1.clip
  subst h2
  subst q1
  refine ⟨rfl, ⟨us, q2, rfl, ?_, h3.2⟩, q3, q4⟩
  intro i u hu
  obtain ⟨a, b, d⟩ := h3.1 i u hu
  exact ⟨a, b, by rw [blkA_own] at d ⊢; exact d⟩
theorem OwnRO.isRs {A : Option Addr} {c : Nat} {L : List (List Pt)} (h : OwnRO base w (.slice A n c) n f) (hL : L.length = n) (hf : ∀ (i : Nat) (r : List Pt), L[i]? = some r → f i = r) : IsRs w A n L := by
  obtain ⟨us, h1, h2, h3⟩ := h
  have := h1.isV
  refine ⟨us, this, by omega, fun i r hr => ?_⟩
  have hi : i < us.length := by have := (List.getElem?_eq_some_iff.1 hr).1; omega
  have hu : us[i]? = some us[i] := List.getElem?_eq_getElem hi
  obtain ⟨a, _⟩ := h3.1 i _ hu
  rw [hf i r hr] at a
  exact ⟨_, hu, a.hd⟩
theorem OwnRL.lower {base' : Nat} (h : OwnRL base w v n f) (hb : base' ≤ base) : OwnRL base' w v n f := by
  obtain ⟨us, h1, h2, h3, h4⟩ := h
  exact ⟨us, h1.lower hb, h2, fun i u hu => by obtain ⟨a, b, c⟩ := h3 i u hu; exact ⟨a.lower hb, b, c⟩, h4⟩
/-- One ring, read. -/
theorem OwnRO.at_ {A : Option Addr} {c k : Nat} (h : OwnRO base w (.slice A n c) n f) (hk : k < n) :
    ∃ b B d, A = some ⟨b, 0, none⟩ ∧ b < w.heap.size ∧ w.cell? ⟨b, k, none⟩ = some (.slice B 4 d) ∧ OwnP base w (.slice B 4 d) (f k) ∧ (f k).length = 4 ∧ 4 ≤ d ∧ d ≤ maxLen := by
  obtain ⟨us, ⟨A', c', e, h1, h2, h3, h4⟩, hl, h5⟩ := h
  obtain ⟨g, cur, e', hg, _, hat⟩ := h4 (by omega)
  cases e
  have hu : us[k]? = some us[k] := List.getElem?_eq_getElem (by omega)
  obtain ⟨a, b, _⟩ := h5.1 k _ hu
  obtain ⟨B, d, e2, q1, q2, q3⟩ := a.hd
  rw [b] at e2 q1
  refine ⟨g, B, d, e', blk_lt hg, ?_, by rw [← e2]; exact a, b, q1, q2⟩
  rw [blk_cell hg, hat k _ hu, e2]
/-- One ring is turned. -/
theorem OwnRO.put {A : Option Addr} {c k b : Nat} {u : Value} (h : OwnRO base w (.slice A n c) n f) (hk : k < n) (hA : A = some ⟨b, 0, none⟩) (hc : w.cell? ⟨b, k, none⟩ = some u) (hg : w.grownBy w' u.ownBlock)
    (hu : OwnP base w' u (f' k)) (hl : (f' k).length = 4) (hf : ∀ i, i ≠ k → f' i = f i) : OwnRO base w' (.slice A n c) n f' := by
  obtain ⟨us, h1, h2, h3, h4⟩ := h
  have hk' : us[k]? = some u := by
    obtain ⟨A', c', e, q1, q2, q3, q4⟩ := h1
    obtain ⟨g, cur, e', hgb, _, hat⟩ := q4 (by omega)
    cases e
    subst hA
    cases e'
    have hx : us[k]? = some us[k] := List.getElem?_eq_getElem (by omega)
    have := hat k _ hx
    rw [blk_cell hgb, this] at hc
    cases hc
    exact hx
  refine ⟨us, h1.apart hg fun _ => ((h3 k u hk').2.2).symm, h2, fun i x hx => ?_, h4⟩
  by_cases e : i = k
  · subst e
    rw [hk'] at hx
    cases hx
    exact ⟨hu, hl, (h3 i u hk').2.2⟩
  · obtain ⟨q1, q2, q3⟩ := h3 i x hx
    rw [hf i e]
    exact ⟨q1.apart hg fun _ => h4 i k x u e hx hk', q2, q3⟩
end

/-- append of one ring whose header has just been written out; the ring was made since the world w0. -/
theorem append_ro {ops : Array Oper} {rest : List Oper} {o : Oper} {a : Act} {Q : Exit → Act → World → Prop} {w : World} (hgd : o.guard = none) (s x : Operand)
    (ho : o.op = .call { callee := .builtin .append, args := #[s, x], argTypes := #[24, 24] })
    (base : Nat) (v : Value) (n : Nat) (f : Nat → List Pt) (w0 : World) (hs : a.eval s = v) (hown : OwnRL base w0 v n f) (hbel : Below w0.heap.size w0 w) (g m : Nat) (u : Value) (T' : TypeId) (hx : a.eval x = .slice (some ⟨g, 0, none⟩) 1 m)
    (hg : w.heap[g]? = some (.cells #[u] T' (0, 0))) (hu : OwnP w0.heap.size w u (f n)) (hr : (f n).length = 4) (hlen : n ≤ 900000) (hbase : base ≤ w0.heap.size)
    (h : ∀ v' w', OwnRL base w' v' (n + 1) f → w.grownBy w' v.ownBlock → (∀ g, v.ownBlock = some g → base ≤ g) → wpList Try.prog ops Q rest (a.put o.dst v') w') : wpList Try.prog ops Q (o :: rest) a w := by
  obtain ⟨us, h1, h2, h3, h4⟩ := hown
  subst h2
  have hz := hbel.size
  have hrow := h1.row
  refine append_v hgd s x 27 24 _ 24 Try.underlying24 ring_info rfl (by omega) ho base v us hs (h1.below hbel) ⟨g, 0, none⟩ 1 m [u] hx rfl
    (fun j u' hu' => ?_) (fun u' hu' => by rw [List.mem_singleton.1 hu']; exact hu.oneCell) (by omega) (by omega) ?_
  · match j, hu' with
    | 0, hu' => rw [add_off, Nat.add_zero, blk_cell hg]; exact hu'
  intro v' w' k1 k2 k3
  have hsu : Sep u.ownBlock v.ownBlock := (Sep.far (fun g hg => (hrow g hg).2) hu.row).symm
  have hul := OwnP.lt' hu (by omega)
  have hold : ∀ (i : Nat) (x : Value), us[i]? = some x → (∀ g, x.ownBlock = some g → g < w0.heap.size) := fun i x hx => by
    obtain ⟨q1, q2, _⟩ := h3 i x hx
    exact OwnP.lt' q1 (by omega)
  refine h v' w' ⟨us ++ [u], k1, by simp, fun i x hx => ?_, fun i j x y hij hx hy => ?_⟩ k2 (fun g hg => (hrow g hg).1)
  · rcases Nat.lt_or_ge i us.length with hi | hi
    · rw [List.getElem?_append_left hi] at hx
      obtain ⟨q1, q2, q3⟩ := h3 i x hx
      exact ⟨(q1.below hbel).apart k2 fun _ => q3, q2, q3.app k3 fun g hg => Nat.lt_of_lt_of_le (hold i x hx g hg) hz⟩
    · rw [List.getElem?_append_right hi] at hx
      have e : i - us.length = 0 := by
        rcases Nat.eq_zero_or_pos (i - us.length) with h0 | h0
        · exact h0
        · simp [show i - us.length ≠ 0 by omega] at hx
      rw [e] at hx
      simp at hx; subst hx
      obtain rfl : i = us.length := by omega
      exact ⟨(hu.apart k2 fun _ => hsu).lower hbase, hr, hsu.app k3 hul⟩
  · have side : ∀ (i : Nat) (x : Value), (us ++ [u])[i]? = some x → (us[i]? = some x ∧ i < us.length) ∨ (i = us.length ∧ x = u) := fun i x hx => by
      rcases Nat.lt_or_ge i us.length with hi | hi
      · rw [List.getElem?_append_left hi] at hx; exact .inl ⟨hx, hi⟩
      · have : i < (us ++ [u]).length := (List.getElem?_eq_some_iff.1 hx).1
        simp at this
        obtain rfl : i = us.length := by omega
        simp at hx
        exact .inr ⟨rfl, hx.symm⟩
    rcases side i x hx with ⟨a1, _⟩ | ⟨a1, a2⟩ <;> rcases side j y hy with ⟨b1, _⟩ | ⟨b1, b2⟩
    · exact h4 i j x y hij a1 b1
    · rw [b2]; exact Sep.far (hold i x a1) hu.row
    · rw [a2]; exact (Sep.far (hold j y b1) hu.row).symm
    · exact absurd (a1.trans b1.symm) hij

theorem made4 {base g : Nat} {w : World} {T : TypeId} {a b c d e f p q : Int} (hT : T = 38) (hb : base ≤ g) (h : w.heap[g]? = some (.cells #[.int .i64 a, .int .i64 b, .int .i64 c, .int .i64 d, .int .i64 e, .int .i64 f, .int .i64 p, .int .i64 q] T (0, 0))) :
    OwnP base w (.slice (some ⟨g, 0, none⟩) 4 4) [(a, b), (c, d), (e, f), (p, q)] := by
  have k : OwnPts base w (.slice (some ⟨g, 0, none⟩) 4 4) [(a, b), (c, d), (e, f), (p, q)] := OwnPts.made hT hb h rfl (by omega) rfl
  exact k.weak

set_option maxHeartbeats 400000 in
theorem ClipS_eq {A : Option Addr} {n c : Nat} (hc : n ≤ c) (hm : c ≤ maxLen) (w : World) : Calls Try.prog 27 #[.slice A n c] w fun e w' => e = .returned (.slice A n n) ∧ w = w' := by
  unfold maxLen at hm
  go_enter Try.func27, Try.ntmps27
  go_wp2
  go_ret
  exact ⟨rfl, rfl⟩

end Go.Proofs.Ytbiddmimcdmnoaa
