/-
  The generator of three points.
-/
import Derived.Test.YtaklcipdcnegbaaDrawP
namespace Go.Proofs.Ytaklcipdcnegbaa
open Go.RowKit Pl

set_option linter.unusedSimpArgs false
set_option linter.unusedVariables false

/-- Three points. -/
def Pts3 (w : World) (e : Ending) (w' : World) : Prop :=
  ∃ x y u v p q : Int, e = .returned (.tuple #[.agg #[.int .i64 x, .int .i64 y], .agg #[.int .i64 u, .int .i64 v], .agg #[.int .i64 p, .int .i64 q]]) ∧ (-1001 ≤ x ∧ x ≤ 1001 ∧ -1001 ≤ y ∧ y ≤ 1001) ∧ (-1001 ≤ u ∧ u ≤ 1001 ∧ -1001 ≤ v ∧ v ≤ 1001) ∧ (-1001 ≤ p ∧ p ≤ 1001 ∧ -1001 ≤ q ∧ q ≤ 1001) ∧ Below w.heap.size w w'

/-- Only blocks g and b, and what is new, have turned. -/
structure Ex2 (g b : Nat) (w w' : World) : Prop where
  os : w'.os = w.os
  tape : w'.tape = w.tape
  output : w'.output = w.output
  size : w.heap.size ≤ w'.heap.size
  block : ∀ k, k < w.heap.size → k ≠ g → k ≠ b → w'.heap[k]? = w.heap[k]?
theorem Ex2.refl (g b : Nat) (w : World) : Ex2 g b w w := ⟨rfl, rfl, rfl, Nat.le_refl _, fun _ _ _ _ => rfl⟩
theorem Ex2.drew (g b : Nat) (w : World) : Ex2 g b w w.drew := ⟨rfl, rfl, rfl, Nat.le_refl _, fun _ _ _ _ => rfl⟩
theorem Ex2.trans {g b : Nat} {w w1 w2 : World} (h : Ex2 g b w w1) (h2 : Ex2 g b w1 w2) : Ex2 g b w w2 :=
  ⟨h2.os.trans h.os, h2.tape.trans h.tape, h2.output.trans h.output, Nat.le_trans h.size h2.size, fun k hk h1 h3 => (h2.block k (Nat.lt_of_lt_of_le hk h.size) h1 h3).trans (h.block k hk h1 h3)⟩
theorem Ex2.grown {g b : Nat} {w w' : World} (h : w.grownBy w' (some g)) : Ex2 g b w w' := ⟨h.os, h.tape, h.output, h.size, fun k hk h1 _ => h.block k hk (by simpa using h1)⟩
theorem Ex2.set2 {g b : Nat} {w : World} (u v : Value) : Ex2 g b w ((w.setCell ⟨b, 0, none⟩ u).setCell ⟨b, 1, none⟩ v) :=
  ⟨rfl, rfl, rfl, by simp [World.setCell], fun k _ _ h => by rw [Below.heap_setCell _ _ _ _ (by simpa using h), Below.heap_setCell _ _ _ _ (by simpa using h)]⟩
theorem Ex2.below {g b B : Nat} {a w w' : World} (h : Ex2 g b w w') (h1 : Below B a w) (hB : B ≤ w.heap.size) (hg : B ≤ g) (hb : B ≤ b) : Below B a w' :=
  ⟨h.os.trans h1.os, h.tape.trans h1.tape, h.output.trans h1.output, Nat.le_trans h1.size h.size, fun i hi => (h.block i (by omega) (by omega) (by omega)).trans (h1.block i hi)⟩
theorem Ex2.cl {W w1 : World} {g b : Nat} (hg : Ex2 g b W w1) (k : Nat) (hk : k < W.heap.size) (h1 : k ≠ g) (h2 : k ≠ b) : (∀ o, w1.cell? ⟨k, o, none⟩ = W.cell? ⟨k, o, none⟩) ∧ (∀ o, w1.frozen? ⟨k, o, none⟩ = W.frozen? ⟨k, o, none⟩) ∧ k < w1.heap.size :=
  ⟨fun o => World.cell?_of_block (a := ⟨k, o, none⟩) (hg.block k hk h1 h2), fun o => World.frozen?_of_block (a := ⟨k, o, none⟩) (hg.block k hk h1 h2), Nat.lt_of_lt_of_le hk hg.size⟩
/-- Block b holds some point. -/
def HasPt (b : Nat) (w : World) : Prop := ∃ x y : Int, (-1001 ≤ x ∧ x ≤ 1001 ∧ -1001 ≤ y ∧ y ≤ 1001) ∧ w.heap[b]? = some (.cells #[.int .i64 x, .int .i64 y] 28 (0, 0))
theorem HasPt.grown {b g : Nat} {w w' : World} (h : HasPt b w) (hg : w.grownBy w' (some g)) (hne : b ≠ g) : HasPt b w' := by
  obtain ⟨x, y, h1, h2⟩ := h
  exact ⟨x, y, h1, blk_grown h2 hg hne⟩
theorem HasPt.set {b : Nat} {w : World} (h : HasPt b w) {x y : Int} (hx : -1001 ≤ x ∧ x ≤ 1001 ∧ -1001 ≤ y ∧ y ≤ 1001) : HasPt b ((w.setCell ⟨b, 0, none⟩ (.int .i64 x)).setCell ⟨b, 1, none⟩ (.int .i64 y)) := by
  obtain ⟨_, _, _, h2⟩ := h
  exact ⟨x, y, hx, blk_set2 h2 _ _⟩
theorem Rd.set2 {g b : Nat} {A : Option Addr} {n c : Nat} {z : Nat → Int} {w : World} {k : Nat} (h : Rd g A n c z w k) (hne : g ≠ b) (hcode : 0 < n → ∀ b' o, A = some ⟨b', o, none⟩ → b' ≠ b) (u v : Value) : Rd g A n c z ((w.setCell ⟨b, 0, none⟩ u).setCell ⟨b, 1, none⟩ v) k := by
  have one : ∀ {w : World} (i : Nat) (u : Value), Rd g A n c z w k → Rd g A n c z (w.setCell ⟨b, i, none⟩ u) k := fun {w} i u h => by
    refine ⟨?_, fun hn => ?_, h.far, h.cap, h.few⟩
    · obtain ⟨q, hq, hb⟩ := h.pos
      exact ⟨q, hq, (Below.heap_setCell w _ u g (by simpa using hne)).trans hb⟩
    · obtain ⟨b', o', rfl, hbl, hc⟩ := h.code hn
      have h4 := hcode hn b' o' rfl
      exact ⟨b', o', rfl, by simpa [World.setCell] using hbl, fun i' hi' => ⟨(World.cell?_setCell_other w _ _ u (fun e => by simp only [Addr.mk.injEq] at e; exact h4 e.1.symm)).trans (hc i' hi').1, (hc i' hi').2⟩⟩
  exact one 1 v (one 0 u h)

set_option maxHeartbeats 400000 in
theorem newReader_at {A : Option Addr} {n c : Nat} {w : World} (h : Code w A n c) :
    Calls Try.prog 27 #[.slice A n c] w fun e w' => ∃ g n' z, e = .returned (.pointer (some ⟨g, 0, none⟩)) ∧ w.heap.size ≤ g ∧ n' ≤ n ∧ Rd g A n' c z w' 0 ∧ Below w.heap.size w w' := by
  obtain ⟨hn, hc, z, hz⟩ := h
  have fin : ∀ n', n' ≤ n → n' ≤ 2000 → Rd w.heap.size A n' c z (w.alloc (.cells #[.slice A n' c, .int .i64 0] 61)) 0 := fun n' h1 h2 => by
    refine ⟨⟨0, Nat.le_refl _, by show (w.heap.push _)[w.heap.size]? = _; simp⟩, fun hp => ?_, fun hp b o e => ?_, ⟨by omega, hc⟩, h2⟩
    · obtain ⟨b, o, rfl, hbl, hcl⟩ := hz (by omega)
      refine ⟨b, o, rfl, by simp; omega, fun i hi => ⟨?_, (hcl i (by omega)).2⟩⟩
      rw [World.cell?_alloc_lt w _ _ hbl]
      exact (hcl i (by omega)).1
    · obtain ⟨b', o', h1, hbl, _⟩ := hz (by omega)
      rw [e] at h1
      cases h1
      omega
  have Fin := Lib.hid fin
  clear fin
  by_cases h2 : 2000 < n
  · go_enter Try.func27, Try.ntmps27
    go_wp2
    go_ret
    exact ⟨_, 2000, _, rfl, Nat.le_refl _, by omega, Fin.out 2000 (by omega) (by omega), by (repeat' (first | (with_reducible exact Below.refl _ _) | (with_reducible assumption) | (with_reducible refine Below.alloc ?_ ?_ _) | (with_reducible refine below_drewN ?_ _) | (with_reducible refine Below.drew ?_) | (with_reducible refine Below.setCell ?_ ?_ _) | (with_reducible refine below_call (by assumption) ?_ ?_) | go_size))⟩
  · go_enter Try.func27, Try.ntmps27
    go_wp2
    go_ret
    exact ⟨_, n, _, rfl, Nat.le_refl _, Nat.le_refl _, Fin.out n (by omega) (by omega), by (repeat' (first | (with_reducible exact Below.refl _ _) | (with_reducible assumption) | (with_reducible refine Below.alloc ?_ ?_ _) | (with_reducible refine below_drewN ?_ _) | (with_reducible refine Below.drew ?_) | (with_reducible refine Below.setCell ?_ ?_ _) | (with_reducible refine below_call (by assumption) ?_ ?_) | go_size))⟩

set_option maxHeartbeats 8000000 in
theorem DrawAlongOf_any {A : Option Addr} {n c : Nat} {w : World} (h : Code w A n c) : Calls Try.prog 24 #[.slice A n c] w (Pts3 w) := by
  go_enter Try.func24, Try.ntmps24
  go_wp2_with fail
  have hcd : 0 < n → ∀ b' o, A = some ⟨b', o, none⟩ → b' ≠ w.heap.size := fun hn b' o e => by
    obtain ⟨z0, hz0⟩ := h.2.2
    obtain ⟨b2, o2, e2, hb2, _⟩ := hz0 hn
    rw [e] at e2
    cases e2
    omega
  refine (newReader_at (h.below (by (repeat' (first | (with_reducible exact Below.refl _ _) | (with_reducible assumption) | (with_reducible refine Below.alloc ?_ ?_ _) | (with_reducible refine below_drewN ?_ _) | (with_reducible refine Below.drew ?_) | (with_reducible refine Below.setCell ?_ ?_ _) | (with_reducible refine below_call (by assumption) ?_ ?_) | go_size))))).mono ?_
  rintro e w1 ⟨g, n', z, rfl, hg0, hn', hr, hb⟩
  simp at hg0
  (have hz := hb.size; (try simp at hz); (try (have hk := bcl hb (w.heap.size) (by first | omega | (simp; done) | (simp; omega)); have hc := hk.1; have hf := hk.2.1; have hk := hk.2.2)); (try (have hk := bcl hb (w.heap.size + 1) (by first | omega | (simp; done) | (simp; omega)); have hc := hk.1; have hf := hk.2.1; have hk := hk.2.2)); (try (have hk := bcl hb (w.heap.size + 1 + 1) (by first | omega | (simp; done) | (simp; omega)); have hc := hk.1; have hf := hk.2.1; have hk := hk.2.2)))
  go_wp2_with fail
  refine (anyPoint_any hr (by omega)).mono ?_
  rintro e wb ⟨x, y, rfl, hh1, hr, hg⟩
  have hz := hg.size; (try simp at hz); have hgl := Rd.lt hr; (try (have hk := gcl hg (w.heap.size) (by first | omega | (simp; done) | (simp; omega)) (by omega); have hc := hk.1; have hf := hk.2.1; have hk := hk.2.2)); (try (have hk := gcl hg (w.heap.size + 1) (by first | omega | (simp; done) | (simp; omega)) (by omega); have hc := hk.1; have hf := hk.2.1; have hk := hk.2.2)); (try (have hk := gcl hg (w.heap.size + 1 + 1) (by first | omega | (simp; done) | (simp; omega)) (by omega); have hc := hk.1; have hf := hk.2.1; have hk := hk.2.2))
  go_wp2_with fail
  refine (anyPoint_any (by repeat' (first | (with_reducible assumption) | (with_reducible apply Rd.alloc) | (with_reducible apply Rd.drewN) | (with_reducible apply rd_below (by assumption)) | (with_reducible apply Rd.setFar) | omega | (simp; omega))) (by omega)).mono ?_
  rintro e wf ⟨u, v, rfl, hh2, hr, hg⟩
  have hz := hg.size; (try simp at hz); have hgl := Rd.lt hr; (try (have hk := gcl hg (w.heap.size) (by first | omega | (simp; done) | (simp; omega)) (by omega); have hc := hk.1; have hf := hk.2.1; have hk := hk.2.2)); (try (have hk := gcl hg (w.heap.size + 1) (by first | omega | (simp; done) | (simp; omega)) (by omega); have hc := hk.1; have hf := hk.2.1; have hk := hk.2.2)); (try (have hk := gcl hg (w.heap.size + 1 + 1) (by first | omega | (simp; done) | (simp; omega)) (by omega); have hc := hk.1; have hf := hk.2.1; have hk := hk.2.2)); (try (have hk := gcl hg (wb.heap.size) (by first | omega | (simp; done) | (simp; omega)) (by omega); have hc := hk.1; have hf := hk.2.1; have hk := hk.2.2))
  go_wp2_with fail
  refine (pick_any (by repeat' (first | (with_reducible assumption) | (with_reducible apply Rd.alloc) | (with_reducible apply Rd.drewN) | (with_reducible apply rd_below (by assumption)) | (with_reducible apply Rd.setFar) | omega | (simp; omega))) (by omega) _).mono ?_
  rintro e wh ⟨p0, rfl, hp0, hp1, hr, hg⟩
  have hz := hg.size; (try simp at hz); have hgl := Rd.lt hr; (try (have hk := gcl hg (w.heap.size) (by first | omega | (simp; done) | (simp; omega)) (by omega); have hc := hk.1; have hf := hk.2.1; have hk := hk.2.2)); (try (have hk := gcl hg (w.heap.size + 1) (by first | omega | (simp; done) | (simp; omega)) (by omega); have hc := hk.1; have hf := hk.2.1; have hk := hk.2.2)); (try (have hk := gcl hg (w.heap.size + 1 + 1) (by first | omega | (simp; done) | (simp; omega)) (by omega); have hc := hk.1; have hf := hk.2.1; have hk := hk.2.2)); (try (have hk := gcl hg (wb.heap.size) (by first | omega | (simp; done) | (simp; omega)) (by omega); have hc := hk.1; have hf := hk.2.1; have hk := hk.2.2)); (try (have hk := gcl hg (wf.heap.size) (by first | omega | (simp; done) | (simp; omega)) (by omega); have hc := hk.1; have hf := hk.2.1; have hk := hk.2.2))
  have q0 : wh.heap[w.heap.size]? = some (.cells #[.int .i64 0, .int .i64 0] 28 (0, 0)) := by (repeat' (first | (with_reducible assumption) | (with_reducible exact blk_new _ _) | (with_reducible exact blk_new1 _ _ _) | (with_reducible exact blk_new2 _ _ _ _) | (with_reducible refine blk_alloc ?_ _) | (with_reducible refine blk_drewN ?_ _) | (with_reducible refine blk_down (by assumption) ?_) | (with_reducible refine blk_up (by assumption) (by omega) ?_) | (with_reducible refine blk_far ?_ _ (by simp; omega))))
  have q1 : wh.heap[w.heap.size + 1]? = some (.cells #[.int .i64 0, .int .i64 0] 28 (0, 0)) := by (repeat' (first | (with_reducible assumption) | (with_reducible exact blk_new _ _) | (with_reducible exact blk_new1 _ _ _) | (with_reducible exact blk_new2 _ _ _ _) | (with_reducible refine blk_alloc ?_ _) | (with_reducible refine blk_drewN ?_ _) | (with_reducible refine blk_down (by assumption) ?_) | (with_reducible refine blk_up (by assumption) (by omega) ?_) | (with_reducible refine blk_far ?_ _ (by simp; omega))))
  have q2 : wh.heap[w.heap.size + 1 + 1]? = some (.cells #[.int .i64 0, .int .i64 0] 28 (0, 0)) := by (repeat' (first | (with_reducible assumption) | (with_reducible exact blk_new _ _) | (with_reducible exact blk_new1 _ _ _) | (with_reducible exact blk_new2 _ _ _ _) | (with_reducible refine blk_alloc ?_ _) | (with_reducible refine blk_drewN ?_ _) | (with_reducible refine blk_down (by assumption) ?_) | (with_reducible refine blk_up (by assumption) (by omega) ?_) | (with_reducible refine blk_far ?_ _ (by simp; omega))))
  have q3 : wh.heap[wb.heap.size]? = some (.cells #[.int .i64 x, .int .i64 y] 28 (0, 0)) := by (repeat' (first | (with_reducible assumption) | (with_reducible exact blk_new _ _) | (with_reducible exact blk_new1 _ _ _) | (with_reducible exact blk_new2 _ _ _ _) | (with_reducible refine blk_alloc ?_ _) | (with_reducible refine blk_drewN ?_ _) | (with_reducible refine blk_down (by assumption) ?_) | (with_reducible refine blk_up (by assumption) (by omega) ?_) | (with_reducible refine blk_far ?_ _ (by simp; omega))))
  have q4 : wh.heap[wf.heap.size]? = some (.cells #[.int .i64 u, .int .i64 v] 28 (0, 0)) := by (repeat' (first | (with_reducible assumption) | (with_reducible exact blk_new _ _) | (with_reducible exact blk_new1 _ _ _) | (with_reducible exact blk_new2 _ _ _ _) | (with_reducible refine blk_alloc ?_ _) | (with_reducible refine blk_drewN ?_ _) | (with_reducible refine blk_down (by assumption) ?_) | (with_reducible refine blk_up (by assumption) (by omega) ?_) | (with_reducible refine blk_far ?_ _ (by simp; omega))))
  have hbel : Below w.heap.size w wh := by (repeat' (first | (with_reducible exact Below.refl _ _) | (with_reducible assumption) | (with_reducible refine Below.alloc ?_ ?_ _) | (with_reducible refine below_drewN ?_ _) | (with_reducible refine Below.drew ?_) | (with_reducible refine Below.setCell ?_ ?_ _) | (with_reducible refine below_call (by assumption) ?_ ?_) | (with_reducible refine below_grown (by assumption) ?_ ?_ ?_) | omega | (simp; done) | (simp; omega)))
  have hgl0 := Rd.lt hr
  have n1 : w.heap.size + 1 + 1 < g ∧ g < wb.heap.size ∧ wb.heap.size < wf.heap.size ∧ wf.heap.size < wh.heap.size := by omega
  clear hc hf hk hb hg
  by_cases hp : p0 = 0
  · subst hp
    go_wp2_with fail
    obtain ⟨wk, hwk⟩ : ∃ wk, wk = (wh.setCell ⟨wf.heap.size, 0, none⟩ (.int .i64 x)).setCell ⟨wf.heap.size, 1, none⟩ (.int .i64 y) := ⟨_, rfl⟩
    rw [← hwk]
    have hz : wk.heap.size = wh.heap.size := by rw [hwk]; simp [World.setCell]
    have hr := hr.set2 (b := wf.heap.size) (by omega) (fun hn b' o e => by have := hr.far hn b' o e; omega) (.int .i64 x) (.int .i64 y)
    rw [← hwk] at hr
    have q0 := blk_far2 q0 (g' := wf.heap.size) (i := 0) (j := 1) (by omega) (.int .i64 x) (.int .i64 y)
    rw [← hwk] at q0
    have q1 := blk_far2 q1 (g' := wf.heap.size) (i := 0) (j := 1) (by omega) (.int .i64 x) (.int .i64 y)
    rw [← hwk] at q1
    have q2 := blk_far2 q2 (g' := wf.heap.size) (i := 0) (j := 1) (by omega) (.int .i64 x) (.int .i64 y)
    rw [← hwk] at q2
    have q3 := blk_far2 q3 (g' := wf.heap.size) (i := 0) (j := 1) (by omega) (.int .i64 x) (.int .i64 y)
    rw [← hwk] at q3
    have q4 := blk_set2 q4 (.int .i64 x) (.int .i64 y)
    rw [← hwk] at q4
    have hbel : Below w.heap.size w wk := by rw [hwk]; exact (hbel.setCell (by simp; omega) _).setCell (by simp; omega) _
    clear hwk
    have cb := blk_cell q3
    have cf := blk_cell q4
    refine wp_region_facts (by kernel_rfl) (fun j w2 => Rd g A n' c z w2 (100 + 10 * j) ∧ Ex2 g w.heap.size wk w2 ∧ HasPt w.heap.size w2) (fun w1 w2 => Ex2 g w.heap.size w1 w2)
      (RS.det [] (.agg #[.int .i64 x, .int .i64 y]) :: RS.det [] (.agg #[.int .i64 x, .int .i64 y]) :: RS.det [] (.pointer (some ⟨g, 0, none⟩)) :: RS.p [2] (fun v => ∃ l t, v = .agg #[.int .i64 l, .int .i64 t] ∧ (-1001 ≤ l ∧ l ≤ 1001 ∧ -1001 ≤ t ∧ t ≤ 1001)) :: RS.p [0, 3] (fun _ => True) :: []) [] (by kernel_rfl) (fun h => absurd rfl h) (by kernel_rfl) (by kernel_rfl) (st_det (st_det (st_det (st_p (st_p st_nil))))) ⟨Rd.more (Rd.drewN hr 1) (by omega), Ex2.drew _ _ _, ⟨0, 0, by omega, q0⟩⟩ ?_ trivial ?_
    · simp only [RegObl]
      refine ⟨?_, ?_, ?_, ?_, ?_, trivial⟩
      · intro vv j w2 K hj hC hF hK
        obtain ⟨hr2, hx, hpt⟩ := hC
        have k1 := hx.cl wb.heap.size (by omega) (by omega) (by omega)
        have k2 := k1.1
        simp at hK
        go_simp
        exact hK _ _ rfl (Ex2.refl _ _ _) (hr2.more (by omega)) hx hpt
      · intro vv j w2 K hj hC hF hK
        obtain ⟨hr2, hx, hpt⟩ := hC
        have k1 := hx.cl wf.heap.size (by omega) (by omega) (by omega)
        have k2 := k1.1
        simp at hK
        go_simp
        exact hK _ _ rfl (Ex2.refl _ _ _) (hr2.more (by omega)) hx hpt
      · intro vv j w2 K hj hC hF hK
        obtain ⟨hr2, hx, hpt⟩ := hC
        simp at hK
        go_simp
        exact hK _ _ rfl (Ex2.refl _ _ _) (hr2.more (by omega)) hx hpt
      · intro vv j w2 K hj hC hF hK
        obtain ⟨hr2, hx, hpt⟩ := hC
        have hj' : j < 7 := by simpa using hj
        simp at hF
        simp at hK
        (try simp only [hF] at hK)
        go_simp
        go_at_call 37
        refine (anyPoint_any hr2 (by omega)).mono ?_
        rintro e w3 ⟨l2, t2, rfl, hh, hr3, hg3⟩
        exact hK _ _ ⟨_, _, rfl, hh⟩ (Ex2.grown hg3) (hr3.more (by omega)) (hx.trans (Ex2.grown hg3)) (hpt.grown hg3 (by omega))
      · intro vv j w2 K hj hC hF hK
        obtain ⟨hr2, hx, hpt⟩ := hC
        have hpt2 := hpt
        obtain ⟨px, py, hpb, hpc⟩ := hpt
        have c0 := blk_cell hpc
        have f0 := blk_free hpc
        simp at hF
        obtain ⟨e0, e3⟩ := hF
        simp at hK
        simp only [e0] at hK
        go_simp
        exact hK undef _ trivial (Ex2.set2 (.int .i64 x) (.int .i64 y)) ((hr2.set2 (by omega) (fun hn => hcd (by omega)) (.int .i64 x) (.int .i64 y)).more (by omega)) (hx.trans (Ex2.set2 (.int .i64 x) (.int .i64 y))) (hpt2.set hh1)
    · intro vv j w2 hj hC hF
      obtain ⟨hr2, hx, hpt⟩ := hC
      simp [List.range, List.range.loop] at hF
      obtain ⟨e0, e1, e2, ⟨l3, t3, e3, hh⟩, _⟩ := hF
      simp only [List.length_cons, List.length_nil, List.drop_succ_cons, List.drop_zero, e0, e1, e2, e3]
      simp
      obtain ⟨px, py, hpb, hpc⟩ := hpt
      have p1 := (hx.block (w.heap.size + 1) (by omega) (by omega) (by omega)).trans q1
      have p2 := (hx.block (w.heap.size + 1 + 1) (by omega) (by omega) (by omega)).trans q2
      have r0 := blk_cell (blk_far2 (blk_far2 hpc (i := 0) (j := 1) (by omega : w.heap.size ≠ w.heap.size + 1) (.int .i64 x) (.int .i64 y)) (i := 0) (j := 1) (by omega : w.heap.size ≠ w.heap.size + 1 + 1) (.int .i64 l3) (.int .i64 t3))
      have r1 := blk_cell (blk_far2 (blk_set2 p1 (.int .i64 x) (.int .i64 y)) (i := 0) (j := 1) (by omega : w.heap.size + 1 ≠ w.heap.size + 1 + 1) (.int .i64 l3) (.int .i64 t3))
      have r2 := blk_cell (blk_set2 (blk_far2 p2 (i := 0) (j := 1) (by omega : w.heap.size + 1 + 1 ≠ w.heap.size + 1) (.int .i64 x) (.int .i64 y)) (.int .i64 l3) (.int .i64 t3))
      have c0 := blk_cell hpc
      have c1 := blk_cell p1
      have f1 := blk_free p1
      have c2 := blk_cell p2
      have f2 := blk_free p2
      have hfin := hx.below hbel (by omega) (by omega) (Nat.le_refl _)
      have hsz := hx.size
      go_wp2
      ((try simp only [Exit.inBlock, Exit.then]); refine bodyPost_ret (by simp [results, Try.results24, go_sem, *]; try rfl) rfl ?_)
      exact ⟨_, _, _, _, _, _, rfl, hpb, hh1, hh, ((((hfin.setCell (by simp) _).setCell (by simp) _).setCell (by simp; omega) _).setCell (by simp; omega) _)⟩
  · have eb : decide (p0 = 0) = false := by simpa using hp
    have eb2 : (p0 == 0) = false := by simpa using hp
    go_wp2_with fail
    obtain ⟨wk, hwk⟩ : ∃ wk, wk = wh := ⟨_, rfl⟩
    subst hwk
    have cb := blk_cell q3
    have cf := blk_cell q4
    refine wp_region_facts (by kernel_rfl) (fun j w2 => Rd g A n' c z w2 (100 + 10 * j) ∧ Ex2 g w.heap.size wk w2 ∧ HasPt w.heap.size w2) (fun w1 w2 => Ex2 g w.heap.size w1 w2)
      (RS.det [] (.agg #[.int .i64 x, .int .i64 y]) :: RS.det [] (.agg #[.int .i64 u, .int .i64 v]) :: RS.det [] (.pointer (some ⟨g, 0, none⟩)) :: RS.p [2] (fun v => ∃ l t, v = .agg #[.int .i64 l, .int .i64 t] ∧ (-1001 ≤ l ∧ l ≤ 1001 ∧ -1001 ≤ t ∧ t ≤ 1001)) :: RS.p [0, 3] (fun _ => True) :: []) [] (by kernel_rfl) (fun h => absurd rfl h) (by kernel_rfl) (by kernel_rfl) (st_det (st_det (st_det (st_p (st_p st_nil))))) ⟨Rd.more (Rd.drewN hr 1) (by omega), Ex2.drew _ _ _, ⟨0, 0, by omega, q0⟩⟩ ?_ trivial ?_
    · simp only [RegObl]
      refine ⟨?_, ?_, ?_, ?_, ?_, trivial⟩
      · intro vv j w2 K hj hC hF hK
        obtain ⟨hr2, hx, hpt⟩ := hC
        have k1 := hx.cl wb.heap.size (by omega) (by omega) (by omega)
        have k2 := k1.1
        simp at hK
        go_simp
        exact hK _ _ rfl (Ex2.refl _ _ _) (hr2.more (by omega)) hx hpt
      · intro vv j w2 K hj hC hF hK
        obtain ⟨hr2, hx, hpt⟩ := hC
        have k1 := hx.cl wf.heap.size (by omega) (by omega) (by omega)
        have k2 := k1.1
        simp at hK
        go_simp
        exact hK _ _ rfl (Ex2.refl _ _ _) (hr2.more (by omega)) hx hpt
      · intro vv j w2 K hj hC hF hK
        obtain ⟨hr2, hx, hpt⟩ := hC
        simp at hK
        go_simp
        exact hK _ _ rfl (Ex2.refl _ _ _) (hr2.more (by omega)) hx hpt
      · intro vv j w2 K hj hC hF hK
        obtain ⟨hr2, hx, hpt⟩ := hC
        have hj' : j < 7 := by simpa using hj
        simp at hF
        simp at hK
        (try simp only [hF] at hK)
        go_simp
        go_at_call 37
        refine (anyPoint_any hr2 (by omega)).mono ?_
        rintro e w3 ⟨l2, t2, rfl, hh, hr3, hg3⟩
        exact hK _ _ ⟨_, _, rfl, hh⟩ (Ex2.grown hg3) (hr3.more (by omega)) (hx.trans (Ex2.grown hg3)) (hpt.grown hg3 (by omega))
      · intro vv j w2 K hj hC hF hK
        obtain ⟨hr2, hx, hpt⟩ := hC
        have hpt2 := hpt
        obtain ⟨px, py, hpb, hpc⟩ := hpt
        have c0 := blk_cell hpc
        have f0 := blk_free hpc
        simp at hF
        obtain ⟨e0, e3⟩ := hF
        simp at hK
        simp only [e0] at hK
        go_simp
        exact hK undef _ trivial (Ex2.set2 (.int .i64 x) (.int .i64 y)) ((hr2.set2 (by omega) (fun hn => hcd (by omega)) (.int .i64 x) (.int .i64 y)).more (by omega)) (hx.trans (Ex2.set2 (.int .i64 x) (.int .i64 y))) (hpt2.set hh1)
    · intro vv j w2 hj hC hF
      obtain ⟨hr2, hx, hpt⟩ := hC
      simp [List.range, List.range.loop] at hF
      obtain ⟨e0, e1, e2, ⟨l3, t3, e3, hh⟩, _⟩ := hF
      simp only [List.length_cons, List.length_nil, List.drop_succ_cons, List.drop_zero, e0, e1, e2, e3]
      simp
      obtain ⟨px, py, hpb, hpc⟩ := hpt
      have p1 := (hx.block (w.heap.size + 1) (by omega) (by omega) (by omega)).trans q1
      have p2 := (hx.block (w.heap.size + 1 + 1) (by omega) (by omega) (by omega)).trans q2
      have r0 := blk_cell (blk_far2 (blk_far2 hpc (i := 0) (j := 1) (by omega : w.heap.size ≠ w.heap.size + 1) (.int .i64 u) (.int .i64 v)) (i := 0) (j := 1) (by omega : w.heap.size ≠ w.heap.size + 1 + 1) (.int .i64 l3) (.int .i64 t3))
      have r1 := blk_cell (blk_far2 (blk_set2 p1 (.int .i64 u) (.int .i64 v)) (i := 0) (j := 1) (by omega : w.heap.size + 1 ≠ w.heap.size + 1 + 1) (.int .i64 l3) (.int .i64 t3))
      have r2 := blk_cell (blk_set2 (blk_far2 p2 (i := 0) (j := 1) (by omega : w.heap.size + 1 + 1 ≠ w.heap.size + 1) (.int .i64 u) (.int .i64 v)) (.int .i64 l3) (.int .i64 t3))
      have c0 := blk_cell hpc
      have c1 := blk_cell p1
      have f1 := blk_free p1
      have c2 := blk_cell p2
      have f2 := blk_free p2
      have hfin := hx.below hbel (by omega) (by omega) (Nat.le_refl _)
      have hsz := hx.size
      go_wp2
      ((try simp only [Exit.inBlock, Exit.then]); refine bodyPost_ret (by simp [results, Try.results24, go_sem, *]; try rfl) rfl ?_)
      exact ⟨_, _, _, _, _, _, rfl, hpb, hh2, hh, ((((hfin.setCell (by simp) _).setCell (by simp) _).setCell (by simp; omega) _).setCell (by simp; omega) _)⟩

end Go.Proofs.Ytaklcipdcnegbaa
