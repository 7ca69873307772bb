/-
  What the exact laws do with queues: comparisons, marks.
-/
import Derived.Test.YtclfocdghbmmlaaNewQ
import Derived.Test.YtclfocdghbmmlaaExI
namespace Go.Proofs.Ytclfocdghbmmlaa
open Go.RowKit Pl

set_option linter.unusedSimpArgs false
set_option linter.unusedVariables false

theorem isI_lt {w : World} {A : Option Addr} {n : Nat} {l : List Int} (h : IsI w A n l) (hn : 0 < n) : ∀ a, A = some a → a.block < w.heap.size := fun a ha => by
  obtain ⟨b, o, e, hb, _⟩ := h.at_ hn
  rw [ha] at e; cases e; exact hb
def L16 : List Int := List.replicate 16 (-1)
theorem retD_new {w w' : World} {e : Ending} (h : RetD newD w e w') : ∃ A c, e = .returned (.agg #[.slice A 16 c, .int .i64 0, .int .i64 0]) ∧ OwnJ w.heap.size w' (.slice A 16 c) L16 ∧ Below w.heap.size w w' := h

set_option maxHeartbeats 1000000 in
theorem eqDeque_same {A A' : Option Addr} {n : Nat} {l : List Int} {t b : Int} {w : World} (c c' : Nat) (h : IsI w A n l) (h' : IsI w A' n l) (hn : n ≤ 1000000000000) :
    Calls Try.prog 17 #[.agg #[.slice A n c, .int .i64 t, .int .i64 b], .agg #[.slice A' n c', .int .i64 t, .int .i64 b]] w fun e w' => e = .returned (.bool true) ∧ Below w.heap.size w w' := by
  have HP := Lib.hid h
  have HP' := Lib.hid h'
  clear h h'
  go_enter Try.func17, Try.ntmps17
  go_wp2_with ((go_at_call 43; (with_reducible refine (eqIntS_same c c' (HP.out.below (by (repeat' (first | (with_reducible exact Below.refl _ _) | (with_reducible assumption) | (with_reducible refine Below.alloc ?_ ?_ _) | (with_reducible refine below_drewN ?_ _) | (with_reducible refine Below.drew ?_) | (with_reducible refine Below.setCell ?_ ?_ _) | (with_reducible refine below_call (by assumption) ?_ ?_) | (with_reducible refine below_grown (by assumption) ?_ ?_ ?_) | omega | (simp; done) | (simp; omega))))) (HP'.out.below (by (repeat' (first | (with_reducible exact Below.refl _ _) | (with_reducible assumption) | (with_reducible refine Below.alloc ?_ ?_ _) | (with_reducible refine below_drewN ?_ _) | (with_reducible refine Below.drew ?_) | (with_reducible refine Below.setCell ?_ ?_ _) | (with_reducible refine below_call (by assumption) ?_ ?_) | (with_reducible refine below_grown (by assumption) ?_ ?_ ?_) | omega | (simp; done) | (simp; omega))))) hn).mono ?_); rintro e w1 ⟨rfl, hb⟩; have hz := hb.size; (try simp at hz); (try (have hk := bcl hb (w.heap.size) (by first | omega | (simp; done) | (simp; omega)); have hc := hk.1; have hf := hk.2.1; have hk := hk.2.2)); (try (have hk := bcl hb (w.heap.size + 1) (by first | omega | (simp; done) | (simp; omega)); have hc := hk.1; have hf := hk.2.1; have hk := hk.2.2))))
  go_ret
  exact ⟨rfl, by (repeat' (first | (with_reducible exact Below.refl _ _) | (with_reducible assumption) | (with_reducible refine Below.alloc ?_ ?_ _) | (with_reducible refine below_drewN ?_ _) | (with_reducible refine Below.drew ?_) | (with_reducible refine Below.setCell ?_ ?_ _) | (with_reducible refine below_call (by assumption) ?_ ?_) | (with_reducible refine below_grown (by assumption) ?_ ?_ ?_) | omega | (simp; done) | (simp; omega)))⟩

def MarkedD (base : Nat) (v : Value) (n : Nat) (k : Int) (w : World) (e : Ending) (w' : World) : Prop := e = .returned (.int .i64 (k + (n : Int))) ∧ OwnJ base w' v (marksI k n) ∧ (∀ g, g < w.heap.size → v.ownBlock ≠ some g → w'.heap[g]? = w.heap[g]?) ∧ Below base w w'

theorem ownJ_row {base : Nat} {w : World} {A : Option Addr} {n c : Nat} {l : List Int} (h : OwnJ base w (.slice A n c) l) : ∀ g, (Value.slice A n c).ownBlock = some g → base ≤ g := fun g hg => by
  obtain ⟨A', c', e, _, _, _, h4⟩ := h.form
  cases e
  cases A with
  | none => cases hg
  | some a => simp only [Value.ownBlock, Option.some.injEq] at hg; have := h4 a rfl; omega

set_option maxHeartbeats 1000000 in
theorem markDeque_any {base : Nat} {A : Option Addr} {n c : Nat} {l : List Int} {t b : Int} {w : World} {m : Int} (h : OwnJ base w (.slice A n c) l) (hbs : base ≤ w.heap.size) (hn : n ≤ 1048576) (h0 : 0 ≤ m) (h1 : m ≤ 1000000000) :
    Calls Try.prog 18 #[.agg #[.slice A n c, .int .i64 t, .int .i64 b], .int .i64 m] w (MarkedD base (.slice A n c) n m w) := by
  have HO := Lib.hid h
  clear h
  go_enter Try.func18, Try.ntmps18
  go_wp2_with fail
  refine (markIntS_any (HO.out.below (by (repeat' (first | (with_reducible exact Below.refl _ _) | (with_reducible assumption) | (with_reducible refine Below.alloc ?_ ?_ _) | (with_reducible refine below_drewN ?_ _) | (with_reducible refine Below.drew ?_) | (with_reducible refine Below.setCell ?_ ?_ _) | (with_reducible refine below_call (by assumption) ?_ ?_) | (with_reducible refine below_grown (by assumption) ?_ ?_ ?_) | omega | (simp; done) | (simp; omega))))) hn h0 h1).mono ?_
  rintro e w1 ⟨rfl, ho, hg⟩
  have HO1 := Lib.hid ho
  have HG := Lib.hid hg
  clear ho hg
  go_wp2
  go_ret
  have hg := HG.out
  have hz := hg.size
  simp at hz
  refine ⟨rfl, HO1.out, fun g hl hne => (hg.block g (by simp; omega) (fun e => hne e.symm)).trans (RowKit.Below.heap_alloc w _ g hl), ?_⟩
  exact below_own hg ((Below.refl _ _).alloc hbs _) (by simp; omega) (ownJ_row HO1.out)

set_option maxHeartbeats 1000000 in
theorem heldDeque_any {A : Option Addr} {n : Nat} {t b : Int} {w : World} {m : Int} (c : Nat) (h : IsI w A n (marksI m n)) (hn : n ≤ 1048576) (h0 : 0 ≤ m) (h1 : m ≤ 1000000000) :
    Calls Try.prog 19 #[.agg #[.slice A n c, .int .i64 t, .int .i64 b], .int .i64 m] w fun e w' => e = .returned (.int .i64 (m + (n : Int))) ∧ Below w.heap.size w w' := by
  have HP := Lib.hid h
  clear h
  have hk : ¬ m + (n : Int) < 0 := by omega
  go_enter Try.func19, Try.ntmps19
  go_wp2_with ((go_at_call 45; (with_reducible refine (heldIntS_any c (HP.out.below (by (repeat' (first | (with_reducible exact Below.refl _ _) | (with_reducible assumption) | (with_reducible refine Below.alloc ?_ ?_ _) | (with_reducible refine below_drewN ?_ _) | (with_reducible refine Below.drew ?_) | (with_reducible refine Below.setCell ?_ ?_ _) | (with_reducible refine below_call (by assumption) ?_ ?_) | (with_reducible refine below_grown (by assumption) ?_ ?_ ?_) | omega | (simp; done) | (simp; omega))))) hn h0 h1).mono ?_); rintro e w1 ⟨rfl, rfl⟩))
  go_ret
  exact ⟨rfl, by (repeat' (first | (with_reducible exact Below.refl _ _) | (with_reducible assumption) | (with_reducible refine Below.alloc ?_ ?_ _) | (with_reducible refine below_drewN ?_ _) | (with_reducible refine Below.drew ?_) | (with_reducible refine Below.setCell ?_ ?_ _) | (with_reducible refine below_call (by assumption) ?_ ?_) | (with_reducible refine below_grown (by assumption) ?_ ?_ ?_) | omega | (simp; done) | (simp; omega)))⟩

end Go.Proofs.Ytclfocdghbmmlaa
