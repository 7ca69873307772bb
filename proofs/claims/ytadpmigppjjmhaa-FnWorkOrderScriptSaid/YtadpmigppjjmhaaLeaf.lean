/-
  What the small functions on numbers and boxes return: each once, for all arguments.
-/
import Derived.Test.YtadpmigppjjmhaaRows
import Derived.Test.YtadpmigppjjmhaaPlain
import Derived.WalkKit
import Derived.WalkSpells
import Derived.WalkLawsBesides
import Derived.Lib.Hide
import Derived.Handy
import Derived.Deep.Draws
import Derived.Lib.MinMax
import Derived.BigGuardPart
namespace Go.Proofs.Ytadpmigppjjmhaa
open Go.RowKit Pl

theorem ret_bool {a b : Bool} (h : a = true ↔ b = true) : Ending.returned (.bool a) = .returned (.bool b) := by rw [Bool.eq_iff_iff.2 h]
theorem ret_int {k : IntKind} {a b : Int} (h : a = b) : Ending.returned (.int k a) = .returned (.int k b) := by rw [h]

theorem bcell {W w1 : World} (hb : Below W.heap.size W w1) : ∀ b o, b < W.heap.size → w1.cell? ⟨b, o, none⟩ = W.cell? ⟨b, o, none⟩ := fun b o h => hb.cell (p := ⟨b, o, none⟩) h
theorem bfree {W w1 : World} (hb : Below W.heap.size W w1) : ∀ b o, b < W.heap.size → w1.frozen? ⟨b, o, none⟩ = W.frozen? ⟨b, o, none⟩ := fun b o h => hb.frozen (p := ⟨b, o, none⟩) h
theorem bcl {W w1 : World} (hb : Below W.heap.size W w1) (k : Nat) (hk : k < W.heap.size) : (∀ o, w1.cell? ⟨k, o, none⟩ = W.cell? ⟨k, o, none⟩) ∧ (∀ o, w1.frozen? ⟨k, o, none⟩ = W.frozen? ⟨k, o, none⟩) ∧ k < w1.heap.size :=
  ⟨fun o => hb.cell (p := ⟨k, o, none⟩) hk, fun o => hb.frozen (p := ⟨k, o, none⟩) hk, Nat.lt_of_lt_of_le hk hb.size⟩
theorem below_drewN {B : Nat} {a w : World} (h : Below B a w) (n : Nat) : Below B a (w.drewN n) := ⟨h.os, h.tape, h.output, h.size, h.block⟩
theorem below_call {B : Nat} {w w1 w2 : World} (h2 : Below w1.heap.size w1 w2) (h1 : Below B w w1) (hB : B ≤ w1.heap.size) : Below B w w2 := h1.trans (h2.mono hB)

set_option maxHeartbeats 400000 in
theorem in_eq {n lo hi : Int} {v : Bool} (h : inB n lo hi = v) (w : World) :
    Calls Try.prog 18 #[.int .i64 n, .int .i64 lo, .int .i64 hi] w fun e w' => e = .returned (.bool v) ∧ w = w' := by
  subst h
  go_enter Try.func18, Try.ntmps18
  go_wp2
  all_goals (go_ret; exact ⟨ret_bool (by rw [inB_true]; first | omega | (simp; omega) | (simp; done)), rfl⟩)

set_option maxHeartbeats 400000 in
theorem inRange_eq {n lo hi : Int} {v : Bool} (h : inB n lo hi = v) (w : World) :
    Calls Try.prog 14 #[.int .i64 n, .int .i64 lo, .int .i64 hi] w fun e w' => e = .returned (.bool v) ∧ w = w' := by
  subst h
  go_enter Try.func14, Try.ntmps14
  go_wp2
  all_goals (go_ret; exact ⟨ret_bool (by rw [inB_true]; first | omega | (simp; omega) | (simp; done)), rfl⟩)

/-- A box that comes back. -/
def Box (x : Bx) (w : World) (e : Ending) (w' : World) : Prop := e = .returned (.agg #[.int .i64 x.l, .int .i64 x.t, .int .i64 x.r, .int .i64 x.b]) ∧ Below w.heap.size w w'
theorem Box.mk {x : Bx} {l t r b : Int} {w w' : World} (h : x = ⟨l, t, r, b⟩) (hb : Below w.heap.size w w') : Box x w (.returned (.agg #[.int .i64 l, .int .i64 t, .int .i64 r, .int .i64 b])) w' := by subst h; exact ⟨rfl, hb⟩

end Go.Proofs.Ytadpmigppjjmhaa
