/-
  Curves, drawn.
-/
import Derived.Test.YtmojbcnldipdgaaDrawL
namespace Go.Proofs.Ytmojbcnldipdgaa
open Go.RowKit Pl

set_option linter.unusedSimpArgs false
set_option linter.unusedVariables false

/-- A curve, drawn. -/
def AnyCurve (g : Nat) (A : Option Addr) (n c : Nat) (z : Nat → Int) (w : World) (k : Nat) (e : Ending) (w' : World) : Prop :=
  ∃ v l, e = .returned v ∧ l.length ≤ 5 ∧ OwnP w.heap.size w' v l ∧ Rd g A n c z w' (k + 200) ∧ w.grownBy w' (some g)

set_option maxHeartbeats 2000000 in
theorem anyCurve_any {g : Nat} {A : Option Addr} {n c : Nat} {z : Nat → Int} {w : World} {k : Nat} (h : Rd g A n c z w k) (hk : k ≤ 980000) :
    Calls Try.prog 11 #[.pointer (some ⟨g, 0, none⟩)] w (AnyCurve g A n c z w k) := by
  have hgl := h.lt
  go_enter Try.func11, Try.ntmps11
  go_wp2_with fail
  refine (one_lit (l := [_, _, _, _, _, _, _]) (by repeat' (first | (with_reducible assumption) | (with_reducible apply Rd.alloc) | (with_reducible apply Rd.drewN) | (with_reducible apply rd_below (by assumption)) | (with_reducible apply Rd.setFar) | omega | (simp; omega))) (by omega) (by simp) rfl (by simp) (by simp) _).mono ?_
  rintro e w1 ⟨n0, rfl, hx, hr, hg⟩
  simp only [List.mem_cons, List.not_mem_nil, or_false] at hx
  have hz1 := hg.size
  simp at hz1
  obtain ⟨m, rfl, hm⟩ : ∃ m : Nat, n0 = (m : Int) ∧ m ≤ 5 := ⟨n0.toNat, by omega, by omega⟩
  clear hx
  have E0 : Hid (OwnPts w.heap.size w1 (.slice (some ⟨w.heap.size, 0, none⟩) 0 0) []) := Lib.hid (OwnPts.empty rfl (Nat.le_refl _) (by (repeat' (first | (with_reducible assumption) | (with_reducible exact blk_new _ _) | (with_reducible exact blk_new1 _ _ _) | (with_reducible exact blk_new2 _ _ _ _) | (with_reducible refine blk_alloc ?_ _) | (with_reducible refine blk_drewN ?_ _) | (with_reducible refine blk_down (by assumption) ?_) | (with_reducible refine blk_up (by assumption) (by omega) ?_) | (with_reducible refine blk_far ?_ _ (by simp; omega))))))
  have R0 := Lib.hid hr
  have G0 : Hid (w.grownBy w1 (some g)) := Lib.hid (by (repeat' (first | (with_reducible exact World.grownBy.refl _ _) | (with_reducible assumption) | (with_reducible refine only_alloc ?_ _) | (with_reducible refine only_drewN ?_ _) | (with_reducible refine only_setCell ?_ (by first | exact .inl rfl | exact .inr (Nat.le_refl _) | (right; simp; done) | (right; simp; omega)) _) | (with_reducible refine grown_call (by assumption) ?_) | (with_reducible refine grown_below (by assumption) ?_ (by first | omega | (simp; done) | (simp; omega))))))
  clear hr hg
  go_wp2
  go_loopw [4, 3] (fun i v wr => ∃ (j : Nat) (l : List Pt), i = .int .i64 j ∧ j + l.length ≤ 5 ∧ OwnPts w.heap.size wr v l ∧ Rd g A n c z wr (k + 1 + 10 * l.length) ∧ w.grownBy wr (some g)) (fun i _ _ => (intOf i).toNat)
  case atStart => exact ⟨m, [], rfl, by simpa using hm, E0.out, R0.out, G0.out⟩
  case round =>
    obtain ⟨j, l, rfl, hjl, hown, hr, hg⟩ := hrel
    have hsz := hg.size
    have HO := Lib.hid hown
    have R0 := Lib.hid hr
    have G0 := Lib.hid hg
    clear hown hr hg E0
    by_cases hj : 0 < j
    · have eb : decide ((0 : Int) < j) = true := by simp; omega
      go_wp2_with fail
      refine (anyPoint_any R0.out (by omega)).mono ?_
      rintro e w2 ⟨x, y, rfl, _, hr, hg⟩
      have hsz2 := hg.size
      have R1 := Lib.hid hr
      have G1 := Lib.hid hg
      clear hr hg
      go_wp2_with (at_builtin
                   refine append_pts rfl (.tmp 13) (.tmp 16) rfl w.heap.size _ _ rfl ((HO.out.grown G1.out hgl).alloc _) w2.heap.size 1 _ _ _ rfl (blk_new w2 _) (by omega) (by simp; omega) ?_
                   intro v3 w3 hown3 hg3)
      go_roundw
      case rel => exact ⟨j - 1, l ++ [(x, y)], by rw [show ((j - 1 : Nat) : Int) = (j : Int) - 1 by omega], by simp; omega, hown3, Rd.more ((R1.out.alloc _).own hg3 (fun r hr => by have := HO.out.row r hr; omega)) (by simp; omega), only_own hg3 (only_alloc (grown_call G1.out G0.out) _) (fun r hr => HO.out.row r hr)⟩
      case measure => simp [intOf]; omega
    · obtain rfl : j = 0 := by omega
      have eb : decide ((0 : Int) < ((0 : Nat) : Int)) = false := by decide
      obtain ⟨A2, c2, e2, h1, h2, h3, h4⟩ := HO.out.weak
      subst e2
      go_wp2
      go_ret
      exact ⟨_, l, rfl, by omega, ⟨A2, c2, rfl, h1, h2, h3, h4⟩, Rd.more R0.out (by omega), G0.out⟩

end Go.Proofs.Ytmojbcnldipdgaa
