/-
  Queues: their tiles; new queues; queues compared.
-/
import Derived.Test.YtadpmigppjjmhaaDeqP
namespace Go.Proofs.Ytadpmigppjjmhaa
open Go.RowKit Pl

set_option linter.unusedSimpArgs false
set_option linter.unusedVariables false

set_option maxHeartbeats 1000000 in
theorem empty16_any (w : World) : Calls Try.prog 29 #[] w (fun e w' => ∃ A c, e = .returned (.slice A 16 c) ∧ OwnI w.heap.size w' (.slice A 16 c) (List.replicate 16 (-1)) ∧ Below w.heap.size w w') := by
  go_enter Try.func29, Try.ntmps29
  go_wp2
  go_loopw [1, 2] (fun v i wr => ∃ k : Nat, k ≤ 16 ∧ i = .int .i64 k ∧ OwnI w.heap.size wr v (List.replicate k (-1)) ∧ Below w.heap.size w wr) (fun _ i _ => 16 - (intOf i).toNat)
  case atStart => exact ⟨0, by omega, rfl, OwnI.empty rfl (Nat.le_refl _) (blk_new w _), by (repeat' (first | (with_reducible exact Below.refl _ _) | (with_reducible assumption) | (with_reducible refine Below.alloc ?_ ?_ _) | (with_reducible refine below_drewN ?_ _) | (with_reducible refine Below.drew ?_) | (with_reducible refine Below.setCell ?_ ?_ _) | (with_reducible refine below_call (by assumption) ?_ ?_) | (with_reducible refine below_grown (by assumption) ?_ ?_ ?_) | omega | (simp; done) | (simp; omega)))⟩
  case round =>
    obtain ⟨k, hk, rfl, hown, hbel⟩ := hrel
    have hsz := hbel.size
    have HO := Lib.hid hown
    clear hown
    by_cases hlt : k < 16
    · have eb : decide ((k : Int) < 16) = true := by simp; omega
      have HS : Hid (List.replicate k (-1 : Int) ++ [-1] = List.replicate (k + 1) (-1)) := Lib.hid (by rw [List.replicate_succ'])
      go_wp2_with (at_builtin
                   refine append_i rfl (.tmp 8) (.tmp 9) rfl w.heap.size _ _ rfl (HO.out.alloc _) wr.heap.size 1 (-1) _ rfl (blk_new wr _) (by rw [List.length_replicate]; omega) (by simp; omega) ?_
                   intro v3 w3 hown3 hg3 ha3)
      go_roundw
      case rel => exact ⟨k + 1, by omega, by go_num, by rw [← HS.out]; exact hown3, below_own hg3 (by (repeat' (first | (with_reducible exact Below.refl _ _) | (with_reducible assumption) | (with_reducible refine Below.alloc ?_ ?_ _) | (with_reducible refine below_drewN ?_ _) | (with_reducible refine Below.drew ?_) | (with_reducible refine Below.setCell ?_ ?_ _) | (with_reducible refine below_call (by assumption) ?_ ?_) | (with_reducible refine below_grown (by assumption) ?_ ?_ ?_) | omega | (simp; done) | (simp; omega)))) (by simp; omega) (fun g hg => (HO.out.row g hg).1)⟩
      case measure => simp [intOf]; omega
    · obtain rfl : k = 16 := by omega
      have HO2 := HO
      obtain ⟨A2, c2, e2, k1, k2, _⟩ := HO.out.weak.form
      rw [List.length_replicate] at e2
      subst e2
      clear k1 k2
      go_wp2
      go_ret
      exact ⟨A2, c2, rfl, HO.out, by (repeat' (first | (with_reducible exact Below.refl _ _) | (with_reducible assumption) | (with_reducible refine Below.alloc ?_ ?_ _) | (with_reducible refine below_drewN ?_ _) | (with_reducible refine Below.drew ?_) | (with_reducible refine Below.setCell ?_ ?_ _) | (with_reducible refine below_call (by assumption) ?_ ?_) | (with_reducible refine below_grown (by assumption) ?_ ?_ ?_) | omega | (simp; done) | (simp; omega)))⟩

set_option maxHeartbeats 1000000 in
theorem sNewDeque_any (w : World) : Calls Try.prog 25 #[] w (RetD newD w) := by
  go_enter Try.func25, Try.ntmps25
  go_wp2_with fail
  refine (empty16_any _).mono ?_
  rintro e w1 ⟨A, c, rfl, hown, hb⟩
  have hz := hb.size
  simp at hz
  have HO := Lib.hid hown
  have hgb := blk_below (blk_new w (.cells #[.slice none 0 0, .int .i64 0, .int .i64 0] 56)) hb
  have hcg := blk_cell hgb
  have hfg := blk_free hgb
  have hlg := blk_lt hgb
  clear hgb hown
  go_wp2
  ((try simp only [Exit.inBlock, Exit.then]); refine bodyPost_ret (by simp [results, Try.results25, go_sem, *]; try rfl) rfl ?_)
  exact ⟨A, c, rfl, (HO.out.weak.heap (fun g hg => by
    have hg' : w.heap.size + 1 ≤ g := by simpa using hg
    repeat (first | rfl | (with_reducible refine blk_far ?_ _ (by first | omega | (simp; omega)))))).lower (by simp), by (repeat' (first | (with_reducible exact Below.refl _ _) | (with_reducible assumption) | (with_reducible refine Below.alloc ?_ ?_ _) | (with_reducible refine below_drewN ?_ _) | (with_reducible refine Below.drew ?_) | (with_reducible refine Below.setCell ?_ ?_ _) | (with_reducible refine below_call (by assumption) ?_ ?_) | (with_reducible refine below_grown (by assumption) ?_ ?_ ?_) | omega | (simp; done) | (simp; omega)))⟩

end Go.Proofs.Ytadpmigppjjmhaa
