/-
  Lists of tiles done, compared.
-/
import Derived.Test.YtadpmigppjjmhaaWkX
import Derived.Test.YtadpmigppjjmhaaDrawWk
namespace Go.Proofs.Ytadpmigppjjmhaa
open Go.RowKit Pl

set_option linter.unusedSimpArgs false
set_option linter.unusedVariables false

set_option maxHeartbeats 1000000 in
theorem equalDones_same {A A' : Option Addr} {n : Nat} {l : List Tn} {w : World} (c c' : Nat) (h : IsPts w A n l) (h' : IsPts w A' n l) (hn : n ≤ 1000000000000) :
    Calls Try.prog 7 #[.slice A n c, .slice A' n c'] w fun e w' => e = .returned (.bool true) ∧ Below w.heap.size w w' := by
  have HP := Lib.hid h
  have HP' := Lib.hid h'
  clear h h'
  go_enter Try.func7, Try.ntmps7
  go_wp2
  go_loopw [5] (fun i wr => ∃ k : Nat, k ≤ n ∧ i = .int .i64 k ∧ Below w.heap.size w wr) (fun i _ => n - (intOf i).toNat)
  case atStart => exact ⟨0, by omega, rfl, by (repeat' (first | (with_reducible exact Below.refl _ _) | (with_reducible assumption) | (with_reducible refine Below.alloc ?_ ?_ _) | (with_reducible refine below_drewN ?_ _) | (with_reducible refine Below.drew ?_) | (with_reducible refine Below.setCell ?_ ?_ _) | (with_reducible refine below_call (by assumption) ?_ ?_) | (with_reducible refine below_grown (by assumption) ?_ ?_ ?_) | omega | (simp; done) | (simp; omega)))⟩
  case round =>
    obtain ⟨k, hk, rfl, hbel⟩ := hrel
    have hsz := hbel.size
    by_cases hlt : k < n
    · have eb : decide ((k : Int) < n) = true := by simp; omega
      have hki : (k : Int) < n := by omega
      obtain ⟨b, o, rfl, hbl, c0, c1⟩ := (HP.out.below hbel).at_ hlt
      obtain ⟨b', o', rfl, hbl', c0', c1'⟩ := (HP'.out.below hbel).at_ hlt
      go_wp2_with fail
      go_quiet (fail)
      go_wp2
      go_roundw
      case rel => exact ⟨k + 1, by omega, by go_num, by (repeat' (first | (with_reducible exact Below.refl _ _) | (with_reducible assumption) | (with_reducible refine Below.alloc ?_ ?_ _) | (with_reducible refine below_drewN ?_ _) | (with_reducible refine Below.drew ?_) | (with_reducible refine Below.setCell ?_ ?_ _) | (with_reducible refine below_call (by assumption) ?_ ?_) | (with_reducible refine below_grown (by assumption) ?_ ?_ ?_) | omega | (simp; done) | (simp; omega)))⟩
      case measure => simp [intOf]; omega
    · obtain rfl : k = n := by omega
      have eb : decide ((k : Int) < k) = false := by simp
      go_wp2
      go_ret
      exact ⟨rfl, by (repeat' (first | (with_reducible exact Below.refl _ _) | (with_reducible assumption) | (with_reducible refine Below.alloc ?_ ?_ _) | (with_reducible refine below_drewN ?_ _) | (with_reducible refine Below.drew ?_) | (with_reducible refine Below.setCell ?_ ?_ _) | (with_reducible refine below_call (by assumption) ?_ ?_) | (with_reducible refine below_grown (by assumption) ?_ ?_ ?_) | omega | (simp; done) | (simp; omega)))⟩

theorem IsPts.newsP {w : World} {A : Option Addr} {n : Nat} {l : List Pt} (h : IsPts w A n l) : 0 < n → ∃ ad, A = some ad ∧ ∀ j u, (cellsP l)[j]? = some u → w.cell? (ad.add j) = some u := fun hn => by
  obtain ⟨b, o, e, hp⟩ := h.2 hn
  exact ⟨_, e, hp.news⟩
/-- Pairs that the region has made. -/
def TsB (T : TypeId) (base : Nat) (l : List Pt) (v : Value) (w : World) : Prop := ∃ A c, v = .slice A l.length c ∧ OwnC T base w (.slice A l.length c) l
theorem TsB.below {T : TypeId} {base : Nat} {l : List Pt} {v : Value} {w w' : World} (h : TsB T base l v w) (hb : Below w.heap.size w w') : TsB T base l v w' := by
  obtain ⟨A, c, e, h⟩ := h; exact ⟨A, c, e, h.below hb⟩
theorem TsB.of {T : TypeId} {base n : Nat} {l : List Pt} {v : Value} {w : World} (hl : l.length = n) (h : w.ownsRow base T 2 v n (cellsP l)) : TsB T base l v w := by
  subst hl
  have h' : OwnC T base w v l := h
  obtain ⟨A, c, e, _⟩ := h'.form
  exact ⟨A, c, e, by rw [← e]; exact h'⟩

end Go.Proofs.Ytadpmigppjjmhaa
