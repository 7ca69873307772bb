/-
  isIn of the laws.
-/
import Derived.Test.YtikpaebemiobpaaIntF
namespace Go.Proofs.Ytikpaebemiobpaa
open Go.RowKit Pl

set_option linter.unusedSimpArgs false
set_option linter.unusedVariables false

set_option maxHeartbeats 1000000 in
theorem isIn_eq {A : Option Addr} {n : Nat} {L : List Int} {x : Int} {v : Bool} {w : World} (c : Nat) (h : IsI w A n L) (hn : n ≤ 1000000000000) (hv : (L.any fun y => decide (y = x)) = v) :
    Calls Try.prog 17 #[.slice A n c, .int .i64 x] w fun e w' => e = .returned (.bool v) ∧ w = w' := by
  have HP := Lib.hid h
  have HL := Lib.hid h.len
  have HV := Lib.hid hv
  clear h hv
  go_enter Try.func17, Try.ntmps17
  go_wp2
  go_loop [5] (fun i => ∃ k : Nat, k ≤ n ∧ i = .int .i64 k ∧ ((L.take k).any fun y => decide (y = x)) = false) (fun i => n - (intOf i).toNat)
  case atStart => exact ⟨0, by omega, rfl, rfl⟩
  case round =>
    obtain ⟨k, hk, rfl, hno⟩ := hrel
    have HO := Lib.hid hno
    clear hno
    by_cases hlt : k < n
    · have eb : decide ((k : Int) < n) = true := by simp; omega
      have hki : (k : Int) < n := by omega
      obtain ⟨b, o, rfl, hbl, c0⟩ := HP.out.at_ hlt
      have hkl : k < L.length := by rw [HL.out]; exact hlt
      have HN := Lib.hid (nt_eq hkl)
      obtain ⟨y, hy⟩ : ∃ y, nt L k = y := ⟨_, rfl⟩
      rw [hy] at c0
      have HY := Lib.hid hy
      clear hy
      by_cases hxy : y = x
      · have e1 : decide (y = x) = true := decide_eq_true hxy
        have e2 : (y == x) = true := by simp [hxy]
        have hv1 : v = true := by
          rw [← HV.out, List.any_eq_true]
          exact ⟨L[k], List.getElem_mem _, by rw [← HN.out, HY.out]; exact e1⟩
        subst hv1
        go_wp2
        go_ret
        exact ⟨rfl, rfl⟩
      · have e1 : decide (y = x) = false := decide_eq_false hxy
        have e2 : (y == x) = false := by simp [hxy]
        have hF : Hid (((L.take (k + 1)).any fun y => decide (y = x)) = false) := Lib.hid (by
          rw [List.take_succ_eq_append_getElem hkl, List.any_append, HO.out, ← HN.out, HY.out]
          simp [e1])
        go_wp2
        go_round
        case rel => exact ⟨k + 1, by omega, by go_num, hF.out⟩
        case measure => simp [intOf]; omega
    · obtain rfl : k = n := by omega
      have eb : decide ((k : Int) < k) = false := by simp
      have hv1 : v = false := by
        rw [← HV.out]
        have := HO.out
        rwa [← HL.out, List.take_length] at this
      subst hv1
      go_wp2
      go_ret
      exact ⟨rfl, rfl⟩

end Go.Proofs.Ytikpaebemiobpaa
