/-
  Marks on rings.
-/
import Derived.Test.YtbiddmimcdmnoaaStr
namespace Go.Proofs.Ytbiddmimcdmnoaa
open Go.RowKit Pl

set_option linter.unusedSimpArgs false
set_option linter.unusedVariables false

set_option maxHeartbeats 1000000 in
theorem markPointSS_any {base : Nat} {A : Option Addr} {n c : Nat} {f : Nat → List Pt} {w : World} {m : Int} (h : OwnRO base w (.slice A n c) n f) (hn : n ≤ 1000000) (h0 : 0 ≤ m) (h1 : m ≤ 100000000) (hb : base ≤ w.heap.size) :
    Calls Try.prog 13 #[.slice A n c, .int .i64 m] w fun e w' => e = .returned (.int .i64 (m + 8 * (n : Int))) ∧ OwnRO base w' (.slice A n c) n (fun i => marks (m + 8 * (i : Int)) 4) ∧ Below base w w' := by
  have HP := Lib.hid h
  clear h
  go_enter Try.func13, Try.ntmps13
  go_wp2
  go_loopw [5, 1] (fun i mm wr => ∃ k : Nat, k ≤ n ∧ i = .int .i64 k ∧ mm = .int .i64 (m + 8 * (k : Int)) ∧ OwnRO base wr (.slice A n c) n (fun i => if i < k then marks (m + 8 * (i : Int)) 4 else f i) ∧ Below base w wr) (fun i _ _ => n - (intOf i).toNat)
  case atStart => exact ⟨0, by omega, rfl, by simp, by simpa using HP.out, Below.refl _ _⟩
  case round =>
    obtain ⟨k, hk, rfl, rfl, hown, hbel⟩ := hrel
    have HO := Lib.hid hown
    have HB := Lib.hid hbel
    have hsz := hbel.size
    clear hown hbel
    by_cases hlt : k < n
    · have eb : decide ((k : Int) < n) = true := by simp; omega
      have hki : (k : Int) < n := by omega
      obtain ⟨b, B, d, rfl, hbl, c0, ho, hl4, _, _⟩ := HO.out.at_ hlt
      have HQ := Lib.hid ho
      have HC := Lib.hid c0
      clear ho hl4
      go_wp2_with fail
      refine (markPointS_any HQ.out (by omega) (by omega) (by omega)).mono ?_
      rintro e w1 ⟨rfl, ho1, hg1⟩
      have HM := Lib.hid ho1
      have HG := Lib.hid hg1
      clear ho1 hg1
      go_wp2
      go_roundw
      case rel =>
        refine ⟨k + 1, by omega, by go_num, congrArg (Value.int .i64) (by push_cast; omega), HO.out.put hlt rfl HC.out HG.out ?_ ?_ ?_, HQ.out.markBelow (Nat.le_refl _) HB.out (by omega) HG.out⟩
        · simp only [show k < k + 1 by omega, if_true]; exact HM.out
        · simp only [show k < k + 1 by omega, if_true]; exact marks_len _ _
        · intro i hi
          have e : (i < k + 1) ↔ (i < k) := by omega
          simp only [e]
      case measure => simp [intOf]; omega
    · obtain rfl : k = n := by omega
      have eb : decide ((k : Int) < k) = false := by simp
      have HD : Hid (OwnRO base wr (.slice A k c) k (fun i => marks (m + 8 * (i : Int)) 4)) := Lib.hid (HO.out.congr fun i hi => by simp only [hi, if_true])
      go_wp2
      go_ret
      exact ⟨rfl, HD.out, HB.out⟩

set_option maxHeartbeats 1000000 in
theorem heldPointSS_any {base : Nat} {A : Option Addr} {n c : Nat} {w : World} {m : Int} (h : OwnRO base w (.slice A n c) n (fun i => marks (m + 8 * (i : Int)) 4)) (hn : n ≤ 1000000) (h0 : 0 ≤ m) (h1 : m ≤ 100000000) :
    Calls Try.prog 14 #[.slice A n c, .int .i64 m] w fun e w' => e = .returned (.int .i64 (m + 8 * (n : Int))) ∧ w = w' := by
  have HP := Lib.hid h
  clear h
  go_enter Try.func14, Try.ntmps14
  go_wp2
  go_loop [5, 1] (fun i mm => ∃ k : Nat, k ≤ n ∧ i = .int .i64 k ∧ mm = .int .i64 (m + 8 * (k : Int))) (fun i _ => n - (intOf i).toNat)
  case atStart => exact ⟨0, by omega, rfl, by simp⟩
  case round =>
    obtain ⟨k, hk, rfl, rfl⟩ := hrel
    by_cases hlt : k < n
    · have eb : decide ((k : Int) < n) = true := by simp; omega
      have hki : (k : Int) < n := by omega
      obtain ⟨b, B, d, rfl, hbl, c0, ho, hl4, _, _⟩ := HP.out.at_ hlt
      have HQ := Lib.hid ho.pts'
      have hneg : ¬ m + 8 * (k : Int) + 2 * ((4 : Nat) : Int) < 0 := by omega
      have hneg2 : decide (m + 8 * (k : Int) + 2 * ((4 : Nat) : Int) < 0) = false := decide_eq_false hneg
      have hneg3 : ¬ m + 8 * (k : Int) + 8 < 0 := by omega
      clear ho hl4
      go_wp2_with fail
      refine (heldPointS_any d HQ.out (by omega) (by omega) (by omega)).mono ?_
      rintro e w1 ⟨rfl, rfl⟩
      go_wp2
      go_round
      case rel => exact ⟨k + 1, by omega, by go_num, congrArg (Value.int .i64) (by push_cast; omega)⟩
      case measure => simp [intOf]; omega
    · obtain rfl : k = n := by omega
      have eb : decide ((k : Int) < k) = false := by simp
      go_wp2
      go_ret
      exact ⟨rfl, rfl⟩

end Go.Proofs.Ytbiddmimcdmnoaa
