/-
  FnWorkOrderOne holds: one worker draws from the last tile to the first one. Whatever tiles, workers and turns the generator gives. No condition.
-/
import Derived.Test.YtadpmigppjjmhaaWkE
import Derived.Test.YtadpmigppjjmhaaCode
import Derived.ProofKit
import Derived.OpenShut
import Derived.ShutString
import Derived.ChangeOld
import Derived.Lib.SmallJoins
namespace Go.Proofs.Ytadpmigppjjmhaa
open Go.RowKit Pl Go.ChangeShapes Go.WideShapes Go.ChangeAt
open Go.ChangeMaps (open_string shut_string)

set_option linter.unusedSimpArgs false
set_option linter.unusedVariables false

set_option maxRecDepth 100000 in
set_option maxHeartbeats 4000000 in
theorem FnWorkOrderOne_walk (w : World) (A : Option Addr) (n c : Nat) (h : Code w A n c) :
    Calls Try.prog 3 #[.slice A n c] w fun e w' => e = .returned (.bool true) ∧ Below w.heap.size w w' := by
  by_cases hn : 1048576 < n
  · go_enter Try.func3, Try.ntmps3
    go_wp2
    go_ret
    exact ⟨rfl, by (repeat' (first | (with_reducible exact Below.refl _ _) | (with_reducible assumption) | (with_reducible refine Below.alloc ?_ ?_ _) | (with_reducible refine below_drewN ?_ _) | (with_reducible refine Below.drew ?_) | (with_reducible refine Below.setCell ?_ ?_ _) | (with_reducible refine below_call (by assumption) ?_ ?_) | go_size))⟩
  · go_enter Try.func3, Try.ntmps3
    go_wp2_with fail
    refine (DrawWorkOrder_any (h.below (by (repeat' (first | (with_reducible exact Below.refl _ _) | (with_reducible assumption) | (with_reducible refine Below.alloc ?_ ?_ _) | (with_reducible refine below_drewN ?_ _) | (with_reducible refine Below.drew ?_) | (with_reducible refine Below.setCell ?_ ?_ _) | (with_reducible refine below_call (by assumption) ?_ ?_) | go_size))))).mono ?_
    rintro e wd ⟨B, d, l, x, y, rfl, hx, hy, hl31, hld, hI, hb⟩
    have hz0 := hb.size
    have HI := Lib.hid hI
    obtain ⟨n0, hn0⟩ : ∃ n0, l.length = n0 := ⟨_, rfl⟩
    have HL := Lib.hid hn0
    clear hI
    rw [hn0] at HI hl31 hld ⊢
    clear hn0
    go_wp2_with fail
    refine (WorkOrder_any d HI.out (by omega) (by omega) (by omega)).mono ?_
    rintro e wa ⟨A1, c1, L, rfl, hI1, hW1, _, _, hba⟩
    have hza := hba.size
    have HI1 := Lib.hid hI1
    have HW := Lib.hid hW1
    clear hI1 hW1
    go_wp2_with fail
    refine (sWorkOrder_any d (HI.out.below hba) (by omega) (by omega) (by omega)).mono ?_
    rintro e wb ⟨A2, c2, L2, rfl, hI2, hW2, _, _, hbb⟩
    have hzb := hbb.size
    obtain rfl : L2 = L := hW2.unique HW.out
    have HI2 := Lib.hid hI2
    clear hI2 hW2
    have hL16 := HW.out.len
    obtain ⟨N, hN⟩ : ∃ N, L2.length = N := ⟨_, rfl⟩
    have HN := Lib.hid hN
    rw [hN] at HI1 HI2 hL16 ⊢
    clear hN
    go_wp2_with fail
    refine (equalDones_same c1 c2 (HI1.out.below hbb) HI2.out (by omega)).mono ?_
    rintro e wc ⟨rfl, hbc⟩
    have hzc := hbc.size
    rcases Nat.eq_zero_or_pos N with h0 | h0
    · have e0 : decide ((N : Int) = 0) = true := decide_eq_true (by omega)
      have e0n : decide (N = 0) = true := decide_eq_true h0
      have e0b : ((N : Int) == 0) = true := by simp; omega
      clear h0
      go_wp2_with fail
      (with_reducible refine (sWorkOrder_any d (HI.out.below (by (repeat' (first | (with_reducible exact Below.refl _ _) | (with_reducible assumption) | (with_reducible refine Below.alloc ?_ ?_ _) | (with_reducible refine below_drewN ?_ _) | (with_reducible refine Below.drew ?_) | (with_reducible refine Below.setCell ?_ ?_ _) | (with_reducible refine below_call (by assumption) ?_ ?_) | (with_reducible refine below_grown (by assumption) ?_ ?_ ?_) | omega | (simp; done) | (simp; omega))))) (by omega) (by omega) (by omega)).mono ?_)
      rintro e we ⟨A4, c4, L4, rfl, hI4, hW4, _, _, hbe⟩
      have hze := hbe.size
      obtain rfl : L4 = L2 := hW4.unique HW.out
      rw [HN.out] at hI4 ⊢
      have HI4 := Lib.hid hI4
      clear hI4 hW4
      go_wp2_with fail
      refine (equalDones_same c1 c4 (HI1.out.below (by (repeat' (first | (with_reducible exact Below.refl _ _) | (with_reducible assumption) | (with_reducible refine Below.alloc ?_ ?_ _) | (with_reducible refine below_drewN ?_ _) | (with_reducible refine Below.drew ?_) | (with_reducible refine Below.setCell ?_ ?_ _) | (with_reducible refine below_call (by assumption) ?_ ?_) | (with_reducible refine below_grown (by assumption) ?_ ?_ ?_) | omega | (simp; done) | (simp; omega))))) HI4.out (by omega)).mono ?_
      rintro e wf ⟨rfl, hbf⟩
      have hzf := hbf.size
      go_wp2
      go_ret
      exact ⟨rfl, by (repeat' (first | (with_reducible exact Below.refl _ _) | (with_reducible assumption) | (with_reducible refine Below.alloc ?_ ?_ _) | (with_reducible refine below_drewN ?_ _) | (with_reducible refine Below.drew ?_) | (with_reducible refine Below.setCell ?_ ?_ _) | (with_reducible refine below_call (by assumption) ?_ ?_) | (with_reducible refine below_grown (by assumption) ?_ ?_ ?_) | omega | (simp; done) | (simp; omega)))⟩
    · have e0 : decide ((N : Int) = 0) = false := decide_eq_false (by omega)
      have e0n : decide (N = 0) = false := decide_eq_false (by omega)
      have e0b : ((N : Int) == 0) = false := by simp; omega
      obtain ⟨hwb, hNx⟩ := HW.out.some (by rw [HN.out]; exact h0)
      have hx16 := (workB_parts hwb).1
      go_wp2_with fail
      refine (WorkOrder_any 0 (IsPts.nil _ _) (by omega) (by omega) (by omega)).mono ?_
      rintro e we ⟨A4, c4, L4, rfl, hI4, hW4, _, _, hbe⟩
      have hze := hbe.size
      obtain ⟨hl4, hat⟩ := hW4.one hx16.1 hx16.2
      obtain ⟨m, hm⟩ : ∃ m, L4.length = m := ⟨_, rfl⟩
      rw [hm] at hI4 hl4 hat ⊢
      have HI4 := Lib.hid hI4
      have HAT := Lib.hid hat
      have hm16 : m ≤ 16 := by omega
      obtain rfl : x = (m : Int) := hl4.symm
      clear hI4 hW4 hat hm hwb hNx HW hx hl4
      have HBW : Hid (Below w.heap.size w we) := Lib.hid (by (repeat' (first | (with_reducible exact Below.refl _ _) | (with_reducible assumption) | (with_reducible refine Below.alloc ?_ ?_ _) | (with_reducible refine below_drewN ?_ _) | (with_reducible refine Below.drew ?_) | (with_reducible refine Below.setCell ?_ ?_ _) | (with_reducible refine below_call (by assumption) ?_ ?_) | (with_reducible refine below_grown (by assumption) ?_ ?_ ?_) | omega | (simp; done) | (simp; omega))))
      go_wp2
      go_loopw [8] (fun i wr => ∃ k : Nat, k ≤ m ∧ i = .int .i64 (k : Int) ∧ Below we.heap.size we wr) (fun i _ => m - (intOf i).toNat)
      case atStart => exact ⟨0, by omega, rfl, Below.refl _ _⟩
      case round =>
        obtain ⟨k, hk, rfl, hbel⟩ := hrel
        have hsz := hbel.size
        by_cases hlt : k < m
        · have eb : decide ((k : Int) < m) = true := decide_eq_true (by omega)
          have hki : (k : Int) < m := by omega
          obtain ⟨b, o, rfl, hbl, q0, q1⟩ := (HI4.out.below hbel).at_ hlt
          have hp := px_script (HAT.out k hlt)
          rw [hp.1] at q0
          rw [hp.2] at q1
          clear hp
          go_wp2
          go_roundw
          case rel => exact ⟨k + 1, by omega, congrArg (Value.int .i64) (by push_cast; omega), hbel⟩
          case measure => simp [intOf]; omega
        · obtain rfl : k = m := by omega
          have eb : decide ((k : Int) < k) = false := by simp
          go_wp2
          go_ret
          exact ⟨by simp, below_call hbel HBW.out (by have := HBW.out.size; omega)⟩

theorem FnWorkOrderOne_own : ownKnob Try.prog.godebug = none := by kernel_rfl
theorem FnWorkOrderOne_laid : laidOutB Try.prog = true := by kernel_rfl

set_option maxRecDepth 100000 in
theorem FnWorkOrderOne_lifted (os : Os) (started : os.Started) (H : Type) (enc : TypeId × Value → H) :
    ReturnsInHanded {} Try.checked os 3 .any (Rows.fnWorkOrderOneSpec.pre6 enc Try.prog Try.f3 Rows.fnWorkOrderOneRow.domain false) (Rows.fnWorkOrderOneSpec.post enc Try.prog Try.f3 false true false false) := by
  refine returnsInHanded_of_change (C := Try.checked) FnWorkOrderOne_own started (by kernel_rfl) Try.func3
    (ChangeSpec.witness6 (enc := enc) (C := Try.checked) false ⟨#[], #[.slice none 0 0], []⟩ 8 (by kernel_rfl) (by kernel_rfl) (by kernel_rfl) (by kernel_rfl)) ?_
  intro W base args ds gs before hval0 hW hcnd _
  have hval : ∀ (j : Nat) t v, Try.f3.params[j]? = some t → args[j]? = some v → Value.okWide Try.prog W .any base t v := hval0
  have hW' := hW
  obtain ⟨p, q, hA0, hV, rfl, hfz, hnd⟩ := hW
  have hA : DataW.TrodAll enc Try.prog W 0 (fun _ => true) true Try.f3.params.toList args.toList ds p := hA0
  rw [Try.params3] at hA hval
  obtain ⟨v0, vs0, d0, ds0, p0, q0, hargs, rfl, rfl, h0, r0⟩ := trodAll_cons hA
  obtain ⟨rfl, rfl, rfl⟩ := trodAll_nil r0
  obtain rfl : args = #[v0] := by cases args; simp_all
  obtain ⟨rfl, rfl⟩ := trodVars_none hV
  have k0 := h0
  have lt0 : ∀ x ∈ p0, x.block < W.heap.size := by obtain ⟨m, hm⟩ := k0; exact DataW.trod_lt m _ _ _ hm
  obtain ⟨a0, len0, cap0, rfl⟩ := okWide_slice Try.underlying22 (hval 0 22 v0 rfl rfl)
  have w0 := code_of Try.underlying22 Try.underlying5 (by kernel_rfl) h0
  clear hA0 hval0
  refine (FnWorkOrderOne_walk W _ _ _ w0).mono fun e W' ⟨he, bel⟩ => ?_
  subst he
  exact ⟨_, rfl, _, _, _, [], _, [], hW', trodAll_mk1 (shut_bool Try.underlying4 _), (trodAll_cons_mk (Below.trod FnWorkOrderOne_laid (by kernel_rfl) (of_decide_eq_true (by kernel_rfl)) k0 bel lt0) trodAll_mk0), rfl, bel.frame _, fun h => by cases h⟩

theorem FnWorkOrderOne_over : Rows.fnWorkOrderOneRow.holds Try.pinned (OpenSpec.ofChange Rows.fnWorkOrderOneSpec) :=
  OpenClaim.holds_of_wide 3 Try.f3 rfl rfl rfl rfl rfl rfl rfl ⟨rfl, rfl, rfl, rfl, rfl⟩ rfl rfl rfl rfl rfl (by kernel_rfl) Try.func3 (by kernel_rfl)
    (of_decide_eq_true (by kernel_rfl)) (by unfold Func.isWrapper; first | (rw [if_pos (by decide +kernel)]; kernel_rfl) | (rw [if_neg (by decide +kernel)]; exact ⟨rfl, rfl⟩))
    (fun os started H enc _ => FnWorkOrderOne_lifted os started H enc)

/-- The statement. -/
theorem FnWorkOrderOne_holds : Rows.FnWorkOrderOneSaid := FnWorkOrderOne_over
#print axioms FnWorkOrderOne_holds

end Go.Proofs.Ytadpmigppjjmhaa
