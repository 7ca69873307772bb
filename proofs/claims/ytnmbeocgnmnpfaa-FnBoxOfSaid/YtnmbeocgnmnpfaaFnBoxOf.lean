/-
  FnBoxOf holds. Whatever points the generator gives. No condition.
-/
import Derived.Test.YtnmbeocgnmnpfaaDrawL
import Derived.Test.YtnmbeocgnmnpfaaLPts
import Derived.Test.YtnmbeocgnmnpfaaCode
import Derived.ProofKit
import Derived.OpenShut
import Derived.ShutString
import Derived.ChangeOld
import Derived.Lib.SmallJoins
namespace Go.Proofs.Ytnmbeocgnmnpfaa
open Go.RowKit Pl Go.ChangeShapes Go.WideShapes Go.ChangeAt
open Go.ChangeMaps (open_string shut_string)

set_option linter.unusedSimpArgs false
set_option linter.unusedVariables false

set_option maxRecDepth 100000 in
set_option maxHeartbeats 8000000 in
theorem FnBoxOf_walk (w : World) (A : Option Addr) (n c : Nat) (h : Code w A n c) :
    Calls Try.prog 3 #[.slice A n c] w fun e w' => e = .returned (.bool true) ∧ Below w.heap.size w w' := by
  by_cases hn : 1048576 < n
  · go_enter Try.func3, Try.ntmps3
    go_wp2
    go_ret
    exact ⟨rfl, by (repeat' (first | (with_reducible exact Below.refl _ _) | (with_reducible assumption) | (with_reducible refine Below.alloc ?_ ?_ _) | (with_reducible refine below_drewN ?_ _) | (with_reducible refine Below.drew ?_) | (with_reducible refine Below.setCell ?_ ?_ _) | (with_reducible refine below_call (by assumption) ?_ ?_) | go_size))⟩
  · go_enter Try.func3, Try.ntmps3
    go_wp2_with fail
    refine (DrawBoxOf_any (h.below (by (repeat' (first | (with_reducible exact Below.refl _ _) | (with_reducible assumption) | (with_reducible refine Below.alloc ?_ ?_ _) | (with_reducible refine below_drewN ?_ _) | (with_reducible refine Below.drew ?_) | (with_reducible refine Below.setCell ?_ ?_ _) | (with_reducible refine below_call (by assumption) ?_ ?_) | go_size))))).mono ?_
    rintro e wd ⟨v, l, rfl, hl41, hv, hb⟩
    have hz0 := hb.size
    obtain ⟨A0, c0, rfl, _, _, hP, _⟩ := hv.form
    have HP := Lib.hid hP
    obtain ⟨n0, hn0⟩ : ∃ n0, l.length = n0 := ⟨_, rfl⟩
    have HL := Lib.hid hn0
    clear hv hP
    rw [hn0] at HP hl41 ⊢
    clear hn0
    obtain ⟨ok, hok⟩ : ∃ v, boxOk l = v := ⟨_, rfl⟩
    obtain ⟨⟨bl, bt, br, bb⟩, hm⟩ : ∃ m, boxR l = m := ⟨_, rfl⟩
    cases ok with
    | false =>
      have e : boxR l = ⟨0, 0, 0, 0⟩ := by rw [boxR, hok]; rfl
      rw [e, Bx.mk.injEq] at hm
      obtain ⟨rfl, rfl, rfl, rfl⟩ := hm
      have H1 := Lib.hid hok
      have H2 := Lib.hid e
      clear hok e
      go_wp2_with fail; (with_reducible refine (BoxOf_eq c0 HP.out (by omega) (Hid.out (by with_reducible assumption)) (Hid.out (by with_reducible assumption))).mono ?_); rintro e wa ⟨rfl, hb⟩; have hz := hb.size; (try simp at hz)
      go_wp2_with fail; (with_reducible refine (sBoxOf_eq c0 (HP.out.below (by (repeat' (first | (with_reducible exact Below.refl _ _) | (with_reducible assumption) | (with_reducible refine Below.alloc ?_ ?_ _) | (with_reducible refine below_drewN ?_ _) | (with_reducible refine Below.drew ?_) | (with_reducible refine Below.setCell ?_ ?_ _) | (with_reducible refine below_call (by assumption) ?_ ?_) | (with_reducible refine below_grown (by assumption) ?_ ?_ ?_) | omega | (simp; done) | (simp; omega))))) (by omega) (Hid.out (by with_reducible assumption)) (Hid.out (by with_reducible assumption))).mono ?_); rintro e wb ⟨rfl, hb⟩; have hz := hb.size; (try simp at hz); (try (have hk := bcl hb (wa.heap.size) (by first | omega | (simp; done) | (simp; omega)); have hc := hk.1; have hf := hk.2.1; have hk := hk.2.2))
      go_wp2
      go_ret
      exact ⟨rfl, by (repeat' (first | (with_reducible exact Below.refl _ _) | (with_reducible assumption) | (with_reducible refine Below.alloc ?_ ?_ _) | (with_reducible refine below_drewN ?_ _) | (with_reducible refine Below.drew ?_) | (with_reducible refine Below.setCell ?_ ?_ _) | (with_reducible refine below_call (by assumption) ?_ ?_) | (with_reducible refine below_grown (by assumption) ?_ ?_ ?_) | omega | (simp; done) | (simp; omega)))⟩
    | true =>
      obtain ⟨q1, q2⟩ := boxOk_parts hok
      have h1 : bbx l (l.length - 1) = ⟨bl, bt, br, bb⟩ := by rw [← hm, boxR, hok]; rfl
      have hin : ∀ k, k < n0 → (bl ≤ px l k ∧ px l k ≤ br ∧ bt ≤ py l k ∧ py l k ≤ bb) := fun k hk => by
        have := bbx_around l (l.length - 1) k (by have := HL.out; omega)
        rw [h1] at this; exact this
      have hs1 : someEq (px l) bl n0 = true := by
        obtain ⟨i, g1, f1⟩ := bbx_left l (l.length - 1)
        rw [h1] at f1; exact someEq_true (by have := HL.out; omega) f1
      have hs2 : someEq (py l) bt n0 = true := by
        obtain ⟨i, g1, f1⟩ := bbx_top l (l.length - 1)
        rw [h1] at f1; exact someEq_true (by have := HL.out; omega) f1
      have hs3 : someEq (px l) br n0 = true := by
        obtain ⟨i, g1, f1⟩ := bbx_right l (l.length - 1)
        rw [h1] at f1; exact someEq_true (by have := HL.out; omega) f1
      have hs4 : someEq (py l) bb n0 = true := by
        obtain ⟨i, g1, f1⟩ := bbx_bottom l (l.length - 1)
        rw [h1] at f1; exact someEq_true (by have := HL.out; omega) f1
      have HI := Lib.hid hin
      have S1 := Lib.hid hs1
      have S2 := Lib.hid hs2
      have S3 := Lib.hid hs3
      have S4 := Lib.hid hs4
      have H1 := Lib.hid hok
      have H2 := Lib.hid hm
      clear hok hm q1 q2 h1 hin hs1 hs2 hs3 hs4
      go_wp2_with fail; (with_reducible refine (BoxOf_eq c0 HP.out (by omega) (Hid.out (by with_reducible assumption)) (Hid.out (by with_reducible assumption))).mono ?_); rintro e wa ⟨rfl, hb⟩; have hz := hb.size; (try simp at hz)
      have hab : Below wd.heap.size wd wa := by (repeat' (first | (with_reducible exact Below.refl _ _) | (with_reducible assumption) | (with_reducible refine Below.alloc ?_ ?_ _) | (with_reducible refine below_drewN ?_ _) | (with_reducible refine Below.drew ?_) | (with_reducible refine Below.setCell ?_ ?_ _) | (with_reducible refine below_call (by assumption) ?_ ?_) | (with_reducible refine below_grown (by assumption) ?_ ?_ ?_) | omega | (simp; done) | (simp; omega)))
      go_wp2_with fail; (with_reducible refine (sBoxOf_eq c0 (HP.out.below (by (repeat' (first | (with_reducible exact Below.refl _ _) | (with_reducible assumption) | (with_reducible refine Below.alloc ?_ ?_ _) | (with_reducible refine below_drewN ?_ _) | (with_reducible refine Below.drew ?_) | (with_reducible refine Below.setCell ?_ ?_ _) | (with_reducible refine below_call (by assumption) ?_ ?_) | (with_reducible refine below_grown (by assumption) ?_ ?_ ?_) | omega | (simp; done) | (simp; omega))))) (by omega) (Hid.out (by with_reducible assumption)) (Hid.out (by with_reducible assumption))).mono ?_); rintro e wb ⟨rfl, hb⟩; have hz := hb.size; (try simp at hz); (try (have hk := bcl hb (wa.heap.size) (by first | omega | (simp; done) | (simp; omega)); have hc := hk.1; have hf := hk.2.1; have hk := hk.2.2))
      have q0 : wb.heap[wa.heap.size]? = some (.cells #[.int .i64 bl, .int .i64 bt, .int .i64 br, .int .i64 bb] 26 (0, 0)) := by (repeat' (first | (with_reducible assumption) | (with_reducible exact blk_new _ _) | (with_reducible exact blk_new1 _ _ _) | (with_reducible exact blk_new2 _ _ _ _) | (with_reducible refine blk_alloc ?_ _) | (with_reducible refine blk_drewN ?_ _) | (with_reducible refine blk_down (by assumption) ?_) | (with_reducible refine blk_up (by assumption) (by omega) ?_) | (with_reducible refine blk_far ?_ _ (by simp; omega))))
      have hdb : Below wd.heap.size wd wb := by (repeat' (first | (with_reducible exact Below.refl _ _) | (with_reducible assumption) | (with_reducible refine Below.alloc ?_ ?_ _) | (with_reducible refine below_drewN ?_ _) | (with_reducible refine Below.drew ?_) | (with_reducible refine Below.setCell ?_ ?_ _) | (with_reducible refine below_call (by assumption) ?_ ?_) | (with_reducible refine below_grown (by assumption) ?_ ?_ ?_) | omega | (simp; done) | (simp; omega)))
      have hwd : Below w.heap.size w wd := by (repeat' (first | (with_reducible exact Below.refl _ _) | (with_reducible assumption) | (with_reducible refine Below.alloc ?_ ?_ _) | (with_reducible refine below_drewN ?_ _) | (with_reducible refine Below.drew ?_) | (with_reducible refine Below.setCell ?_ ?_ _) | (with_reducible refine below_call (by assumption) ?_ ?_) | (with_reducible refine below_grown (by assumption) ?_ ?_ ?_) | omega | (simp; done) | (simp; omega)))
      have hzz : wd.heap.size ≤ wa.heap.size ∧ wa.heap.size < wb.heap.size := by have := hab.size; exact ⟨this, blk_lt q0⟩
      go_wp2
      clear hc hf hk
      go_loopw [12, 8, 9, 10, 11] (fun i f1 f2 f3 f4 wr => ∃ (k : Nat) (u1 u2 u3 u4 : Bool), k ≤ n0 ∧ i = .int .i64 k ∧ f1 = .bool u1 ∧ f2 = .bool u2 ∧ f3 = .bool u3 ∧ f4 = .bool u4 ∧ someEq (px l) bl k = u1 ∧ someEq (py l) bt k = u2 ∧ someEq (px l) br k = u3 ∧ someEq (py l) bb k = u4 ∧
        wr.heap[wa.heap.size]? = some (.cells #[.int .i64 bl, .int .i64 bt, .int .i64 br, .int .i64 bb] 26 (0, 0)) ∧ Below wd.heap.size wd wr) (fun i _ _ _ _ _ => n0 - (intOf i).toNat)
      case atStart => exact ⟨0, false, false, false, false, by omega, by simp, rfl, rfl, rfl, rfl, rfl, rfl, rfl, rfl, by (repeat' (first | (with_reducible assumption) | (with_reducible exact blk_new _ _) | (with_reducible exact blk_new1 _ _ _) | (with_reducible exact blk_new2 _ _ _ _) | (with_reducible refine blk_alloc ?_ _) | (with_reducible refine blk_drewN ?_ _) | (with_reducible refine blk_down (by assumption) ?_) | (with_reducible refine blk_up (by assumption) (by omega) ?_) | (with_reducible refine blk_far ?_ _ (by simp; omega)))), by (repeat' (first | (with_reducible exact Below.refl _ _) | (with_reducible assumption) | (with_reducible refine Below.alloc ?_ ?_ _) | (with_reducible refine below_drewN ?_ _) | (with_reducible refine Below.drew ?_) | (with_reducible refine Below.setCell ?_ ?_ _) | (with_reducible refine below_call (by assumption) ?_ ?_) | (with_reducible refine below_grown (by assumption) ?_ ?_ ?_) | omega | (simp; done) | (simp; omega)))⟩
      case round =>
        obtain ⟨k, u1, u2, u3, u4, hk, rfl, rfl, rfl, rfl, rfl, g1, g2, g3, g4, hb1, hbel⟩ := hrel
        have hsz := hbel.size
        have hl1 := blk_lt hb1
        have hcb := blk_cell hb1
        have HB := Lib.hid hb1
        have G1 := Lib.hid g1
        have G2 := Lib.hid g2
        have G3 := Lib.hid g3
        have G4 := Lib.hid g4
        clear g1 g2 g3 g4 hb1 q0
        by_cases hlt : k < n0
        · have eb : decide ((k : Int) < n0) = true := by simp; omega
          have hki : (k : Int) < n0 := by omega
          obtain ⟨i1, i2, i3, i4⟩ := HI.out k hlt
          obtain ⟨b, o, rfl, hbl, d0, d1⟩ := (HP.out.below hbel).at_ hlt
          cases u1 <;> cases u2 <;> cases u3 <;> cases u4
          all_goals
            go_wp2
          all_goals first
            | (exfalso; omega)
            | (go_roundw
               case rel => exact ⟨k + 1, _, _, _, _, by omega, by go_num, rfl, rfl, rfl, rfl, (by first | (simp [someEq, G1.out]; done) | (simp [someEq, G1.out]; rfl)), (by first | (simp [someEq, G2.out]; done) | (simp [someEq, G2.out]; rfl)), (by first | (simp [someEq, G3.out]; done) | (simp [someEq, G3.out]; rfl)), (by first | (simp [someEq, G4.out]; done) | (simp [someEq, G4.out]; rfl)), (by have hq := HB.out; (repeat' (first | (with_reducible assumption) | (with_reducible exact blk_new _ _) | (with_reducible exact blk_new1 _ _ _) | (with_reducible exact blk_new2 _ _ _ _) | (with_reducible refine blk_alloc ?_ _) | (with_reducible refine blk_drewN ?_ _) | (with_reducible refine blk_down (by assumption) ?_) | (with_reducible refine blk_up (by assumption) (by omega) ?_) | (with_reducible refine blk_far ?_ _ (by simp; omega))))), by (repeat' (first | (with_reducible exact Below.refl _ _) | (with_reducible assumption) | (with_reducible refine Below.alloc ?_ ?_ _) | (with_reducible refine below_drewN ?_ _) | (with_reducible refine Below.drew ?_) | (with_reducible refine Below.setCell ?_ ?_ _) | (with_reducible refine below_call (by assumption) ?_ ?_) | (with_reducible refine below_grown (by assumption) ?_ ?_ ?_) | omega | (simp; done) | (simp; omega)))⟩
               case measure => simp [intOf]; omega)
        · obtain rfl : k = n0 := by omega
          have eb : decide ((k : Int) < k) = false := by simp
          have e1 := G1.out.symm.trans S1.out
          have e2 := G2.out.symm.trans S2.out
          have e3 := G3.out.symm.trans S3.out
          have e4 := G4.out.symm.trans S4.out
          subst e1; subst e2; subst e3; subst e4
          go_wp2
          go_ret
          exact ⟨rfl, by (repeat' (first | (with_reducible exact Below.refl _ _) | (with_reducible assumption) | (with_reducible refine Below.alloc ?_ ?_ _) | (with_reducible refine below_drewN ?_ _) | (with_reducible refine Below.drew ?_) | (with_reducible refine Below.setCell ?_ ?_ _) | (with_reducible refine below_call (by assumption) ?_ ?_) | (with_reducible refine below_grown (by assumption) ?_ ?_ ?_) | omega | (simp; done) | (simp; omega)))⟩

theorem FnBoxOf_own : ownKnob Try.prog.godebug = none := by kernel_rfl
theorem FnBoxOf_laid : laidOutB Try.prog = true := by kernel_rfl

set_option maxRecDepth 100000 in
theorem FnBoxOf_lifted (os : Os) (started : os.Started) (H : Type) (enc : TypeId × Value → H) :
    ReturnsInHanded {} Try.checked os 3 .any (Rows.fnBoxOfSpec.pre6 enc Try.prog Try.f3 Rows.fnBoxOfRow.domain false) (Rows.fnBoxOfSpec.post enc Try.prog Try.f3 false true false false) := by
  refine returnsInHanded_of_change (C := Try.checked) FnBoxOf_own started (by kernel_rfl) Try.func3
    (ChangeSpec.witness6 (enc := enc) (C := Try.checked) false ⟨#[], #[.slice none 0 0], []⟩ 8 (by kernel_rfl) (by kernel_rfl) (by kernel_rfl) (by kernel_rfl)) ?_
  intro W base args ds gs before hval0 hW hcnd _
  have hval : ∀ (j : Nat) t v, Try.f3.params[j]? = some t → args[j]? = some v → Value.okWide Try.prog W .any base t v := hval0
  have hW' := hW
  obtain ⟨p, q, hA0, hV, rfl, hfz, hnd⟩ := hW
  have hA : DataW.TrodAll enc Try.prog W 0 (fun _ => true) true Try.f3.params.toList args.toList ds p := hA0
  rw [Try.params3] at hA hval
  obtain ⟨v0, vs0, d0, ds0, p0, q0, hargs, rfl, rfl, h0, r0⟩ := trodAll_cons hA
  obtain ⟨rfl, rfl, rfl⟩ := trodAll_nil r0
  obtain rfl : args = #[v0] := by cases args; simp_all
  obtain ⟨rfl, rfl⟩ := trodVars_none hV
  have k0 := h0
  have lt0 : ∀ x ∈ p0, x.block < W.heap.size := by obtain ⟨m, hm⟩ := k0; exact DataW.trod_lt m _ _ _ hm
  obtain ⟨a0, len0, cap0, rfl⟩ := okWide_slice Try.underlying22 (hval 0 22 v0 rfl rfl)
  have w0 := code_of Try.underlying22 Try.underlying5 (by kernel_rfl) h0
  clear hA0 hval0
  refine (FnBoxOf_walk W _ _ _ w0).mono fun e W' ⟨he, bel⟩ => ?_
  subst he
  exact ⟨_, rfl, _, _, _, [], _, [], hW', trodAll_mk1 (shut_bool Try.underlying4 _), (trodAll_cons_mk (Below.trod FnBoxOf_laid (by kernel_rfl) (of_decide_eq_true (by kernel_rfl)) k0 bel lt0) trodAll_mk0), rfl, bel.frame _, fun h => by cases h⟩

theorem FnBoxOf_over : Rows.fnBoxOfRow.holds Try.pinned (OpenSpec.ofChange Rows.fnBoxOfSpec) :=
  OpenClaim.holds_of_wide 3 Try.f3 rfl rfl rfl rfl rfl rfl rfl ⟨rfl, rfl, rfl, rfl, rfl⟩ rfl rfl rfl rfl rfl (by kernel_rfl) Try.func3 (by kernel_rfl)
    (of_decide_eq_true (by kernel_rfl)) (by unfold Func.isWrapper; first | (rw [if_pos (by decide +kernel)]; kernel_rfl) | (rw [if_neg (by decide +kernel)]; exact ⟨rfl, rfl⟩))
    (fun os started H enc _ => FnBoxOf_lifted os started H enc)

/-- The statement. -/
theorem FnBoxOf_holds : Rows.FnBoxOfSaid := FnBoxOf_over
#print axioms FnBoxOf_holds

end Go.Proofs.Ytnmbeocgnmnpfaa
