/-
  FnStrokeRings holds: each line has a polygon. Whatever points the generator gives. No condition.
-/
import Derived.Test.YtbiddmimcdmnoaaDrawStk
import Derived.Test.YtbiddmimcdmnoaaRingL
import Derived.Test.YtbiddmimcdmnoaaSStrk
import Derived.Test.YtbiddmimcdmnoaaCode
import Derived.Test.YtbiddmimcdmnoaaLex
import Derived.ProofKit
import Derived.OpenShut
import Derived.ShutString
import Derived.ChangeOld
import Derived.Lib.SmallJoins
namespace Go.Proofs.Ytbiddmimcdmnoaa
open Go.RowKit Pl Go.ChangeShapes Go.WideShapes Go.ChangeAt
open Go.ChangeMaps (open_string shut_string)

set_option linter.unusedSimpArgs false
set_option linter.unusedVariables false

set_option maxRecDepth 100000 in
set_option maxHeartbeats 4000000 in
theorem FnStrokeRings_walk (w : World) (A : Option Addr) (n c : Nat) (h : Code w A n c) :
    Calls Try.prog 4 #[.slice A n c] w fun e w' => e = .returned (.bool true) ∧ Below w.heap.size w w' := by
  by_cases hn : 1048576 < n
  · go_enter Try.func4, Try.ntmps4
    go_wp2
    go_ret
    exact ⟨rfl, by (repeat' (first | (with_reducible exact Below.refl _ _) | (with_reducible assumption) | (with_reducible refine Below.alloc ?_ ?_ _) | (with_reducible refine below_drewN ?_ _) | (with_reducible refine Below.drew ?_) | (with_reducible refine Below.setCell ?_ ?_ _) | (with_reducible refine below_call (by assumption) ?_ ?_) | go_size))⟩
  · go_enter Try.func4, Try.ntmps4
    go_wp2_with fail
    refine (DrawStrokeRings_any (h.below (by (repeat' (first | (with_reducible exact Below.refl _ _) | (with_reducible assumption) | (with_reducible refine Below.alloc ?_ ?_ _) | (with_reducible refine below_drewN ?_ _) | (with_reducible refine Below.drew ?_) | (with_reducible refine Below.setCell ?_ ?_ _) | (with_reducible refine below_call (by assumption) ?_ ?_) | go_size))))).mono ?_
    rintro e wd ⟨v0, l, half, rfl, hl9, hv, hb⟩
    have hz0 := hb.size
    obtain ⟨A0, c0, rfl, _, _, hP, _⟩ := hv.form
    have HP := Lib.hid hP
    obtain ⟨n0, hn0⟩ : ∃ n0, l.length = n0 := ⟨_, rfl⟩
    have HL := Lib.hid hn0
    clear hv hP
    rw [hn0] at HP hl9 ⊢
    clear hn0
    obtain ⟨ok, hok⟩ : ∃ v, strokeOk l half = v := ⟨_, rfl⟩
    obtain ⟨L, hL⟩ : ∃ m, strokeR l half = m := ⟨_, rfl⟩
    have hL8 : L.length ≤ 8 := by rw [← hL]; exact strokeR_len l half
    have hL4 : ∀ r ∈ L, r.length ≤ 1000000000000 := fun r hr => by rw [← hL] at hr; have := strokeR_four l half r hr; omega
    have H1 := Lib.hid hok
    have H2 := Lib.hid hL
    have HL4 := Lib.hid hL4
    clear hok hL hL4
    obtain ⟨N, hN⟩ : ∃ n0, L.length = n0 := ⟨_, rfl⟩
    rw [hN] at hL8
    have HF : Hid (∀ (i : Nat) (r : List Pt), L[i]? = some r → L.getD i [] = r) := Lib.hid fun i r hr => by rw [List.getD_eq_getElem?_getD, hr]; rfl
    have HN := Lib.hid hN
    clear hN
    go_wp2_with fail
    refine (StrokeRings_eq c0 HP.out (by omega) (Hid.out (by with_reducible assumption)) (Hid.out (by with_reducible assumption))).mono ?_
    rintro e wa ⟨v1, rfl, ho1, hba⟩
    have hza := hba.size
    rw [HN.out] at ho1
    obtain ⟨A1, c1, rfl, _⟩ := ho1.form
    have HP1 := Lib.hid (ho1.isRs HN.out HF.out)
    clear ho1
    go_wp2_with fail
    refine (sStrokeRings_eq c0 (HP.out.below hba) (by omega) (Hid.out (by with_reducible assumption)) (Hid.out (by with_reducible assumption))).mono ?_
    rintro e wb ⟨v2, rfl, ho2, hbb⟩
    have hzb := hbb.size
    rw [HN.out] at ho2
    obtain ⟨A2, c2, rfl, _⟩ := ho2.form
    have HP2 := Lib.hid (ho2.isRs HN.out HF.out)
    clear ho2
    go_wp2_with fail
    refine (equalRings_same c1 c2 (HP1.out.below hbb) HP2.out (by omega) HL4.out).mono ?_
    rintro e wc ⟨rfl, hbc⟩
    have hzc := hbc.size
    cases ok with
    | false =>
      go_wp2_with fail
      refine (equalRings_same c1 c2 (HP1.out.below (by (repeat' (first | (with_reducible exact Below.refl _ _) | (with_reducible assumption) | (with_reducible refine Below.alloc ?_ ?_ _) | (with_reducible refine below_drewN ?_ _) | (with_reducible refine Below.drew ?_) | (with_reducible refine Below.setCell ?_ ?_ _) | (with_reducible refine below_call (by assumption) ?_ ?_) | (with_reducible refine below_grown (by assumption) ?_ ?_ ?_) | omega | (simp; done) | (simp; omega))))) (HP2.out.below hbc) (by omega) HL4.out).mono ?_
      rintro e we ⟨rfl, hbe⟩
      have hze := hbe.size
      go_wp2
      go_ret
      exact ⟨rfl, by (repeat' (first | (with_reducible exact Below.refl _ _) | (with_reducible assumption) | (with_reducible refine Below.alloc ?_ ?_ _) | (with_reducible refine below_drewN ?_ _) | (with_reducible refine Below.drew ?_) | (with_reducible refine Below.setCell ?_ ?_ _) | (with_reducible refine below_call (by assumption) ?_ ?_) | (with_reducible refine below_grown (by assumption) ?_ ?_ ?_) | omega | (simp; done) | (simp; omega)))⟩
    | true =>
      obtain ⟨_, hval, h3, _⟩ := strokeOk_parts H1.out
      obtain ⟨h3, h4⟩ := h3
      have HV := Lib.hid (validL_iff.1 hval).2
      have HPc : Hid (IsPts wc A0 n0 l) := Lib.hid (HP.out.below (by (repeat' (first | (with_reducible exact Below.refl _ _) | (with_reducible assumption) | (with_reducible refine Below.alloc ?_ ?_ _) | (with_reducible refine below_drewN ?_ _) | (with_reducible refine Below.drew ?_) | (with_reducible refine Below.setCell ?_ ?_ _) | (with_reducible refine below_call (by assumption) ?_ ?_) | (with_reducible refine below_grown (by assumption) ?_ ?_ ?_) | omega | (simp; done) | (simp; omega)))))
      have HRc : Hid (IsRs wc A1 N L) := Lib.hid (HP1.out.below (by (repeat' (first | (with_reducible exact Below.refl _ _) | (with_reducible assumption) | (with_reducible refine Below.alloc ?_ ?_ _) | (with_reducible refine below_drewN ?_ _) | (with_reducible refine Below.drew ?_) | (with_reducible refine Below.setCell ?_ ?_ _) | (with_reducible refine below_call (by assumption) ?_ ?_) | (with_reducible refine below_grown (by assumption) ?_ ?_ ?_) | omega | (simp; done) | (simp; omega)))))
      have HAt : Hid (∀ k, k + 1 < n0 → ptA l k ≠ ptA l (k + 1) → L[linesU l k]? = some (barL (ptA l k) (ptA l (k + 1)) half)) := Lib.hid fun k hk hne => by
        rw [← H2.out]; exact strokeR_at H1.out (by rw [HL.out]; exact hk) hne
      have HEnd : Hid (linesU l (n0 - 1) = N) := Lib.hid (by rw [← HN.out, ← H2.out, strokeR_end H1.out, HL.out])
      have hbw : Below w.heap.size w wc := by (repeat' (first | (with_reducible exact Below.refl _ _) | (with_reducible assumption) | (with_reducible refine Below.alloc ?_ ?_ _) | (with_reducible refine below_drewN ?_ _) | (with_reducible refine Below.drew ?_) | (with_reducible refine Below.setCell ?_ ?_ _) | (with_reducible refine below_call (by assumption) ?_ ?_) | (with_reducible refine below_grown (by assumption) ?_ ?_ ?_) | omega | (simp; done) | (simp; omega)))
      have HBW := Lib.hid hbw
      clear hval hbw hba hbb hbc hb HP HP1 HP2
      go_wp2
      go_loopw [9, 10] (fun m i wr => ∃ k : Nat, (k + 1 ≤ n0 ∨ k = 0) ∧ m = .int .i64 ((linesU l k : Nat) : Int) ∧ i = .int .i64 ((k + 1 : Nat) : Int) ∧ Below wc.heap.size wc wr) (fun _ i _ => n0 - (intOf i).toNat)
      case atStart => exact ⟨0, by omega, rfl, rfl, Below.refl _ _⟩
      case round =>
        obtain ⟨wo, rfl⟩ : ∃ wo : World, wo = wr := ⟨_, rfl⟩
        obtain ⟨k, hk, rfl, rfl, hbel⟩ := hrel
        have hsz := hbel.size
        have hmk := linesU_le l k
        by_cases hlt : k + 1 < n0
        · have hp0 := HV.out k
          have hp1 := HV.out (k + 1)
          obtain ⟨b, o, rfl, hbl, c00, c01⟩ := (HPc.out.below hbel).at_ (k := k) (by omega)
          obtain ⟨b', o', e, _, c10, c11⟩ := (HPc.out.below hbel).at_ (k := k + 1) hlt
          cases e
          obtain ⟨x, hx⟩ : ∃ x, px l k = x := ⟨_, rfl⟩
          obtain ⟨y, hy⟩ : ∃ x, py l k = x := ⟨_, rfl⟩
          obtain ⟨u, hu⟩ : ∃ x, px l (k + 1) = x := ⟨_, rfl⟩
          obtain ⟨v, hv⟩ : ∃ x, py l (k + 1) = x := ⟨_, rfl⟩
          rw [hx] at c00
          rw [hy] at c01
          rw [hu] at c10
          rw [hv] at c11
          have PX : Hid (ptA l k = (x, y)) := Lib.hid (by rw [ptA, hx, hy])
          have PU : Hid (ptA l (k + 1) = (u, v)) := Lib.hid (by rw [ptA, hu, hv])
          have HPX : Hid (ptB (x, y) = true) := Lib.hid (by have := hp0 (by rw [HL.out]; omega); simp only [inBx, unitBx, pt, hx, hy] at this; exact ptB_true.2 (by omega))
          have HPU : Hid (ptB (u, v) = true) := Lib.hid (by have := hp1 (by rw [HL.out]; omega); simp only [inBx, unitBx, pt, hu, hv] at this; exact ptB_true.2 (by omega))
          have HA := Lib.hid (HAt.out k hlt)
          have HS1 : Hid (ptA l k = ptA l (k + 1) → linesU l (k + 1) = linesU l k) := Lib.hid linesU_same
          have HS2 : Hid (ptA l k ≠ ptA l (k + 1) → linesU l (k + 1) = linesU l k + 1) := Lib.hid linesU_succ
          obtain ⟨m, hm⟩ : ∃ m, linesU l k = m := ⟨_, rfl⟩
          obtain ⟨j, hj⟩ : ∃ j, k + 1 = j := ⟨_, rfl⟩
          rw [hm] at HA HS1 HS2 hmk ⊢
          rw [hj] at c10 c11 hlt ⊢
          have eb : decide ((j : Int) < n0) = true := decide_eq_true (by omega)
          have hki : (j : Int) < n0 := by omega
          have hkn : (k : Int) < n0 := by omega
          clear hx hy hu hv hp0 hp1 hm
          have t1 : IntKind.i64.wrap ((j : Int) - 1) = (k : Int) := by rw [IntWalk.i64_in _ (by omega)]; omega
          by_cases hxy : u = x ∧ v = y
          · obtain ⟨rfl, rfl⟩ := hxy
            go_wp2_with fail
            go_quiet (fail)
            go_wp2
            go_roundw
            case rel => exact ⟨k + 1, by omega, by rw [HS1.out (by rw [PX.out, PU.out])], congrArg (Value.int .i64) (by push_cast; omega), by (repeat' (first | (with_reducible exact Below.refl _ _) | (with_reducible assumption) | (with_reducible refine Below.alloc ?_ ?_ _) | (with_reducible refine below_drewN ?_ _) | (with_reducible refine Below.drew ?_) | (with_reducible refine Below.setCell ?_ ?_ _) | (with_reducible refine below_call (by assumption) ?_ ?_) | (with_reducible refine below_grown (by assumption) ?_ ?_ ?_) | omega | (simp; done) | (simp; omega)))⟩
            case measure => simp [intOf]; omega
          · have hne : ((x, y) : Pt) ≠ (u, v) := fun h => hxy ⟨(congrArg Prod.fst h).symm, (congrArg Prod.snd h).symm⟩
            have hne' : ptA l k ≠ ptA l (k + 1) := by rw [PX.out, PU.out]; exact hne
            obtain ⟨b1, b2, b3, b4⟩ := barX_small HPX.out HPU.out hne h3 h4
            have hLm := HA.out hne'
            rw [PX.out, PU.out] at hLm
            unfold barL at hLm
            obtain ⟨X, hX⟩ : ∃ X, barX (x, y) (u, v) half = X := ⟨_, rfl⟩
            obtain ⟨Y, hY⟩ : ∃ X, barY (x, y) (u, v) half = X := ⟨_, rfl⟩
            rw [hX] at b1 b2 hLm
            rw [hY] at b3 b4 hLm
            simp only at hLm
            have hmN : m < N := by have := (List.getElem?_eq_some_iff.1 hLm).1; rw [HN.out] at this; exact this
            obtain ⟨r, rb, ro, B, d, hr, rfl, hrl, q0, q1, q2, hI⟩ := (HRc.out.below hbel).at_ hmN
            rw [hLm] at hr
            cases hr
            simp only [List.length_cons, List.length_nil] at q0 q1 hI
            obtain ⟨pb, po, rfl, hpl, hpc⟩ := hI.2 (by omega)
            have g0 := hpc 0 (by simp)
            have g1 := hpc 1 (by simp)
            have g2 := hpc 2 (by simp)
            have g3 := hpc 3 (by simp)
            simp [px, py] at g0 g1 g2 g3
            obtain ⟨g00, g01⟩ := g0
            obtain ⟨g10, g11⟩ := g1
            obtain ⟨g20, g21⟩ := g2
            obtain ⟨g30, g31⟩ := g3
            obtain ⟨_, _, _, _⟩ := ptB_true.1 HPX.out
            obtain ⟨_, _, _, _⟩ := ptB_true.1 HPU.out
            have s1 : IntKind.i64.wrap (x + X + (x - X)) = 2 * x := by rw [IntWalk.i64_in _ (by omega)]; omega
            have s2 : IntKind.i64.wrap (y + Y + (y - Y)) = 2 * y := by rw [IntWalk.i64_in _ (by omega)]; omega
            have s3 : IntKind.i64.wrap (u + X + (u - X)) = 2 * u := by rw [IntWalk.i64_in _ (by omega)]; omega
            have s4 : IntKind.i64.wrap (v + Y + (v - Y)) = 2 * v := by rw [IntWalk.i64_in _ (by omega)]; omega
            have s5 : IntKind.i64.wrap (2 * x) = 2 * x := by rw [IntWalk.i64_in _ (by omega)]
            have s6 : IntKind.i64.wrap (2 * y) = 2 * y := by rw [IntWalk.i64_in _ (by omega)]
            have s7 : IntKind.i64.wrap (2 * u) = 2 * u := by rw [IntWalk.i64_in _ (by omega)]
            have s8 : IntKind.i64.wrap (2 * v) = 2 * v := by rw [IntWalk.i64_in _ (by omega)]
            have hmi : (m : Int) < N := by omega
            have em : decide ((N : Int) ≤ m) = false := decide_eq_false (by omega)
            have em2 : decide (N ≤ m) = false := decide_eq_false (by omega)
            have em3 : ¬ N ≤ m := by omega
            have E1 := fun α : Type => iteP_no (α := α) hxy
            have e1 : decide (u = x ∧ v = y) = false := by simpa using hxy
            have e2 : (decide (u = x) && decide (v = y)) = false := by simpa using hxy
            have HNE := Lib.hid hne'
            clear hne hne' hLm hX hY hI hpc hxy HAt HEnd HV
            go_wp2_with fail
            go_quiet (fail)
            go_wp2_with fail
            simp only [List.append_eq, List.cons_append, List.nil_append]
            refine wp_region_quiet_lit (by kernel_rfl) (by exact lexB_of 68 (by kernel_rfl)) ?_
            repeat (go_big_quiet_step (fail))
            refine wpQuiet_nil ?_
            intro _ hw'
            obtain ⟨nq, hw''⟩ := hw'
            subst hw''
            go_wp2
            go_roundw
            case rel => exact ⟨k + 1, by omega, by rw [HS2.out HNE.out]; exact congrArg (Value.int .i64) (by push_cast; omega), congrArg (Value.int .i64) (by push_cast; omega), by (repeat' (first | (with_reducible exact Below.refl _ _) | (with_reducible assumption) | (with_reducible refine Below.alloc ?_ ?_ _) | (with_reducible refine below_drewN ?_ _) | (with_reducible refine Below.drew ?_) | (with_reducible refine Below.setCell ?_ ?_ _) | (with_reducible refine below_call (by assumption) ?_ ?_) | (with_reducible refine below_grown (by assumption) ?_ ?_ ?_) | omega | (simp; done) | (simp; omega)))⟩
            case measure => simp [intOf]; omega
        · have eb : decide (((k + 1 : Nat) : Int) < n0) = false := decide_eq_false (by omega)
          have eb2 : decide ((k : Int) + 1 < n0) = false := decide_eq_false (by omega)
          have eb3 : ¬ (k : Int) + 1 < n0 := by omega
          have hend : linesU l k = N := by rw [← HEnd.out]; congr 1; omega
          rw [hend]
          clear hend
          go_wp2
          go_ret
          exact ⟨rfl, below_call hbel HBW.out (by omega)⟩

theorem FnStrokeRings_own : ownKnob Try.prog.godebug = none := by kernel_rfl
theorem FnStrokeRings_laid : laidOutB Try.prog = true := by kernel_rfl

set_option maxRecDepth 100000 in
theorem FnStrokeRings_lifted (os : Os) (started : os.Started) (H : Type) (enc : TypeId × Value → H) :
    ReturnsInHanded {} Try.checked os 4 .any (Rows.fnStrokeRingsSpec.pre6 enc Try.prog Try.f4 Rows.fnStrokeRingsRow.domain false) (Rows.fnStrokeRingsSpec.post enc Try.prog Try.f4 false true false false) := by
  refine returnsInHanded_of_change (C := Try.checked) FnStrokeRings_own started (by kernel_rfl) Try.func4
    (ChangeSpec.witness6 (enc := enc) (C := Try.checked) false ⟨#[], #[.slice none 0 0], []⟩ 8 (by kernel_rfl) (by kernel_rfl) (by kernel_rfl) (by kernel_rfl)) ?_
  intro W base args ds gs before hval0 hW hcnd _
  have hval : ∀ (j : Nat) t v, Try.f4.params[j]? = some t → args[j]? = some v → Value.okWide Try.prog W .any base t v := hval0
  have hW' := hW
  obtain ⟨p, q, hA0, hV, rfl, hfz, hnd⟩ := hW
  have hA : DataW.TrodAll enc Try.prog W 0 (fun _ => true) true Try.f4.params.toList args.toList ds p := hA0
  rw [Try.params4] at hA hval
  obtain ⟨v0, vs0, d0, ds0, p0, q0, hargs, rfl, rfl, h0, r0⟩ := trodAll_cons hA
  obtain ⟨rfl, rfl, rfl⟩ := trodAll_nil r0
  obtain rfl : args = #[v0] := by cases args; simp_all
  obtain ⟨rfl, rfl⟩ := trodVars_none hV
  have k0 := h0
  have lt0 : ∀ x ∈ p0, x.block < W.heap.size := by obtain ⟨m, hm⟩ := k0; exact DataW.trod_lt m _ _ _ hm
  obtain ⟨a0, len0, cap0, rfl⟩ := okWide_slice Try.underlying34 (hval 0 34 v0 rfl rfl)
  have w0 := code_of Try.underlying34 Try.underlying5 (by kernel_rfl) h0
  clear hA0 hval0
  refine (FnStrokeRings_walk W _ _ _ w0).mono fun e W' ⟨he, bel⟩ => ?_
  subst he
  exact ⟨_, rfl, _, _, _, [], _, [], hW', trodAll_mk1 (shut_bool Try.underlying4 _), (trodAll_cons_mk (Below.trod FnStrokeRings_laid (by kernel_rfl) (of_decide_eq_true (by kernel_rfl)) k0 bel lt0) trodAll_mk0), rfl, bel.frame _, fun h => by cases h⟩

theorem FnStrokeRings_over : Rows.fnStrokeRingsRow.holds Try.pinned (OpenSpec.ofChange Rows.fnStrokeRingsSpec) :=
  OpenClaim.holds_of_wide 4 Try.f4 rfl rfl rfl rfl rfl rfl rfl ⟨rfl, rfl, rfl, rfl, rfl⟩ rfl rfl rfl rfl rfl (by kernel_rfl) Try.func4 (by kernel_rfl)
    (of_decide_eq_true (by kernel_rfl)) (by unfold Func.isWrapper; first | (rw [if_pos (by decide +kernel)]; kernel_rfl) | (rw [if_neg (by decide +kernel)]; exact ⟨rfl, rfl⟩))
    (fun os started H enc _ => FnStrokeRings_lifted os started H enc)

/-- The statement. -/
theorem FnStrokeRings_holds : Rows.FnStrokeRingsSaid := FnStrokeRings_over
#print axioms FnStrokeRings_holds

end Go.Proofs.Ytbiddmimcdmnoaa
