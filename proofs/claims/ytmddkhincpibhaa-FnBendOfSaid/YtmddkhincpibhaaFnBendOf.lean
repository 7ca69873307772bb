/-
  FnBendOf holds. Whatever curve the generator gives. No condition.
-/
import Derived.Test.YtmddkhincpibhaaDrawC
import Derived.Test.YtmddkhincpibhaaBend
import Derived.Test.YtmddkhincpibhaaPtsH
import Derived.Test.YtmddkhincpibhaaCode
import Derived.ProofKit
import Derived.OpenShut
import Derived.ShutString
import Derived.ChangeOld
import Derived.Lib.SmallJoins
namespace Go.Proofs.Ytmddkhincpibhaa
open Go.RowKit Pl Go.ChangeShapes Go.WideShapes Go.ChangeAt
open Go.ChangeMaps (open_string shut_string)

set_option linter.unusedSimpArgs false
set_option linter.unusedVariables false

theorem bendR_in {l : List Pt} (h : 0 ≤ bendR l) : curveB l = true ∧ bendR l = bendN l := by
  unfold bendR at h ⊢
  split at h
  · rename_i hc; exact ⟨hc, by rw [if_pos hc]⟩
  · omega
theorem bendR_rev {l : List Pt} (h : curveB l = true) : bendR l.reverse = bendN l := by
  rw [bendR, if_pos (curve_rev h), bend_rev (curveB_parts h).2.1]
theorem bendR_moved {l : List Pt} {x y : Int} (h : curveB l = true) (hok : moveOk l x y = true) : bendR (moveR l x y) = bendN l := by
  obtain ⟨h1, h2, h3⟩ := curveB_parts h
  have hv : validL (movedL l x y) = true := by simp only [moveOk, Bool.and_eq_true] at hok; exact hok.2
  rw [moveR_ok hok, bendR, if_pos (curveB_of (by rw [movedL_len]; exact h1) (by rw [movedL_len]; exact h2) hv), bend_moved]
theorem bendR_two {l : List Pt} (h : curveB l = true) : bendR (l.take 2) = 0 := by
  obtain ⟨h1, h2, h3⟩ := curveB_parts h
  have hl : (l.take 2).length = 2 := by rw [List.length_take]; omega
  have hv : validL (l.take 2) = true := by
    simp only [validL, Bool.and_eq_true, List.all_eq_true, decide_eq_true_eq] at h3 ⊢
    exact ⟨by omega, fun p hp => h3.2 p (List.mem_of_mem_take hp)⟩
  rw [bendR, if_pos (curveB_of (by omega) (by omega) hv), bendN, hl]; rfl
theorem IsPts.two {w : World} {A : Option Addr} {n : Nat} {l : List Pt} (h : IsPts w A n l) (h2 : 2 ≤ n) : IsPts w A 2 (l.take 2) := by
  refine ⟨by rw [List.length_take, h.1]; omega, fun _ => ?_⟩
  obtain ⟨b, o, e, hb, hc⟩ := h.2 (by omega)
  refine ⟨b, o, e, hb, fun k hk => ?_⟩
  rw [List.length_take] at hk
  have := hc k (by omega)
  rw [show px (l.take 2) k = px l k by simp [px, List.getElem?_take, show k < 2 by omega], show py (l.take 2) k = py l k by simp [py, List.getElem?_take, show k < 2 by omega]]
  exact this
theorem rev_take {l : List Pt} {k q : Nat} (h : q + 1 + k = l.length) : l.reverse.take (k + 1) = l.reverse.take k ++ [(px l q, py l q)] := by
  rw [List.take_succ_eq_append_getElem (by rw [List.length_reverse]; omega)]
  congr 1
  have hq : q < l.length := by omega
  have : l.reverse[k]'(by rw [List.length_reverse]; omega) = l[q] := by rw [List.getElem_reverse]; congr 1; omega
  rw [this]; simp [px, py, hq]

set_option maxHeartbeats 2000000 in
theorem FnBendOf_walk (w : World) (A : Option Addr) (n c : Nat) (h : Code w A n c) :
    Calls Try.prog 9 #[.slice A n c] w fun e w' => e = .returned (.bool true) ∧ Below w.heap.size w w' := by
  by_cases hn : 1048576 < n
  · go_enter Try.func9, Try.ntmps9
    go_wp2
    go_ret
    exact ⟨rfl, by (repeat' (first | (with_reducible exact Below.refl _ _) | (with_reducible assumption) | (with_reducible refine Below.alloc ?_ ?_ _) | (with_reducible refine below_drewN ?_ _) | (with_reducible refine Below.drew ?_) | (with_reducible refine Below.setCell ?_ ?_ _) | (with_reducible refine below_call (by assumption) ?_ ?_) | go_size))⟩
  · go_enter Try.func9, Try.ntmps9
    go_wp2_with fail
    refine (DrawBendOf_any (h.below (by (repeat' (first | (with_reducible exact Below.refl _ _) | (with_reducible assumption) | (with_reducible refine Below.alloc ?_ ?_ _) | (with_reducible refine below_drewN ?_ _) | (with_reducible refine Below.drew ?_) | (with_reducible refine Below.setCell ?_ ?_ _) | (with_reducible refine below_call (by assumption) ?_ ?_) | go_size))))).mono ?_
    rintro e wd ⟨v0, l, rfl, hl5, hv, hb⟩
    have hz0 := hb.size
    obtain ⟨A0, c0, rfl, hlc, hcm, hP, _⟩ := hv.form
    have HP := Lib.hid hP
    obtain ⟨n0, hn0⟩ : ∃ n0, l.length = n0 := ⟨_, rfl⟩
    have HL := Lib.hid hn0
    clear hv hP
    rw [hn0] at HP hl5 hlc ⊢
    clear hn0
    obtain ⟨r, hr⟩ : ∃ r, bendR l = r := ⟨_, rfl⟩
    have H1 := Lib.hid hr
    clear hr
    go_wp2_with fail
    refine (BendOf_eq c0 HP.out (by omega) (Hid.out (by with_reducible assumption))).mono ?_
    rintro e wa ⟨rfl, hba⟩
    have hza := hba.size
    go_wp2_with fail
    refine (sBendOf_eq c0 (HP.out.below (by (repeat' (first | (with_reducible exact Below.refl _ _) | (with_reducible assumption) | (with_reducible refine Below.alloc ?_ ?_ _) | (with_reducible refine below_drewN ?_ _) | (with_reducible refine Below.drew ?_) | (with_reducible refine Below.setCell ?_ ?_ _) | (with_reducible refine below_call (by assumption) ?_ ?_) | (with_reducible refine below_grown (by assumption) ?_ ?_ ?_) | omega | (simp; done) | (simp; omega))))) (by omega) (Hid.out (by with_reducible assumption))).mono ?_
    rintro e wb ⟨rfl, hbb⟩
    have hzb := hbb.size
    by_cases hr0 : r < 0
    · go_wp2_with fail
      refine (sBendOf_eq c0 (HP.out.below (by (repeat' (first | (with_reducible exact Below.refl _ _) | (with_reducible assumption) | (with_reducible refine Below.alloc ?_ ?_ _) | (with_reducible refine below_drewN ?_ _) | (with_reducible refine Below.drew ?_) | (with_reducible refine Below.setCell ?_ ?_ _) | (with_reducible refine below_call (by assumption) ?_ ?_) | (with_reducible refine below_grown (by assumption) ?_ ?_ ?_) | omega | (simp; done) | (simp; omega))))) (by omega) (Hid.out (by with_reducible assumption))).mono ?_
      rintro e wc ⟨rfl, hbc⟩
      have hzc := hbc.size
      go_wp2
      go_ret
      exact ⟨rfl, by (repeat' (first | (with_reducible exact Below.refl _ _) | (with_reducible assumption) | (with_reducible refine Below.alloc ?_ ?_ _) | (with_reducible refine below_drewN ?_ _) | (with_reducible refine Below.drew ?_) | (with_reducible refine Below.setCell ?_ ?_ _) | (with_reducible refine below_call (by assumption) ?_ ?_) | (with_reducible refine below_grown (by assumption) ?_ ?_ ?_) | omega | (simp; done) | (simp; omega)))⟩
    · obtain ⟨hc, hrn⟩ := bendR_in (l := l) (by rw [H1.out]; omega)
      have HC := Lib.hid hc
      obtain ⟨g1, g2, _⟩ := curveB_parts hc
      rw [HL.out] at g1 g2
      have K1 : Hid (bendR l.reverse = r) := Lib.hid (by rw [bendR_rev hc, ← hrn, H1.out])
      have K2 : Hid (bendR (l.take 2) = 0) := Lib.hid (bendR_two hc)
      obtain ⟨ok, hok⟩ : ∃ b, moveOk l 3 (-5) = b := ⟨_, rfl⟩
      obtain ⟨m, hm⟩ : ∃ m, moveR l 3 (-5) = m := ⟨_, rfl⟩
      have K3 : Hid (ok = true → bendR m = r) := Lib.hid fun h => by rw [← hm, bendR_moved hc (hok.trans h), ← hrn, H1.out]
      have hm41 : m.length ≤ 5 := by
        rw [← hm, moveR]; split
        · rw [movedL_len, HL.out]; omega
        · simp
      have H2 := Lib.hid hok
      have H3 := Lib.hid hm
      clear hc hrn hok hm
      have HPB : Hid (IsPts wb A0 n0 l) := Lib.hid (HP.out.below (by (repeat' (first | (with_reducible exact Below.refl _ _) | (with_reducible assumption) | (with_reducible refine Below.alloc ?_ ?_ _) | (with_reducible refine below_drewN ?_ _) | (with_reducible refine Below.drew ?_) | (with_reducible refine Below.setCell ?_ ?_ _) | (with_reducible refine below_call (by assumption) ?_ ?_) | (with_reducible refine below_grown (by assumption) ?_ ?_ ?_) | omega | (simp; done) | (simp; omega)))))
      obtain ⟨b, o, rfl, hbl, _, _⟩ := HP.out.at_ (k := 0) (by omega)
      have hc2 : (2 : Int) ≤ c0 := by omega
      go_wp2_with fail
      go_loopw [6, 5] (fun i v wr => ∃ k : Nat, k ≤ n0 ∧ i = .int .i64 ((n0 : Int) - 1 - k) ∧ OwnPts wb.heap.size wr v (l.reverse.take k) ∧ Below wb.heap.size wb wr) (fun i _ _ => ((intOf i) + 1).toNat)
      case atStart => exact ⟨0, by omega, by simp, OwnPts.empty rfl (Nat.le_refl _) (blk_new _ _), by (repeat' (first | (with_reducible exact Below.refl _ _) | (with_reducible assumption) | (with_reducible refine Below.alloc ?_ ?_ _) | (with_reducible refine below_drewN ?_ _) | (with_reducible refine Below.drew ?_) | (with_reducible refine Below.setCell ?_ ?_ _) | (with_reducible refine below_call (by assumption) ?_ ?_) | (with_reducible refine below_grown (by assumption) ?_ ?_ ?_) | omega | (simp; done) | (simp; omega)))⟩
      case round =>
        obtain ⟨k, hk, rfl, hown, hbel⟩ := hrel
        have hsz := hbel.size
        have HO := Lib.hid hown
        clear hown
        by_cases hlt : k < n0
        · obtain ⟨q, hq⟩ : ∃ q, q + 1 + k = n0 := ⟨n0 - 1 - k, by omega⟩
          rw [show (n0 : Int) - 1 - k = (q : Int) by omega]
          have eb : decide ((0 : Int) ≤ (q : Int)) = true := by simp
          have hqn : (q : Int) < n0 := by omega
          obtain ⟨b', o', e, hbl', c00, c01⟩ := (HPB.out.below hbel).at_ (k := q) (by omega)
          cases e
          have HQ := Lib.hid hq
          clear hq
          go_wp2_with (at_builtin
                       refine append_pts rfl (.tmp 36) (.tmp 41) rfl wb.heap.size _ _ rfl (HO.out.alloc _) wr.heap.size 1 _ _ _ rfl (blk_new wr _) (by simp; omega) (by simp; omega) ?_
                       intro v3 w3 hown3 hg3)
          go_roundw
          case rel => exact ⟨k + 1, by omega, congrArg (Value.int .i64) (by have := HQ.out; omega), by rw [rev_take (q := q) (by rw [HL.out]; exact HQ.out)]; exact hown3, Below.grown (by (repeat' (first | (with_reducible exact Below.refl _ _) | (with_reducible assumption) | (with_reducible refine Below.alloc ?_ ?_ _) | (with_reducible refine below_drewN ?_ _) | (with_reducible refine Below.drew ?_) | (with_reducible refine Below.setCell ?_ ?_ _) | (with_reducible refine below_call (by assumption) ?_ ?_) | (with_reducible refine below_grown (by assumption) ?_ ?_ ?_) | omega | (simp; done) | (simp; omega)))) hg3 (by simp; omega) (fun r hr => HO.out.row r hr)⟩
          case measure => simp [intOf]
        · have hkn : k = n0 := by omega
          subst hkn
          rw [show (k : Int) - 1 - k = -1 by omega]
          have ho2 := HO.out
          rw [List.take_of_length_le (by rw [List.length_reverse, HL.out]; exact Nat.le_refl _)] at ho2
          obtain ⟨A1, c1, rfl, hP1, _⟩ := ho2.form
          have HP1 := Lib.hid hP1
          rw [List.length_reverse, HL.out] at HP1 ⊢
          clear hP1 ho2 HO
          go_wp2_with fail
          refine (MovePoints_eq c0 (HPB.out.below hbel) (by omega) (Hid.out (by with_reducible assumption)) (Hid.out (by with_reducible assumption))).mono ?_
          rintro e we ⟨v2, rfl, ho2, hbe⟩
          have hze := hbe.size
          obtain ⟨A2, c2, rfl, _, _, hP2, _⟩ := ho2.form
          have HP2 := Lib.hid hP2
          clear ho2 hP2
          obtain ⟨m1, hm1⟩ : ∃ n0, m.length = n0 := ⟨_, rfl⟩
          rw [hm1] at HP2 hm41 ⊢
          clear hm1
          go_wp2_with fail
          refine (BendOf_eq c1 (HP1.out.below (by (repeat' (first | (with_reducible exact Below.refl _ _) | (with_reducible assumption) | (with_reducible refine Below.alloc ?_ ?_ _) | (with_reducible refine below_drewN ?_ _) | (with_reducible refine Below.drew ?_) | (with_reducible refine Below.setCell ?_ ?_ _) | (with_reducible refine below_call (by assumption) ?_ ?_) | (with_reducible refine below_grown (by assumption) ?_ ?_ ?_) | omega | (simp; done) | (simp; omega))))) (by omega) (Hid.out (by with_reducible assumption))).mono ?_
          rintro e wf ⟨rfl, hbf⟩
          have hzf := hbf.size
          cases ok with
          | false =>
            go_wp2_with fail
            refine (BendOf_eq _ ((HPB.out.below hbel).two g1 |>.below (by (repeat' (first | (with_reducible exact Below.refl _ _) | (with_reducible assumption) | (with_reducible refine Below.alloc ?_ ?_ _) | (with_reducible refine below_drewN ?_ _) | (with_reducible refine Below.drew ?_) | (with_reducible refine Below.setCell ?_ ?_ _) | (with_reducible refine below_call (by assumption) ?_ ?_) | (with_reducible refine below_grown (by assumption) ?_ ?_ ?_) | omega | (simp; done) | (simp; omega))))) (by omega) (Hid.out (by with_reducible assumption))).mono ?_
            rintro e wg ⟨rfl, hbg⟩
            have hzg := hbg.size
            go_wp2
            go_ret
            exact ⟨rfl, by (repeat' (first | (with_reducible exact Below.refl _ _) | (with_reducible assumption) | (with_reducible refine Below.alloc ?_ ?_ _) | (with_reducible refine below_drewN ?_ _) | (with_reducible refine Below.drew ?_) | (with_reducible refine Below.setCell ?_ ?_ _) | (with_reducible refine below_call (by assumption) ?_ ?_) | (with_reducible refine below_grown (by assumption) ?_ ?_ ?_) | omega | (simp; done) | (simp; omega)))⟩
          | true =>
            have K4 := Lib.hid (K3.out rfl)
            clear K3
            go_wp2_with fail
            refine (BendOf_eq c2 (HP2.out.below (by (repeat' (first | (with_reducible exact Below.refl _ _) | (with_reducible assumption) | (with_reducible refine Below.alloc ?_ ?_ _) | (with_reducible refine below_drewN ?_ _) | (with_reducible refine Below.drew ?_) | (with_reducible refine Below.setCell ?_ ?_ _) | (with_reducible refine below_call (by assumption) ?_ ?_) | (with_reducible refine below_grown (by assumption) ?_ ?_ ?_) | omega | (simp; done) | (simp; omega))))) (by omega) (Hid.out (by with_reducible assumption))).mono ?_
            rintro e wh ⟨rfl, hbh⟩
            have hzh := hbh.size
            go_wp2_with fail
            refine (BendOf_eq _ ((HPB.out.below hbel).two g1 |>.below (by (repeat' (first | (with_reducible exact Below.refl _ _) | (with_reducible assumption) | (with_reducible refine Below.alloc ?_ ?_ _) | (with_reducible refine below_drewN ?_ _) | (with_reducible refine Below.drew ?_) | (with_reducible refine Below.setCell ?_ ?_ _) | (with_reducible refine below_call (by assumption) ?_ ?_) | (with_reducible refine below_grown (by assumption) ?_ ?_ ?_) | omega | (simp; done) | (simp; omega))))) (by omega) (Hid.out (by with_reducible assumption))).mono ?_
            rintro e wg ⟨rfl, hbg⟩
            have hzg := hbg.size
            go_wp2
            go_ret
            exact ⟨rfl, by (repeat' (first | (with_reducible exact Below.refl _ _) | (with_reducible assumption) | (with_reducible refine Below.alloc ?_ ?_ _) | (with_reducible refine below_drewN ?_ _) | (with_reducible refine Below.drew ?_) | (with_reducible refine Below.setCell ?_ ?_ _) | (with_reducible refine below_call (by assumption) ?_ ?_) | (with_reducible refine below_grown (by assumption) ?_ ?_ ?_) | omega | (simp; done) | (simp; omega)))⟩

theorem FnBendOf_own : ownKnob Try.prog.godebug = none := by kernel_rfl
theorem FnBendOf_laid : laidOutB Try.prog = true := by kernel_rfl

set_option maxRecDepth 100000 in
theorem FnBendOf_lifted (os : Os) (started : os.Started) (H : Type) (enc : TypeId × Value → H) :
    ReturnsInHanded {} Try.checked os 9 .any (Rows.fnBendOfSpec.pre6 enc Try.prog Try.f9 Rows.fnBendOfRow.domain false) (Rows.fnBendOfSpec.post enc Try.prog Try.f9 false true false false) := by
  refine returnsInHanded_of_change (C := Try.checked) FnBendOf_own started (by kernel_rfl) Try.func9
    (ChangeSpec.witness6 (enc := enc) (C := Try.checked) false ⟨#[], #[.slice none 0 0], []⟩ 8 (by kernel_rfl) (by kernel_rfl) (by kernel_rfl) (by kernel_rfl)) ?_
  intro W base args ds gs before hval0 hW hcnd _
  have hval : ∀ (j : Nat) t v, Try.f9.params[j]? = some t → args[j]? = some v → Value.okWide Try.prog W .any base t v := hval0
  have hW' := hW
  obtain ⟨p, q, hA0, hV, rfl, hfz, hnd⟩ := hW
  have hA : DataW.TrodAll enc Try.prog W 0 (fun _ => true) true Try.f9.params.toList args.toList ds p := hA0
  rw [Try.params9] at hA hval
  obtain ⟨v0, vs0, d0, ds0, p0, q0, hargs, rfl, rfl, h0, r0⟩ := trodAll_cons hA
  obtain ⟨rfl, rfl, rfl⟩ := trodAll_nil r0
  obtain rfl : args = #[v0] := by cases args; simp_all
  obtain ⟨rfl, rfl⟩ := trodVars_none hV
  have k0 := h0
  have lt0 : ∀ x ∈ p0, x.block < W.heap.size := by obtain ⟨m, hm⟩ := k0; exact DataW.trod_lt m _ _ _ hm
  obtain ⟨a0, len0, cap0, rfl⟩ := okWide_slice Try.underlying22 (hval 0 22 v0 rfl rfl)
  have w0 := code_of Try.underlying22 Try.underlying5 (by kernel_rfl) h0
  clear hA0 hval0
  refine (FnBendOf_walk W _ _ _ w0).mono fun e W' ⟨he, bel⟩ => ?_
  subst he
  exact ⟨_, rfl, _, _, _, [], _, [], hW', trodAll_mk1 (shut_bool Try.underlying4 _), (trodAll_cons_mk (Below.trod FnBendOf_laid (by kernel_rfl) (of_decide_eq_true (by kernel_rfl)) k0 bel lt0) trodAll_mk0), rfl, bel.frame _, fun h => by cases h⟩

theorem FnBendOf_over : Rows.fnBendOfRow.holds Try.pinned (OpenSpec.ofChange Rows.fnBendOfSpec) :=
  OpenClaim.holds_of_wide 9 Try.f9 rfl rfl rfl rfl rfl rfl rfl ⟨rfl, rfl, rfl, rfl, rfl⟩ rfl rfl rfl rfl rfl (by kernel_rfl) Try.func9 (by kernel_rfl)
    (of_decide_eq_true (by kernel_rfl)) (by unfold Func.isWrapper; first | (rw [if_pos (by decide +kernel)]; kernel_rfl) | (rw [if_neg (by decide +kernel)]; exact ⟨rfl, rfl⟩))
    (fun os started H enc _ => FnBendOf_lifted os started H enc)

/-- The statement. -/
theorem FnBendOf_holds : Rows.FnBendOfSaid := FnBendOf_over
#print axioms FnBendOf_holds

end Go.Proofs.Ytmddkhincpibhaa
