/-
  FnStrokeRingsParts holds: strokes are lines. Whatever points the generator gives. No condition.
-/
import Derived.Test.YtbiddmimcdmnoaaDrawStk
import Derived.Test.YtbiddmimcdmnoaaRingL
import Derived.Test.YtbiddmimcdmnoaaSStrk
import Derived.Test.YtbiddmimcdmnoaaApR
import Derived.Test.YtbiddmimcdmnoaaCode
import Derived.ProofKit
import Derived.OpenShut
import Derived.ShutString
import Derived.ChangeOld
import Derived.Lib.SmallJoins
namespace Go.Proofs.Ytbiddmimcdmnoaa
open Go.RowKit Pl Go.ChangeShapes Go.WideShapes Go.ChangeAt
open Go.ChangeMaps (open_string shut_string)

set_option linter.unusedSimpArgs false
set_option linter.unusedVariables false

theorem IsPts.two {w : World} {A : Option Addr} {n : Nat} {l : List Pt} (h : IsPts w A n l) (h2 : 2 ≤ n) : IsPts w A 2 (l.take 2) := by
  refine ⟨by rw [List.length_take, h.1]; omega, fun _ => ?_⟩
  obtain ⟨b, o, e, hb, hc⟩ := h.2 (by omega)
  refine ⟨b, o, e, hb, fun k hk => ?_⟩
  rw [List.length_take] at hk
  have := hc k (by omega)
  rw [show px (l.take 2) k = px l k by simp [px, List.getElem?_take, show k < 2 by omega], show py (l.take 2) k = py l k by simp [py, List.getElem?_take, show k < 2 by omega]]
  exact this
theorem IsPts.drop1 {w : World} {b o n : Nat} {l : List Pt} (h : IsPts w (some ⟨b, o, none⟩) (n + 1) l) : IsPts w (some ⟨b, o + 2, none⟩) n (l.drop 1) := by
  refine ⟨by rw [List.length_drop, h.1]; omega, fun hn => ?_⟩
  obtain ⟨b', o', e, hb, hc⟩ := h.2 (by omega)
  cases e
  refine ⟨b, o + 2, rfl, hb, fun i hi => ?_⟩
  rw [List.length_drop] at hi
  have := hc (i + 1) (by omega)
  have e1 : px (l.drop 1) i = px l (i + 1) := by simp [px]
  have e2 : py (l.drop 1) i = py l (i + 1) := by simp [py]
  rw [e1, e2, show o + 2 + i * 2 = o + (i + 1) * 2 by omega]
  exact this
theorem at_of {L : List (List Pt)} : ∀ (i : Nat) (r : List Pt), L[i]? = some r → L.getD i [] = r := fun i r hr => by rw [List.getD_eq_getElem?_getD, hr]; rfl

set_option maxRecDepth 100000 in
set_option maxHeartbeats 4000000 in
theorem FnStrokeRingsParts_walk (w : World) (A : Option Addr) (n c : Nat) (h : Code w A n c) :
    Calls Try.prog 5 #[.slice A n c] w fun e w' => e = .returned (.bool true) ∧ Below w.heap.size w w' := by
  by_cases hn : 1048576 < n
  · go_enter Try.func5, Try.ntmps5
    go_wp2
    go_ret
    exact ⟨rfl, by (repeat' (first | (with_reducible exact Below.refl _ _) | (with_reducible assumption) | (with_reducible refine Below.alloc ?_ ?_ _) | (with_reducible refine below_drewN ?_ _) | (with_reducible refine Below.drew ?_) | (with_reducible refine Below.setCell ?_ ?_ _) | (with_reducible refine below_call (by assumption) ?_ ?_) | go_size))⟩
  · go_enter Try.func5, Try.ntmps5
    go_wp2_with fail
    refine (DrawStrokeRings_any (h.below (by (repeat' (first | (with_reducible exact Below.refl _ _) | (with_reducible assumption) | (with_reducible refine Below.alloc ?_ ?_ _) | (with_reducible refine below_drewN ?_ _) | (with_reducible refine Below.drew ?_) | (with_reducible refine Below.setCell ?_ ?_ _) | (with_reducible refine below_call (by assumption) ?_ ?_) | go_size))))).mono ?_
    rintro e wd ⟨v0, l, half, rfl, hl9, hv, hb⟩
    have hz0 := hb.size
    obtain ⟨A0, c0, rfl, hc0, hc1, hP, _⟩ := hv.form
    have HP := Lib.hid hP
    obtain ⟨n0, hn0⟩ : ∃ n0, l.length = n0 := ⟨_, rfl⟩
    have HL := Lib.hid hn0
    clear hv hP
    rw [hn0] at HP hl9 hc0 ⊢
    unfold maxLen at hc1
    clear hn0
    obtain ⟨ok, hok⟩ : ∃ v, strokeOk l half = v := ⟨_, rfl⟩
    obtain ⟨L, hL⟩ : ∃ m, strokeR l half = m := ⟨_, rfl⟩
    have hL8 : L.length ≤ 8 := by rw [← hL]; exact strokeR_len l half
    have hL4 : ∀ r ∈ L, r.length ≤ 1000000000000 := fun r hr => by rw [← hL] at hr; have := strokeR_four l half r hr; omega
    have H1 := Lib.hid hok
    have H2 := Lib.hid hL
    have HL4 := Lib.hid hL4
    clear hok hL hL4
    obtain ⟨N, hN⟩ : ∃ n0, L.length = n0 := ⟨_, rfl⟩
    rw [hN] at hL8
    have HF : Hid (∀ (i : Nat) (r : List Pt), L[i]? = some r → L.getD i [] = r) := Lib.hid fun i r hr => by rw [List.getD_eq_getElem?_getD, hr]; rfl
    have HN := Lib.hid hN
    clear hN
    go_wp2_with fail
    refine (StrokeRings_eq c0 HP.out (by omega) (Hid.out (by with_reducible assumption)) (Hid.out (by with_reducible assumption))).mono ?_
    rintro e wa ⟨v1, rfl, ho1, hba⟩
    have hza := hba.size
    rw [HN.out] at ho1
    obtain ⟨A1, c1, rfl, _⟩ := ho1.form
    have HP1 := Lib.hid (ho1.isRs HN.out HF.out)
    clear ho1
    go_wp2_with fail
    refine (sStrokeRings_eq c0 (HP.out.below hba) (by omega) (Hid.out (by with_reducible assumption)) (Hid.out (by with_reducible assumption))).mono ?_
    rintro e wb ⟨v2, rfl, ho2, hbb⟩
    have hzb := hbb.size
    rw [HN.out] at ho2
    obtain ⟨A2, c2, rfl, _⟩ := ho2.form
    have HP2 := Lib.hid (ho2.isRs HN.out HF.out)
    clear ho2
    go_wp2_with fail
    refine (equalRings_same c1 c2 (HP1.out.below hbb) HP2.out (by omega) HL4.out).mono ?_
    rintro e wc ⟨rfl, hbc⟩
    have hzc := hbc.size
    cases ok with
    | false =>
      go_wp2_with fail
      refine (equalRings_same c1 c2 (HP1.out.below (by (repeat' (first | (with_reducible exact Below.refl _ _) | (with_reducible assumption) | (with_reducible refine Below.alloc ?_ ?_ _) | (with_reducible refine below_drewN ?_ _) | (with_reducible refine Below.drew ?_) | (with_reducible refine Below.setCell ?_ ?_ _) | (with_reducible refine below_call (by assumption) ?_ ?_) | (with_reducible refine below_grown (by assumption) ?_ ?_ ?_) | omega | (simp; done) | (simp; omega))))) (HP2.out.below hbc) (by omega) HL4.out).mono ?_
      rintro e we ⟨rfl, hbe⟩
      have hze := hbe.size
      go_wp2
      go_ret
      exact ⟨rfl, by (repeat' (first | (with_reducible exact Below.refl _ _) | (with_reducible assumption) | (with_reducible refine Below.alloc ?_ ?_ _) | (with_reducible refine below_drewN ?_ _) | (with_reducible refine Below.drew ?_) | (with_reducible refine Below.setCell ?_ ?_ _) | (with_reducible refine below_call (by assumption) ?_ ?_) | (with_reducible refine below_grown (by assumption) ?_ ?_ ?_) | omega | (simp; done) | (simp; omega)))⟩
    | true =>
      by_cases h2 : n0 < 2
      · have e2 : decide ((n0 : Int) < 2) = true := decide_eq_true (by omega)
        have e2' : (n0 : Int) < 2 := by omega
        go_wp2_with fail
        refine (equalRings_same c1 c2 (HP1.out.below (by (repeat' (first | (with_reducible exact Below.refl _ _) | (with_reducible assumption) | (with_reducible refine Below.alloc ?_ ?_ _) | (with_reducible refine below_drewN ?_ _) | (with_reducible refine Below.drew ?_) | (with_reducible refine Below.setCell ?_ ?_ _) | (with_reducible refine below_call (by assumption) ?_ ?_) | (with_reducible refine below_grown (by assumption) ?_ ?_ ?_) | omega | (simp; done) | (simp; omega))))) (HP2.out.below hbc) (by omega) HL4.out).mono ?_
        rintro e we ⟨rfl, hbe⟩
        have hze := hbe.size
        go_wp2
        go_ret
        exact ⟨rfl, by (repeat' (first | (with_reducible exact Below.refl _ _) | (with_reducible assumption) | (with_reducible refine Below.alloc ?_ ?_ _) | (with_reducible refine below_drewN ?_ _) | (with_reducible refine Below.drew ?_) | (with_reducible refine Below.setCell ?_ ?_ _) | (with_reducible refine below_call (by assumption) ?_ ?_) | (with_reducible refine below_grown (by assumption) ?_ ?_ ?_) | omega | (simp; done) | (simp; omega)))⟩
      · have e2 : decide ((n0 : Int) < 2) = false := decide_eq_false (by omega)
        have e2' : ¬ (n0 : Int) < 2 := by omega
        have hl2 : 2 ≤ l.length := by rw [HL.out]; omega
        obtain ⟨s1, s2⟩ := stroke_take H1.out hl2
        have hLL : strokeR (l.take 2) half ++ strokeR (l.drop 1) half = L := by
          rw [strokeR_ok s1, strokeR_ok s2, stroke_parts half hl2, ← strokeR_ok H1.out]; exact H2.out
        have hPc : IsPts wc A0 n0 l := HP.out.below (by (repeat' (first | (with_reducible exact Below.refl _ _) | (with_reducible assumption) | (with_reducible refine Below.alloc ?_ ?_ _) | (with_reducible refine below_drewN ?_ _) | (with_reducible refine Below.drew ?_) | (with_reducible refine Below.setCell ?_ ?_ _) | (with_reducible refine below_call (by assumption) ?_ ?_) | (with_reducible refine below_grown (by assumption) ?_ ?_ ?_) | omega | (simp; done) | (simp; omega))))
        obtain ⟨b, o, rfl, hpp⟩ := hPc.2 (by omega)
        obtain ⟨n1, rfl⟩ : ∃ n1, n0 = n1 + 1 := ⟨n0 - 1, by omega⟩
        have HT := Lib.hid (hPc.two (by omega))
        have HD := Lib.hid hPc.drop1
        obtain ⟨La, hLa⟩ : ∃ x, strokeR (l.take 2) half = x := ⟨_, rfl⟩
        obtain ⟨Lb, hLb⟩ : ∃ x, strokeR (l.drop 1) half = x := ⟨_, rfl⟩
        have ha8 : La.length ≤ 8 := by rw [← hLa]; exact strokeR_len _ _
        have hb8 : Lb.length ≤ 8 := by rw [← hLb]; exact strokeR_len _ _
        rw [hLa, hLb] at hLL
        have S1 := Lib.hid s1
        have S2 := Lib.hid s2
        have HLa := Lib.hid hLa
        have HLb := Lib.hid hLb
        have HLL := Lib.hid hLL
        have HP1c : Hid (IsRs wc A1 N L) := Lib.hid (HP1.out.below (by (repeat' (first | (with_reducible exact Below.refl _ _) | (with_reducible assumption) | (with_reducible refine Below.alloc ?_ ?_ _) | (with_reducible refine below_drewN ?_ _) | (with_reducible refine Below.drew ?_) | (with_reducible refine Below.setCell ?_ ?_ _) | (with_reducible refine below_call (by assumption) ?_ ?_) | (with_reducible refine below_grown (by assumption) ?_ ?_ ?_) | omega | (simp; done) | (simp; omega)))))
        have hbw : Below w.heap.size w wc := by (repeat' (first | (with_reducible exact Below.refl _ _) | (with_reducible assumption) | (with_reducible refine Below.alloc ?_ ?_ _) | (with_reducible refine below_drewN ?_ _) | (with_reducible refine Below.drew ?_) | (with_reducible refine Below.setCell ?_ ?_ _) | (with_reducible refine below_call (by assumption) ?_ ?_) | (with_reducible refine below_grown (by assumption) ?_ ?_ ?_) | omega | (simp; done) | (simp; omega)))
        clear s1 s2 hLa hLb hLL hPc hpp h2 HP1 HP2 hba hbb hbc hb HP
        have hc2 : (2 : Int) ≤ c0 := by omega
        go_wp2_with fail
        refine (StrokeRings_eq c0 HT.out (by omega) S1.out HLa.out).mono ?_
        rintro e w3 ⟨v3, rfl, ho3, hb3⟩
        have hz3 := hb3.size
        obtain ⟨A3, c3, rfl, _⟩ := ho3.form
        have HP3 := Lib.hid (ho3.isRs rfl at_of)
        clear ho3
        obtain ⟨na, hna⟩ : ∃ na, La.length = na := ⟨_, rfl⟩
        have HNa := Lib.hid hna
        rw [hna] at HP3 ha8 ⊢
        clear hna
        go_wp2_with fail
        refine (StrokeRings_eq (c0 - 1) (HD.out.below hb3) (by omega) S2.out HLb.out).mono ?_
        rintro e w4 ⟨v4, rfl, ho4, hb4⟩
        have hz4 := hb4.size
        obtain ⟨A4, c4, rfl, _⟩ := ho4.form
        have HP4 := Lib.hid (ho4.isRs rfl at_of)
        clear ho4
        obtain ⟨nb, hnb⟩ : ∃ nb, Lb.length = nb := ⟨_, rfl⟩
        have HNb := Lib.hid hnb
        rw [hnb] at HP4 hb8 ⊢
        clear hnb
        have HBW : Hid (Below w.heap.size w w4) := Lib.hid (by (repeat' (first | (with_reducible exact Below.refl _ _) | (with_reducible assumption) | (with_reducible refine Below.alloc ?_ ?_ _) | (with_reducible refine below_drewN ?_ _) | (with_reducible refine Below.drew ?_) | (with_reducible refine Below.setCell ?_ ?_ _) | (with_reducible refine below_call (by assumption) ?_ ?_) | (with_reducible refine below_grown (by assumption) ?_ ?_ ?_) | omega | (simp; done) | (simp; omega))))
        have HA3 : Hid (IsRs w4 A3 na La) := Lib.hid (HP3.out.below hb4)
        have HO4 : Hid (IsRs w4 A1 N L) := Lib.hid (HP1c.out.below (by (repeat' (first | (with_reducible exact Below.refl _ _) | (with_reducible assumption) | (with_reducible refine Below.alloc ?_ ?_ _) | (with_reducible refine below_drewN ?_ _) | (with_reducible refine Below.drew ?_) | (with_reducible refine Below.setCell ?_ ?_ _) | (with_reducible refine below_call (by assumption) ?_ ?_) | (with_reducible refine below_grown (by assumption) ?_ ?_ ?_) | omega | (simp; done) | (simp; omega)))))
        have hn4 := HBW.out.size
        clear hbw hb3 hb4 HP3 HP1c
        go_wp2_with (first
                     | (at_builtin
                        refine append_rg (by rfl) (.tmp 78) (.tmp 79) rfl w4.heap.size _ [] rfl (OwnRg.empty rfl (Nat.le_refl _) (by (repeat' (first | (with_reducible assumption) | (with_reducible exact blk_new _ _) | (with_reducible exact blk_new1 _ _ _) | (with_reducible exact blk_new2 _ _ _ _) | (with_reducible refine blk_alloc ?_ _) | (with_reducible refine blk_drewN ?_ _) | (with_reducible refine blk_down (by assumption) ?_) | (with_reducible refine blk_up (by assumption) (by omega) ?_) | (with_reducible refine blk_far ?_ _ (by simp; omega)))))) A3 na c3 La w4 rfl HA3.out (by (repeat' (first | (with_reducible exact Below.refl _ _) | (with_reducible assumption) | (with_reducible refine Below.alloc ?_ ?_ _) | (with_reducible refine below_drewN ?_ _) | (with_reducible refine Below.drew ?_) | (with_reducible refine Below.setCell ?_ ?_ _) | (with_reducible refine below_call (by assumption) ?_ ?_) | (with_reducible refine below_grown (by assumption) ?_ ?_ ?_) | omega | (simp; done) | (simp; omega)))) (Nat.le_refl _) (by simp; omega) (by simp) ?_
                        intro v5 w5 hown5 hg5 hr5
                        have hz5 := hg5.size
                        have hb5 : Below w4.heap.size w4 w5 := below_own hg5 (by (repeat' (first | (with_reducible exact Below.refl _ _) | (with_reducible assumption) | (with_reducible refine Below.alloc ?_ ?_ _) | (with_reducible refine below_drewN ?_ _) | (with_reducible refine Below.drew ?_) | (with_reducible refine Below.setCell ?_ ?_ _) | (with_reducible refine below_call (by assumption) ?_ ?_) | (with_reducible refine below_grown (by assumption) ?_ ?_ ?_) | omega | (simp; done) | (simp; omega)))) (by simp) hr5
                        clear hg5 hr5)
                     | (at_builtin
                        refine append_rg (by rfl) (.tmp 80) (.tmp 81) rfl w4.heap.size _ _ rfl hown5 A4 nb c4 Lb w4 rfl HP4.out hb5 (Nat.le_refl _) (by rw [List.nil_append, HNa.out]; omega) hb5.size ?_
                        intro v6 w6 hown6 hg6 hr6
                        have hb6 : Below w4.heap.size w4 w6 := below_own hg6 hb5 hb5.size hr6
                        have hz6 := hb6.size
                        rw [List.nil_append, HLL.out] at hown6
                        obtain ⟨A6, c6, e6, hP6⟩ := hown6.form
                        rw [HN.out] at e6 hP6
                        subst e6
                        have HP6 := Lib.hid hP6
                        clear hP6 hown6 hg6 hr6)
                     | (go_at_call 16; (with_reducible refine (equalRings_same _ _ HP6.out (HO4.out.below hb6) (by omega) HL4.out).mono ?_); rintro e w7 ⟨rfl, hb7⟩))
        go_ret
        exact ⟨rfl, below_call hb7 (below_call hb6 HBW.out (by omega)) (by omega)⟩

theorem FnStrokeRingsParts_own : ownKnob Try.prog.godebug = none := by kernel_rfl
theorem FnStrokeRingsParts_laid : laidOutB Try.prog = true := by kernel_rfl

set_option maxRecDepth 100000 in
theorem FnStrokeRingsParts_lifted (os : Os) (started : os.Started) (H : Type) (enc : TypeId × Value → H) :
    ReturnsInHanded {} Try.checked os 5 .any (Rows.fnStrokeRingsPartsSpec.pre6 enc Try.prog Try.f5 Rows.fnStrokeRingsPartsRow.domain false) (Rows.fnStrokeRingsPartsSpec.post enc Try.prog Try.f5 false true false false) := by
  refine returnsInHanded_of_change (C := Try.checked) FnStrokeRingsParts_own started (by kernel_rfl) Try.func5
    (ChangeSpec.witness6 (enc := enc) (C := Try.checked) false ⟨#[], #[.slice none 0 0], []⟩ 8 (by kernel_rfl) (by kernel_rfl) (by kernel_rfl) (by kernel_rfl)) ?_
  intro W base args ds gs before hval0 hW hcnd _
  have hval : ∀ (j : Nat) t v, Try.f5.params[j]? = some t → args[j]? = some v → Value.okWide Try.prog W .any base t v := hval0
  have hW' := hW
  obtain ⟨p, q, hA0, hV, rfl, hfz, hnd⟩ := hW
  have hA : DataW.TrodAll enc Try.prog W 0 (fun _ => true) true Try.f5.params.toList args.toList ds p := hA0
  rw [Try.params5] at hA hval
  obtain ⟨v0, vs0, d0, ds0, p0, q0, hargs, rfl, rfl, h0, r0⟩ := trodAll_cons hA
  obtain ⟨rfl, rfl, rfl⟩ := trodAll_nil r0
  obtain rfl : args = #[v0] := by cases args; simp_all
  obtain ⟨rfl, rfl⟩ := trodVars_none hV
  have k0 := h0
  have lt0 : ∀ x ∈ p0, x.block < W.heap.size := by obtain ⟨m, hm⟩ := k0; exact DataW.trod_lt m _ _ _ hm
  obtain ⟨a0, len0, cap0, rfl⟩ := okWide_slice Try.underlying34 (hval 0 34 v0 rfl rfl)
  have w0 := code_of Try.underlying34 Try.underlying5 (by kernel_rfl) h0
  clear hA0 hval0
  refine (FnStrokeRingsParts_walk W _ _ _ w0).mono fun e W' ⟨he, bel⟩ => ?_
  subst he
  exact ⟨_, rfl, _, _, _, [], _, [], hW', trodAll_mk1 (shut_bool Try.underlying4 _), (trodAll_cons_mk (Below.trod FnStrokeRingsParts_laid (by kernel_rfl) (of_decide_eq_true (by kernel_rfl)) k0 bel lt0) trodAll_mk0), rfl, bel.frame _, fun h => by cases h⟩

theorem FnStrokeRingsParts_over : Rows.fnStrokeRingsPartsRow.holds Try.pinned (OpenSpec.ofChange Rows.fnStrokeRingsPartsSpec) :=
  OpenClaim.holds_of_wide 5 Try.f5 rfl rfl rfl rfl rfl rfl rfl ⟨rfl, rfl, rfl, rfl, rfl⟩ rfl rfl rfl rfl rfl (by kernel_rfl) Try.func5 (by kernel_rfl)
    (of_decide_eq_true (by kernel_rfl)) (by unfold Func.isWrapper; first | (rw [if_pos (by decide +kernel)]; kernel_rfl) | (rw [if_neg (by decide +kernel)]; exact ⟨rfl, rfl⟩))
    (fun os started H enc _ => FnStrokeRingsParts_lifted os started H enc)

/-- The statement. -/
theorem FnStrokeRingsParts_holds : Rows.FnStrokeRingsPartsSaid := FnStrokeRingsParts_over
#print axioms FnStrokeRingsParts_holds

end Go.Proofs.Ytbiddmimcdmnoaa
