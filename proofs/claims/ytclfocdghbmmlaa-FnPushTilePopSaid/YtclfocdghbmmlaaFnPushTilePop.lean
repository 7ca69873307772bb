/-
  FnPushTilePop holds. Whatever the generator gives. No condition.
-/
import Derived.Test.YtclfocdghbmmlaaDrawG
import Derived.Test.YtclfocdghbmmlaaDeqL
import Derived.Test.YtclfocdghbmmlaaCode
import Derived.ProofKit
import Derived.OpenShut
import Derived.ShutString
import Derived.ChangeOld
import Derived.Lib.SmallJoins
namespace Go.Proofs.Ytclfocdghbmmlaa
open Go.RowKit Pl Go.ChangeShapes Go.WideShapes Go.ChangeAt
open Go.ChangeMaps (open_string shut_string)

set_option linter.unusedSimpArgs false
set_option linter.unusedVariables false

theorem push_len (d : Dq) (x : Int) : (pushR d x).s.length ≤ d.s.length := by
  unfold pushR; split
  · exact Nat.le_of_eq (set16_len _ _ _)
  · exact Nat.zero_le _

set_option maxRecDepth 100000 in
set_option maxHeartbeats 1000000 in
theorem FnPushTilePop_walk (w : World) (A : Option Addr) (n c : Nat) (h : Code w A n c) :
    Calls Try.prog 9 #[.slice A n c] w fun e w' => e = .returned (.bool true) ∧ Below w.heap.size w w' := by
  by_cases hn : 1048576 < n
  · go_enter Try.func9, Try.ntmps9
    go_wp2
    go_ret
    exact ⟨rfl, by (repeat' (first | (with_reducible exact Below.refl _ _) | (with_reducible assumption) | (with_reducible refine Below.alloc ?_ ?_ _) | (with_reducible refine below_drewN ?_ _) | (with_reducible refine Below.drew ?_) | (with_reducible refine Below.setCell ?_ ?_ _) | (with_reducible refine below_call (by assumption) ?_ ?_) | go_size))⟩
  · go_enter Try.func9, Try.ntmps9
    go_wp2_with fail
    refine (DrawPushTile_any (h.below (by (repeat' (first | (with_reducible exact Below.refl _ _) | (with_reducible assumption) | (with_reducible refine Below.alloc ?_ ?_ _) | (with_reducible refine below_drewN ?_ _) | (with_reducible refine Below.drew ?_) | (with_reducible refine Below.setCell ?_ ?_ _) | (with_reducible refine below_call (by assumption) ?_ ?_) | go_size))))).mono ?_
    rintro e wd ⟨B, m, d, l, t, b, x, rfl, hm, ht, hbb, hS, hb⟩
    have hz0 := hb.size
    have HS := Lib.hid hS
    obtain ⟨ok, hok⟩ : ∃ v, pushOk ⟨l, t, b⟩ x = v := ⟨_, rfl⟩
    obtain ⟨⟨ql, qt, qb⟩, hq⟩ : ∃ v, pushR ⟨l, t, b⟩ x = v := ⟨_, rfl⟩
    have hl17 : l.length ≤ 17 := by rw [hS.1.len]; exact hm
    have hq17 : ql.length ≤ 17 := by
      have e : ql = (pushR ⟨l, t, b⟩ x).s := by rw [hq]
      rw [e]; exact Nat.le_trans (push_len _ _) hl17
    have H1 := Lib.hid hok
    have H2 := Lib.hid hq
    clear hS hok hq
    go_wp2_with fail
    refine (PushTile_eq d (HS.out.1.below (by (repeat' (first | (with_reducible exact Below.refl _ _) | (with_reducible assumption) | (with_reducible refine Below.alloc ?_ ?_ _) | (with_reducible refine below_drewN ?_ _) | (with_reducible refine Below.drew ?_) | (with_reducible refine Below.setCell ?_ ?_ _) | (with_reducible refine below_call (by assumption) ?_ ?_) | (with_reducible refine below_grown (by assumption) ?_ ?_ ?_) | omega | (simp; done) | (simp; omega))))) (by omega) (by omega) (by omega) H1.out H2.out).mono ?_
    rintro e wa ⟨A1, c1, rfl, ho1, hba⟩
    have hza := hba.size
    (try simp at hza)
    obtain ⟨_, _, e1, _, _, hi1, hbk1⟩ := ho1.form
    cases e1
    have HI1 := Lib.hid hi1
    clear hi1 ho1
    have hda := blk_below (blk_new wd (.cells #[.slice B m d, .int .i64 t, .int .i64 b] 24)) hba
    have hcda := blk_cell hda
    have hlda := blk_lt hda
    go_wp2_with fail
    refine (sPushTile_eq d (HS.out.1.below (by (repeat' (first | (with_reducible exact Below.refl _ _) | (with_reducible assumption) | (with_reducible refine Below.alloc ?_ ?_ _) | (with_reducible refine below_drewN ?_ _) | (with_reducible refine Below.drew ?_) | (with_reducible refine Below.setCell ?_ ?_ _) | (with_reducible refine below_call (by assumption) ?_ ?_) | (with_reducible refine below_grown (by assumption) ?_ ?_ ?_) | omega | (simp; done) | (simp; omega))))) (by omega) (by omega) (by omega) H1.out H2.out).mono ?_
    rintro e wb ⟨A2, c2, rfl, ho2, hbb2⟩
    have hzb := hbb2.size
    (try simp at hzb)
    obtain ⟨_, _, e1, _, _, hi2, hbk2⟩ := ho2.form
    cases e1
    have HI2 := Lib.hid hi2
    clear hi2 ho2
    have hdb := blk_below (blk_alloc hda (.cells #[.slice A1 ql.length c1, .int .i64 qt, .int .i64 qb] 24)) hbb2
    have heb := blk_below (blk_new wa (.cells #[.slice A1 ql.length c1, .int .i64 qt, .int .i64 qb] 24)) hbb2
    have hcdb := blk_cell hdb
    have hldb := blk_lt hdb
    have hceb := blk_cell heb
    have hleb := blk_lt heb
    clear hcda hlda
    go_wp2_with fail
    refine (equalDeque_same c1 c2 (HI1.out.below (by (repeat' (first | (with_reducible exact Below.refl _ _) | (with_reducible assumption) | (with_reducible refine Below.alloc ?_ ?_ _) | (with_reducible refine below_drewN ?_ _) | (with_reducible refine Below.drew ?_) | (with_reducible refine Below.setCell ?_ ?_ _) | (with_reducible refine below_call (by assumption) ?_ ?_) | (with_reducible refine below_grown (by assumption) ?_ ?_ ?_) | omega | (simp; done) | (simp; omega))))) (HI2.out.below (by (repeat' (first | (with_reducible exact Below.refl _ _) | (with_reducible assumption) | (with_reducible refine Below.alloc ?_ ?_ _) | (with_reducible refine below_drewN ?_ _) | (with_reducible refine Below.drew ?_) | (with_reducible refine Below.setCell ?_ ?_ _) | (with_reducible refine below_call (by assumption) ?_ ?_) | (with_reducible refine below_grown (by assumption) ?_ ?_ ?_) | omega | (simp; done) | (simp; omega))))) (by omega)).mono ?_
    rintro e wc ⟨rfl, hbc⟩
    have hzc := hbc.size
    (try simp at hzc)
    have hdc := blk_below (blk_alloc hdb (.cells #[.slice A2 ql.length c2, .int .i64 qt, .int .i64 qb] 24)) hbc
    have hec := blk_below (blk_alloc heb (.cells #[.slice A2 ql.length c2, .int .i64 qt, .int .i64 qb] 24)) hbc
    have hwc := blk_below (blk_new wb (.cells #[.slice A2 ql.length c2, .int .i64 qt, .int .i64 qb] 24)) hbc
    have hcdc := blk_cell hdc
    have hldc := blk_lt hdc
    have hcec := blk_cell hec
    have hlec := blk_lt hec
    have hcwc := blk_cell hwc
    have hlwc := blk_lt hwc
    clear hcdb hldb hceb hleb
    cases ok with
    | false =>
      go_wp2_with ((go_at_call 27; (with_reducible refine (equalDeque_same c1 c2 (HI1.out.below (by (repeat' (first | (with_reducible exact Below.refl _ _) | (with_reducible assumption) | (with_reducible refine Below.alloc ?_ ?_ _) | (with_reducible refine below_drewN ?_ _) | (with_reducible refine Below.drew ?_) | (with_reducible refine Below.setCell ?_ ?_ _) | (with_reducible refine below_call (by assumption) ?_ ?_) | (with_reducible refine below_grown (by assumption) ?_ ?_ ?_) | omega | (simp; done) | (simp; omega))))) (HI2.out.below (by (repeat' (first | (with_reducible exact Below.refl _ _) | (with_reducible assumption) | (with_reducible refine Below.alloc ?_ ?_ _) | (with_reducible refine below_drewN ?_ _) | (with_reducible refine Below.drew ?_) | (with_reducible refine Below.setCell ?_ ?_ _) | (with_reducible refine below_call (by assumption) ?_ ?_) | (with_reducible refine below_grown (by assumption) ?_ ?_ ?_) | omega | (simp; done) | (simp; omega))))) (by omega)).mono ?_); rintro e w1 ⟨rfl, hb⟩; have hz := hb.size; (try simp at hz)))
      go_ret
      exact ⟨rfl, by (repeat' (first | (with_reducible exact Below.refl _ _) | (with_reducible assumption) | (with_reducible refine Below.alloc ?_ ?_ _) | (with_reducible refine below_drewN ?_ _) | (with_reducible refine Below.drew ?_) | (with_reducible refine Below.setCell ?_ ?_ _) | (with_reducible refine below_call (by assumption) ?_ ?_) | (with_reducible refine below_grown (by assumption) ?_ ?_ ?_) | omega | (simp; done) | (simp; omega)))⟩
    | true =>
      have r := pushR_ok H1.out
      rw [H2.out] at r
      simp only [Dq.mk.injEq] at r
      have pr := (validD_iff.1 (pushOk_parts H1.out).1).2.1
      simp only at pr
      have rq : -1000000 ≤ qt ∧ qt ≤ 1000000 ∧ -1000000 ≤ qb ∧ qb ≤ 1000000 := by omega
      clear r pr
      obtain ⟨s1, s2⟩ := push_pop H1.out
      have s0 := push_take H1.out
      rw [H2.out] at s0 s1 s2
      have G0 := Lib.hid s0
      have G1 := Lib.hid s1
      have G2 := Lib.hid s2
      clear s0 s1 s2
      go_wp2_with fail
      refine (PopTile_eq c1 (HI1.out.below (by (repeat' (first | (with_reducible exact Below.refl _ _) | (with_reducible assumption) | (with_reducible refine Below.alloc ?_ ?_ _) | (with_reducible refine below_drewN ?_ _) | (with_reducible refine Below.drew ?_) | (with_reducible refine Below.setCell ?_ ?_ _) | (with_reducible refine below_call (by assumption) ?_ ?_) | (with_reducible refine below_grown (by assumption) ?_ ?_ ?_) | omega | (simp; done) | (simp; omega))))) (by omega) ⟨rq.1, rq.2.1⟩ rq.2.2 G0.out G1.out G2.out).mono ?_
      rintro e we ⟨A3, c3, rfl, ho3, hbe⟩
      have hze := hbe.size
      (try simp at hze)
      obtain ⟨_, _, e1, _, _, hi3, hbk3⟩ := ho3.form
      cases e1
      have HI3 := Lib.hid hi3
      clear hi3 ho3
      have hlm : l.length = m := HS.out.1.len
      rw [hlm] at HI3 ⊢
      have hde := blk_below hdc hbe
      have hcde := blk_cell hde
      have hlde := blk_lt hde
      clear hcdc hldc hcec hlec hcwc hlwc
      go_wp2_with fail
      refine (equalDeque_same c3 d (HI3.out.below (by (repeat' (first | (with_reducible exact Below.refl _ _) | (with_reducible assumption) | (with_reducible refine Below.alloc ?_ ?_ _) | (with_reducible refine below_drewN ?_ _) | (with_reducible refine Below.drew ?_) | (with_reducible refine Below.setCell ?_ ?_ _) | (with_reducible refine below_call (by assumption) ?_ ?_) | (with_reducible refine below_grown (by assumption) ?_ ?_ ?_) | omega | (simp; done) | (simp; omega))))) (HS.out.1.below (by (repeat' (first | (with_reducible exact Below.refl _ _) | (with_reducible assumption) | (with_reducible refine Below.alloc ?_ ?_ _) | (with_reducible refine below_drewN ?_ _) | (with_reducible refine Below.drew ?_) | (with_reducible refine Below.setCell ?_ ?_ _) | (with_reducible refine below_call (by assumption) ?_ ?_) | (with_reducible refine below_grown (by assumption) ?_ ?_ ?_) | omega | (simp; done) | (simp; omega))))) (by omega)).mono ?_
      rintro e wf ⟨rfl, hbf⟩
      go_wp2
      go_ret
      exact ⟨rfl, by (repeat' (first | (with_reducible exact Below.refl _ _) | (with_reducible assumption) | (with_reducible refine Below.alloc ?_ ?_ _) | (with_reducible refine below_drewN ?_ _) | (with_reducible refine Below.drew ?_) | (with_reducible refine Below.setCell ?_ ?_ _) | (with_reducible refine below_call (by assumption) ?_ ?_) | (with_reducible refine below_grown (by assumption) ?_ ?_ ?_) | omega | (simp; done) | (simp; omega)))⟩

theorem FnPushTilePop_own : ownKnob Try.prog.godebug = none := by kernel_rfl
theorem FnPushTilePop_laid : laidOutB Try.prog = true := by kernel_rfl

set_option maxRecDepth 100000 in
theorem FnPushTilePop_lifted (os : Os) (started : os.Started) (H : Type) (enc : TypeId × Value → H) :
    ReturnsInHanded {} Try.checked os 9 .any (Rows.fnPushTilePopSpec.pre6 enc Try.prog Try.f9 Rows.fnPushTilePopRow.domain false) (Rows.fnPushTilePopSpec.post enc Try.prog Try.f9 false true false false) := by
  refine returnsInHanded_of_change (C := Try.checked) FnPushTilePop_own started (by kernel_rfl) Try.func9
    (ChangeSpec.witness6 (enc := enc) (C := Try.checked) false ⟨#[], #[.slice none 0 0], []⟩ 8 (by kernel_rfl) (by kernel_rfl) (by kernel_rfl) (by kernel_rfl)) ?_
  intro W base args ds gs before hval0 hW hcnd _
  have hval : ∀ (j : Nat) t v, Try.f9.params[j]? = some t → args[j]? = some v → Value.okWide Try.prog W .any base t v := hval0
  have hW' := hW
  obtain ⟨p, q, hA0, hV, rfl, hfz, hnd⟩ := hW
  have hA : DataW.TrodAll enc Try.prog W 0 (fun _ => true) true Try.f9.params.toList args.toList ds p := hA0
  rw [Try.params9] at hA hval
  obtain ⟨v0, vs0, d0, ds0, p0, q0, hargs, rfl, rfl, h0, r0⟩ := trodAll_cons hA
  obtain ⟨rfl, rfl, rfl⟩ := trodAll_nil r0
  obtain rfl : args = #[v0] := by cases args; simp_all
  obtain ⟨rfl, rfl⟩ := trodVars_none hV
  have k0 := h0
  have lt0 : ∀ x ∈ p0, x.block < W.heap.size := by obtain ⟨m, hm⟩ := k0; exact DataW.trod_lt m _ _ _ hm
  obtain ⟨a0, len0, cap0, rfl⟩ := okWide_slice Try.underlying29 (hval 0 29 v0 rfl rfl)
  have w0 := code_of Try.underlying29 Try.underlying5 (by kernel_rfl) h0
  clear hA0 hval0
  refine (FnPushTilePop_walk W _ _ _ w0).mono fun e W' ⟨he, bel⟩ => ?_
  subst he
  exact ⟨_, rfl, _, _, _, [], _, [], hW', trodAll_mk1 (shut_bool Try.underlying4 _), (trodAll_cons_mk (Below.trod FnPushTilePop_laid (by kernel_rfl) (of_decide_eq_true (by kernel_rfl)) k0 bel lt0) trodAll_mk0), rfl, bel.frame _, fun h => by cases h⟩

theorem FnPushTilePop_over : Rows.fnPushTilePopRow.holds Try.pinned (OpenSpec.ofChange Rows.fnPushTilePopSpec) :=
  OpenClaim.holds_of_wide 9 Try.f9 rfl rfl rfl rfl rfl rfl rfl ⟨rfl, rfl, rfl, rfl, rfl⟩ rfl rfl rfl rfl rfl (by kernel_rfl) Try.func9 (by kernel_rfl)
    (of_decide_eq_true (by kernel_rfl)) (by unfold Func.isWrapper; first | (rw [if_pos (by decide +kernel)]; kernel_rfl) | (rw [if_neg (by decide +kernel)]; exact ⟨rfl, rfl⟩))
    (fun os started H enc _ => FnPushTilePop_lifted os started H enc)

/-- The statement. -/
theorem FnPushTilePop_holds : Rows.FnPushTilePopSaid := FnPushTilePop_over
#print axioms FnPushTilePop_holds

end Go.Proofs.Ytclfocdghbmmlaa
