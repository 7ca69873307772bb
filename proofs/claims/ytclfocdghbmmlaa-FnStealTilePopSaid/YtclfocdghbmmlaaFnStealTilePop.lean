/-
  FnStealTilePop holds. Whatever queue the generator gives. No condition.
-/
import Derived.Test.YtclfocdghbmmlaaDrawF
import Derived.Test.YtclfocdghbmmlaaDeqL
import Derived.Test.YtclfocdghbmmlaaCode
import Derived.ProofKit
import Derived.OpenShut
import Derived.ShutString
import Derived.ChangeOld
import Derived.Lib.SmallJoins
namespace Go.Proofs.Ytclfocdghbmmlaa
open Go.RowKit Pl Go.ChangeShapes Go.WideShapes Go.ChangeAt
open Go.ChangeMaps (open_string shut_string)

set_option linter.unusedSimpArgs false
set_option linter.unusedVariables false

theorem steal_len (d : Dq) : (stealR d).s.length ≤ d.s.length := by
  unfold stealR; split
  · exact Nat.le_of_eq (set16_len _ _ _)
  · exact Nat.zero_le _
theorem pop_len (d : Dq) : (popR d).s.length ≤ d.s.length := by
  unfold popR; split
  · exact Nat.le_of_eq (set16_len _ _ _)
  · exact Nat.zero_le _

set_option maxRecDepth 100000 in
set_option maxHeartbeats 400000 in
theorem FnStealTilePop_walk (w : World) (A : Option Addr) (n c : Nat) (h : Code w A n c) :
    Calls Try.prog 7 #[.slice A n c] w fun e w' => e = .returned (.bool true) ∧ Below w.heap.size w w' := by
  by_cases hn : 1048576 < n
  · go_enter Try.func7, Try.ntmps7
    go_wp2
    go_ret
    exact ⟨rfl, by (repeat' (first | (with_reducible exact Below.refl _ _) | (with_reducible assumption) | (with_reducible refine Below.alloc ?_ ?_ _) | (with_reducible refine below_drewN ?_ _) | (with_reducible refine Below.drew ?_) | (with_reducible refine Below.setCell ?_ ?_ _) | (with_reducible refine below_call (by assumption) ?_ ?_) | go_size))⟩
  · go_enter Try.func7, Try.ntmps7
    go_wp2_with fail
    refine (DrawStealTile_any (h.below (by (repeat' (first | (with_reducible exact Below.refl _ _) | (with_reducible assumption) | (with_reducible refine Below.alloc ?_ ?_ _) | (with_reducible refine below_drewN ?_ _) | (with_reducible refine Below.drew ?_) | (with_reducible refine Below.setCell ?_ ?_ _) | (with_reducible refine below_call (by assumption) ?_ ?_) | go_size))))).mono ?_
    rintro e wd ⟨B, m, d, l, t, b, rfl, hm, ht, hbb, hS, hb⟩
    have hz0 := hb.size
    have HS := Lib.hid hS
    obtain ⟨ok, hok⟩ : ∃ v, takeOkD ⟨l, t, b⟩ = v := ⟨_, rfl⟩
    obtain ⟨⟨ql, qt, qb⟩, hq⟩ : ∃ v, stealR ⟨l, t, b⟩ = v := ⟨_, rfl⟩
    obtain ⟨x, hx⟩ : ∃ v, stealV ⟨l, t, b⟩ = v := ⟨_, rfl⟩
    have H1 := Lib.hid hok
    have H2 := Lib.hid hq
    have H3 := Lib.hid hx
    clear hS hok hq hx
    go_wp2_with fail
    refine (StealTile_eq d (HS.out.1.below (by (repeat' (first | (with_reducible exact Below.refl _ _) | (with_reducible assumption) | (with_reducible refine Below.alloc ?_ ?_ _) | (with_reducible refine below_drewN ?_ _) | (with_reducible refine Below.drew ?_) | (with_reducible refine Below.setCell ?_ ?_ _) | (with_reducible refine below_call (by assumption) ?_ ?_) | (with_reducible refine below_grown (by assumption) ?_ ?_ ?_) | omega | (simp; done) | (simp; omega))))) (by omega) (by omega) (by omega) (Hid.out (by with_reducible assumption)) (Hid.out (by with_reducible assumption)) (Hid.out (by with_reducible assumption))).mono ?_
    rintro e wa ⟨A1, c1, rfl, ho1, hba⟩
    have hza := hba.size
    (try simp at hza)
    have HO1 := Lib.hid ho1
    have hgb := blk_below (blk_new wd (.cells #[.slice B m d, .int .i64 t, .int .i64 b] 24)) hba
    have hcg := blk_cell hgb
    have hlg := blk_lt hgb
    clear ho1
    obtain ⟨_, _, e1, _, _, hi1, _⟩ := HO1.out.form
    cases e1
    have HI1 := Lib.hid hi1
    clear hi1
    have hl17 : l.length ≤ 17 := by rw [HS.out.1.len]; exact hm
    have hq17 : ql.length ≤ 17 := by
      have e : ql = (stealR ⟨l, t, b⟩).s := by rw [H2.out]
      rw [e]; exact Nat.le_trans (steal_len _) hl17
    go_wp2_with fail
    refine (sStealTile_eq d (HS.out.1.below (by (repeat' (first | (with_reducible exact Below.refl _ _) | (with_reducible assumption) | (with_reducible refine Below.alloc ?_ ?_ _) | (with_reducible refine below_drewN ?_ _) | (with_reducible refine Below.drew ?_) | (with_reducible refine Below.setCell ?_ ?_ _) | (with_reducible refine below_call (by assumption) ?_ ?_) | (with_reducible refine below_grown (by assumption) ?_ ?_ ?_) | omega | (simp; done) | (simp; omega))))) (by omega) (by omega) (by omega) (Hid.out (by with_reducible assumption)) (Hid.out (by with_reducible assumption)) (Hid.out (by with_reducible assumption))).mono ?_
    rintro e wb ⟨A2, c2, rfl, ho2, hbb2⟩
    have hzb := hbb2.size
    (try simp at hzb)
    obtain ⟨_, _, e1, _, _, hi2, _⟩ := ho2.form
    cases e1
    have HI2 := Lib.hid hi2
    clear hi2 ho2
    have hdb := blk_below (blk_alloc hgb (.cells #[.slice A1 ql.length c1, .int .i64 qt, .int .i64 qb] 24)) hbb2
    have heb := blk_below (blk_new wa (.cells #[.slice A1 ql.length c1, .int .i64 qt, .int .i64 qb] 24)) hbb2
    have hcd := blk_cell hdb
    have hld := blk_lt hdb
    have hce := blk_cell heb
    have hle := blk_lt heb
    clear hcg hlg
    go_wp2_with fail
    refine (equalDeque_same c1 c2 (HI1.out.below (by (repeat' (first | (with_reducible exact Below.refl _ _) | (with_reducible assumption) | (with_reducible refine Below.alloc ?_ ?_ _) | (with_reducible refine below_drewN ?_ _) | (with_reducible refine Below.drew ?_) | (with_reducible refine Below.setCell ?_ ?_ _) | (with_reducible refine below_call (by assumption) ?_ ?_) | (with_reducible refine below_grown (by assumption) ?_ ?_ ?_) | omega | (simp; done) | (simp; omega))))) (HI2.out.below (by (repeat' (first | (with_reducible exact Below.refl _ _) | (with_reducible assumption) | (with_reducible refine Below.alloc ?_ ?_ _) | (with_reducible refine below_drewN ?_ _) | (with_reducible refine Below.drew ?_) | (with_reducible refine Below.setCell ?_ ?_ _) | (with_reducible refine below_call (by assumption) ?_ ?_) | (with_reducible refine below_grown (by assumption) ?_ ?_ ?_) | omega | (simp; done) | (simp; omega))))) (by omega)).mono ?_
    rintro e wc ⟨rfl, hbc⟩
    have hzc := hbc.size
    (try simp at hzc)
    have hdc := blk_below (blk_alloc hdb (.cells #[.slice A2 ql.length c2, .int .i64 qt, .int .i64 qb] 24)) hbc
    have hec := blk_below (blk_alloc heb (.cells #[.slice A2 ql.length c2, .int .i64 qt, .int .i64 qb] 24)) hbc
    have hwc := blk_below (blk_new wb (.cells #[.slice A2 ql.length c2, .int .i64 qt, .int .i64 qb] 24)) hbc
    have hcd' := blk_cell hdc
    have hld' := blk_lt hdc
    have hce' := blk_cell hec
    have hle' := blk_lt hec
    have hcw' := blk_cell hwc
    have hlw' := blk_lt hwc
    clear hcd hld hce hle
    cases ok with
    | false =>
      go_wp2_with ((go_at_call 27; (with_reducible refine (equalDeque_same c1 c2 (HI1.out.below (by (repeat' (first | (with_reducible exact Below.refl _ _) | (with_reducible assumption) | (with_reducible refine Below.alloc ?_ ?_ _) | (with_reducible refine below_drewN ?_ _) | (with_reducible refine Below.drew ?_) | (with_reducible refine Below.setCell ?_ ?_ _) | (with_reducible refine below_call (by assumption) ?_ ?_) | (with_reducible refine below_grown (by assumption) ?_ ?_ ?_) | omega | (simp; done) | (simp; omega))))) (HI2.out.below (by (repeat' (first | (with_reducible exact Below.refl _ _) | (with_reducible assumption) | (with_reducible refine Below.alloc ?_ ?_ _) | (with_reducible refine below_drewN ?_ _) | (with_reducible refine Below.drew ?_) | (with_reducible refine Below.setCell ?_ ?_ _) | (with_reducible refine below_call (by assumption) ?_ ?_) | (with_reducible refine below_grown (by assumption) ?_ ?_ ?_) | omega | (simp; done) | (simp; omega))))) (by omega)).mono ?_); rintro e w1 ⟨rfl, hb⟩; have hz := hb.size; (try simp at hz)))
      go_ret
      exact ⟨rfl, by (repeat' (first | (with_reducible exact Below.refl _ _) | (with_reducible assumption) | (with_reducible refine Below.alloc ?_ ?_ _) | (with_reducible refine below_drewN ?_ _) | (with_reducible refine Below.drew ?_) | (with_reducible refine Below.setCell ?_ ?_ _) | (with_reducible refine below_call (by assumption) ?_ ?_) | (with_reducible refine below_grown (by assumption) ?_ ?_ ?_) | omega | (simp; done) | (simp; omega)))⟩
    | true =>
      by_cases h2 : b - t < 2
      · have e2 : decide (b - t < 2) = true := decide_eq_true h2
        go_wp2_with ((go_at_call 27; (with_reducible refine (equalDeque_same c1 c2 (HI1.out.below (by (repeat' (first | (with_reducible exact Below.refl _ _) | (with_reducible assumption) | (with_reducible refine Below.alloc ?_ ?_ _) | (with_reducible refine below_drewN ?_ _) | (with_reducible refine Below.drew ?_) | (with_reducible refine Below.setCell ?_ ?_ _) | (with_reducible refine below_call (by assumption) ?_ ?_) | (with_reducible refine below_grown (by assumption) ?_ ?_ ?_) | omega | (simp; done) | (simp; omega))))) (HI2.out.below (by (repeat' (first | (with_reducible exact Below.refl _ _) | (with_reducible assumption) | (with_reducible refine Below.alloc ?_ ?_ _) | (with_reducible refine below_drewN ?_ _) | (with_reducible refine Below.drew ?_) | (with_reducible refine Below.setCell ?_ ?_ _) | (with_reducible refine below_call (by assumption) ?_ ?_) | (with_reducible refine below_grown (by assumption) ?_ ?_ ?_) | omega | (simp; done) | (simp; omega))))) (by omega)).mono ?_); rintro e w1 ⟨rfl, hb⟩; have hz := hb.size; (try simp at hz)))
        go_ret
        exact ⟨rfl, by (repeat' (first | (with_reducible exact Below.refl _ _) | (with_reducible assumption) | (with_reducible refine Below.alloc ?_ ?_ _) | (with_reducible refine below_drewN ?_ _) | (with_reducible refine Below.drew ?_) | (with_reducible refine Below.setCell ?_ ?_ _) | (with_reducible refine below_call (by assumption) ?_ ?_) | (with_reducible refine below_grown (by assumption) ?_ ?_ ?_) | omega | (simp; done) | (simp; omega)))⟩
      · have e2 : decide (b - t < 2) = false := decide_eq_false h2
        obtain ⟨s1, s2, s3, s4, s5⟩ := steal_pop H1.out h2
        have r := (stealR_ok H1.out).1
        rw [H2.out] at r s1 s3 s4
        obtain ⟨⟨pl, pt, pb⟩, hp⟩ : ∃ v, popR ⟨l, t, b⟩ = v := ⟨_, rfl⟩
        have r' := (popR_ok H1.out).1
        have hp17 : pl.length ≤ 17 := by
          have e : pl = (popR ⟨l, t, b⟩).s := by rw [hp]
          rw [e]; exact Nat.le_trans (pop_len _) hl17
        rw [hp] at r' s2 s3 s5
        obtain ⟨⟨zl, zt, zb⟩, hz⟩ : ∃ v, stealR ⟨pl, pt, pb⟩ = v := ⟨_, rfl⟩
        have hz17 : zl.length ≤ 17 := by
          have e : zl = (stealR ⟨pl, pt, pb⟩).s := by rw [hz]
          rw [e]; exact Nat.le_trans (steal_len _) hp17
        rw [hz] at s3
        rw [H3.out] at s5
        obtain ⟨y, hy⟩ : ∃ v, popV ⟨l, t, b⟩ = v := ⟨_, rfl⟩
        rw [hy] at s4
        simp only [Dq.mk.injEq] at r r'
        have rq : -1000000 ≤ qt ∧ qt ≤ 1000000 ∧ -1000000 ≤ qb ∧ qb ≤ 1000000 := by omega
        have rp : -1000000 ≤ pt ∧ pt ≤ 1000000 ∧ -1000000 ≤ pb ∧ pb ≤ 1000000 := by omega
        clear r r'
        have G1 := Lib.hid s1
        have G2 := Lib.hid s2
        have G3 := Lib.hid s3
        have G4 := Lib.hid s4
        have G5 := Lib.hid s5
        have G6 := Lib.hid hp
        have G7 := Lib.hid hz
        have G8 := Lib.hid hy
        clear s1 s2 s3 s4 s5 hp hz hy
        go_wp2_with fail
        refine (PopTile_eq c1 (HI1.out.below (by (repeat' (first | (with_reducible exact Below.refl _ _) | (with_reducible assumption) | (with_reducible refine Below.alloc ?_ ?_ _) | (with_reducible refine below_drewN ?_ _) | (with_reducible refine Below.drew ?_) | (with_reducible refine Below.setCell ?_ ?_ _) | (with_reducible refine below_call (by assumption) ?_ ?_) | (with_reducible refine below_grown (by assumption) ?_ ?_ ?_) | omega | (simp; done) | (simp; omega))))) (by omega) ⟨rq.1, rq.2.1⟩ rq.2.2 G1.out G3.out G4.out).mono ?_
        rintro e we ⟨A3, c3, rfl, ho3, hbe⟩
        have hze := hbe.size
        (try simp at hze)
        obtain ⟨_, _, e1, _, _, hi3, _⟩ := ho3.form
        cases e1
        have HI3 := Lib.hid hi3
        clear hi3 ho3
        have hde := blk_below hdc hbe
        have hcde := blk_cell hde
        have hlde := blk_lt hde
        clear hcd' hld' hce' hle' hcw' hlw'
        go_wp2_with fail
        refine (PopTile_eq d (HS.out.1.below (by (repeat' (first | (with_reducible exact Below.refl _ _) | (with_reducible assumption) | (with_reducible refine Below.alloc ?_ ?_ _) | (with_reducible refine below_drewN ?_ _) | (with_reducible refine Below.drew ?_) | (with_reducible refine Below.setCell ?_ ?_ _) | (with_reducible refine below_call (by assumption) ?_ ?_) | (with_reducible refine below_grown (by assumption) ?_ ?_ ?_) | omega | (simp; done) | (simp; omega))))) (by omega) (by omega) (by omega) H1.out G6.out G8.out).mono ?_
        rintro e wf ⟨A4, c4, rfl, ho4, hbf⟩
        have hzf := hbf.size
        (try simp at hzf)
        obtain ⟨_, _, e1, _, _, hi4, _⟩ := ho4.form
        cases e1
        have HI4 := Lib.hid hi4
        clear hi4 ho4 hcde hlde
        have haf := blk_below (blk_new we (.cells #[.slice A3 zl.length c3, .int .i64 zt, .int .i64 zb] 24)) hbf
        have hcaf := blk_cell haf
        have hlaf := blk_lt haf
        go_wp2_with fail
        refine (StealTile_eq c4 (HI4.out.below (by (repeat' (first | (with_reducible exact Below.refl _ _) | (with_reducible assumption) | (with_reducible refine Below.alloc ?_ ?_ _) | (with_reducible refine below_drewN ?_ _) | (with_reducible refine Below.drew ?_) | (with_reducible refine Below.setCell ?_ ?_ _) | (with_reducible refine below_call (by assumption) ?_ ?_) | (with_reducible refine below_grown (by assumption) ?_ ?_ ?_) | omega | (simp; done) | (simp; omega))))) (by omega) ⟨rp.1, rp.2.1⟩ rp.2.2 G2.out G7.out G5.out).mono ?_
        rintro e wg ⟨A5, c5, rfl, ho5, hbg⟩
        have hzg := hbg.size
        (try simp at hzg)
        obtain ⟨_, _, e1, _, _, hi5, _⟩ := ho5.form
        cases e1
        have HI5 := Lib.hid hi5
        clear hi5 ho5 hcaf hlaf
        have hag := blk_below (blk_alloc haf (.cells #[.slice A4 pl.length c4, .int .i64 pt, .int .i64 pb] 24)) hbg
        have hcag := blk_cell hag
        have hlag := blk_lt hag
        go_wp2_with ((go_at_call 27; (with_reducible refine (equalDeque_same c3 c5 (HI3.out.below (by (repeat' (first | (with_reducible exact Below.refl _ _) | (with_reducible assumption) | (with_reducible refine Below.alloc ?_ ?_ _) | (with_reducible refine below_drewN ?_ _) | (with_reducible refine Below.drew ?_) | (with_reducible refine Below.setCell ?_ ?_ _) | (with_reducible refine below_call (by assumption) ?_ ?_) | (with_reducible refine below_grown (by assumption) ?_ ?_ ?_) | omega | (simp; done) | (simp; omega))))) (HI5.out.below (by (repeat' (first | (with_reducible exact Below.refl _ _) | (with_reducible assumption) | (with_reducible refine Below.alloc ?_ ?_ _) | (with_reducible refine below_drewN ?_ _) | (with_reducible refine Below.drew ?_) | (with_reducible refine Below.setCell ?_ ?_ _) | (with_reducible refine below_call (by assumption) ?_ ?_) | (with_reducible refine below_grown (by assumption) ?_ ?_ ?_) | omega | (simp; done) | (simp; omega))))) (by omega)).mono ?_); rintro e w1 ⟨rfl, hb⟩; have hz := hb.size; (try simp at hz)))
        go_ret
        exact ⟨rfl, by (repeat' (first | (with_reducible exact Below.refl _ _) | (with_reducible assumption) | (with_reducible refine Below.alloc ?_ ?_ _) | (with_reducible refine below_drewN ?_ _) | (with_reducible refine Below.drew ?_) | (with_reducible refine Below.setCell ?_ ?_ _) | (with_reducible refine below_call (by assumption) ?_ ?_) | (with_reducible refine below_grown (by assumption) ?_ ?_ ?_) | omega | (simp; done) | (simp; omega)))⟩

theorem FnStealTilePop_own : ownKnob Try.prog.godebug = none := by kernel_rfl
theorem FnStealTilePop_laid : laidOutB Try.prog = true := by kernel_rfl

set_option maxRecDepth 100000 in
theorem FnStealTilePop_lifted (os : Os) (started : os.Started) (H : Type) (enc : TypeId × Value → H) :
    ReturnsInHanded {} Try.checked os 7 .any (Rows.fnStealTilePopSpec.pre6 enc Try.prog Try.f7 Rows.fnStealTilePopRow.domain false) (Rows.fnStealTilePopSpec.post enc Try.prog Try.f7 false true false false) := by
  refine returnsInHanded_of_change (C := Try.checked) FnStealTilePop_own started (by kernel_rfl) Try.func7
    (ChangeSpec.witness6 (enc := enc) (C := Try.checked) false ⟨#[], #[.slice none 0 0], []⟩ 8 (by kernel_rfl) (by kernel_rfl) (by kernel_rfl) (by kernel_rfl)) ?_
  intro W base args ds gs before hval0 hW hcnd _
  have hval : ∀ (j : Nat) t v, Try.f7.params[j]? = some t → args[j]? = some v → Value.okWide Try.prog W .any base t v := hval0
  have hW' := hW
  obtain ⟨p, q, hA0, hV, rfl, hfz, hnd⟩ := hW
  have hA : DataW.TrodAll enc Try.prog W 0 (fun _ => true) true Try.f7.params.toList args.toList ds p := hA0
  rw [Try.params7] at hA hval
  obtain ⟨v0, vs0, d0, ds0, p0, q0, hargs, rfl, rfl, h0, r0⟩ := trodAll_cons hA
  obtain ⟨rfl, rfl, rfl⟩ := trodAll_nil r0
  obtain rfl : args = #[v0] := by cases args; simp_all
  obtain ⟨rfl, rfl⟩ := trodVars_none hV
  have k0 := h0
  have lt0 : ∀ x ∈ p0, x.block < W.heap.size := by obtain ⟨m, hm⟩ := k0; exact DataW.trod_lt m _ _ _ hm
  obtain ⟨a0, len0, cap0, rfl⟩ := okWide_slice Try.underlying29 (hval 0 29 v0 rfl rfl)
  have w0 := code_of Try.underlying29 Try.underlying5 (by kernel_rfl) h0
  clear hA0 hval0
  refine (FnStealTilePop_walk W _ _ _ w0).mono fun e W' ⟨he, bel⟩ => ?_
  subst he
  exact ⟨_, rfl, _, _, _, [], _, [], hW', trodAll_mk1 (shut_bool Try.underlying4 _), (trodAll_cons_mk (Below.trod FnStealTilePop_laid (by kernel_rfl) (of_decide_eq_true (by kernel_rfl)) k0 bel lt0) trodAll_mk0), rfl, bel.frame _, fun h => by cases h⟩

theorem FnStealTilePop_over : Rows.fnStealTilePopRow.holds Try.pinned (OpenSpec.ofChange Rows.fnStealTilePopSpec) :=
  OpenClaim.holds_of_wide 7 Try.f7 rfl rfl rfl rfl rfl rfl rfl ⟨rfl, rfl, rfl, rfl, rfl⟩ rfl rfl rfl rfl rfl (by kernel_rfl) Try.func7 (by kernel_rfl)
    (of_decide_eq_true (by kernel_rfl)) (by unfold Func.isWrapper; first | (rw [if_pos (by decide +kernel)]; kernel_rfl) | (rw [if_neg (by decide +kernel)]; exact ⟨rfl, rfl⟩))
    (fun os started H enc _ => FnStealTilePop_lifted os started H enc)

/-- The statement. -/
theorem FnStealTilePop_holds : Rows.FnStealTilePopSaid := FnStealTilePop_over
#print axioms FnStealTilePop_holds

end Go.Proofs.Ytclfocdghbmmlaa
