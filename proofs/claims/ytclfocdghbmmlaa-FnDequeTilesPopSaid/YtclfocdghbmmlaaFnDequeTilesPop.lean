/-
  FnDequeTilesPop holds. Whatever queue the generator gives. No condition.
-/
import Derived.Test.YtclfocdghbmmlaaDrawF
import Derived.Test.YtclfocdghbmmlaaDeqL
import Derived.Test.YtclfocdghbmmlaaCode
import Derived.ProofKit
import Derived.OpenShut
import Derived.ShutString
import Derived.ChangeOld
import Derived.Lib.SmallJoins
namespace Go.Proofs.Ytclfocdghbmmlaa
open Go.RowKit Pl Go.ChangeShapes Go.WideShapes Go.ChangeAt
open Go.ChangeMaps (open_string shut_string)

set_option linter.unusedSimpArgs false
set_option linter.unusedVariables false

theorem pop_len' (d : Dq) : (popR d).s.length ≤ d.s.length := by
  unfold popR; split
  · exact Nat.le_of_eq (set16_len _ _ _)
  · exact Nat.zero_le _
theorem tiles_length {d : Dq} (hv : validD d = true) : (tilesD d).length = (d.b - d.t).toNat := by
  rw [tilesD, if_pos hv, seqD_len]
theorem tiles_pop {d : Dq} (hv : validD d = true) {T : List Int} {k : Nat} (h : tilesD d = T.take (k + 1)) (hk : k < T.length) :
    takeOkD d = true ∧ popV d = nt T k ∧ validD (popR d) = true ∧ tilesD (popR d) = T.take k := by
  have hl := tiles_length hv
  rw [h, List.length_take, Nat.min_eq_left (by omega)] at hl
  have hok : takeOkD d = true := by
    rw [takeOkD, hv, decide_eq_true (by omega)]; rfl
  have ht := pop_tiles hok
  rw [h, List.take_succ_eq_append_getElem hk] at ht
  obtain ⟨e1, e2⟩ := List.append_inj' ht rfl
  refine ⟨hok, ?_, pop_valid hok, e1⟩
  rw [nt_eq hk]
  simpa using e2
theorem tiles_none {d : Dq} (hv : validD d = true) (h : tilesD d = []) : takeOkD d = false ∧ d.t = d.b := by
  have hl := tiles_length hv
  have hp := (validD_iff.1 hv).2.1
  rw [h] at hl
  simp only [List.length_nil] at hl
  have e : d.t = d.b := by omega
  exact ⟨by rw [takeOkD, e]; simp, e⟩

/-- The queue that x is, with k tiles left. -/
def XQ (gx : Nat) (w0 : World) (T : List Int) (k : Nat) (wr : World) : Prop := ∃ A c ql qt qb, wr.heap[gx]? = some (.cells #[.slice A 16 c, .int .i64 qt, .int .i64 qb] 24 (0, 0)) ∧ IsI wr A 16 ql ∧ (∀ a, A = some a → a.block ≠ gx) ∧
  validD ⟨ql, qt, qb⟩ = true ∧ tilesD ⟨ql, qt, qb⟩ = T.take k ∧ Below gx w0 wr

set_option maxRecDepth 100000 in
set_option maxHeartbeats 1000000 in
theorem FnDequeTilesPop_walk (w : World) (A : Option Addr) (n c : Nat) (h : Code w A n c) :
    Calls Try.prog 10 #[.slice A n c] w fun e w' => e = .returned (.bool true) ∧ Below w.heap.size w w' := by
  by_cases hn : 1048576 < n
  · go_enter Try.func10, Try.ntmps10
    go_wp2
    go_ret
    exact ⟨rfl, by (repeat' (first | (with_reducible exact Below.refl _ _) | (with_reducible assumption) | (with_reducible refine Below.alloc ?_ ?_ _) | (with_reducible refine below_drewN ?_ _) | (with_reducible refine Below.drew ?_) | (with_reducible refine Below.setCell ?_ ?_ _) | (with_reducible refine below_call (by assumption) ?_ ?_) | go_size))⟩
  · go_enter Try.func10, Try.ntmps10
    go_wp2_with fail
    refine (DrawDequeTiles_any (h.below (by (repeat' (first | (with_reducible exact Below.refl _ _) | (with_reducible assumption) | (with_reducible refine Below.alloc ?_ ?_ _) | (with_reducible refine below_drewN ?_ _) | (with_reducible refine Below.drew ?_) | (with_reducible refine Below.setCell ?_ ?_ _) | (with_reducible refine below_call (by assumption) ?_ ?_) | go_size))))).mono ?_
    rintro e wd ⟨B, m, d, l, t, b, rfl, hm, ht, hbb, hS, hb⟩
    have hz0 := hb.size
    have HS := Lib.hid hS
    obtain ⟨T, hT⟩ : ∃ T, tilesD ⟨l, t, b⟩ = T := ⟨_, rfl⟩
    have H1 := Lib.hid hT
    have hl16 : T.length ≤ 16 := by rw [← hT]; exact tiles_len _
    obtain ⟨nt', hnt⟩ : ∃ q, T.length = q := ⟨_, rfl⟩
    have HN := Lib.hid hnt
    rw [hnt] at hl16
    obtain ⟨v, hv⟩ : ∃ v, validD ⟨l, t, b⟩ = v := ⟨_, rfl⟩
    have HV := Lib.hid hv
    clear hS hT hnt hv
    go_wp2_with fail
    refine (DequeTiles_eq d (HS.out.1.below (by (repeat' (first | (with_reducible exact Below.refl _ _) | (with_reducible assumption) | (with_reducible refine Below.alloc ?_ ?_ _) | (with_reducible refine below_drewN ?_ _) | (with_reducible refine Below.drew ?_) | (with_reducible refine Below.setCell ?_ ?_ _) | (with_reducible refine below_call (by assumption) ?_ ?_) | (with_reducible refine below_grown (by assumption) ?_ ?_ ?_) | omega | (simp; done) | (simp; omega))))) (by omega) (Hid.out (by with_reducible assumption))).mono ?_
    rintro e wa ⟨v1, rfl, ho1, hba⟩
    have hza := hba.size
    simp at hza
    obtain ⟨A1, c1, rfl, _, _, hI1, _⟩ := ho1.form
    rw [HN.out] at hI1 ⊢
    have HI1 := Lib.hid hI1
    have hgb := blk_below (blk_new wd (.cells #[.slice B m d, .int .i64 t, .int .i64 b] 24)) hba
    have hcg := blk_cell hgb
    have hlg := blk_lt hgb
    clear ho1 hI1
    go_wp2_with fail
    refine (sDequeTiles_eq d (HS.out.1.below (by (repeat' (first | (with_reducible exact Below.refl _ _) | (with_reducible assumption) | (with_reducible refine Below.alloc ?_ ?_ _) | (with_reducible refine below_drewN ?_ _) | (with_reducible refine Below.drew ?_) | (with_reducible refine Below.setCell ?_ ?_ _) | (with_reducible refine below_call (by assumption) ?_ ?_) | (with_reducible refine below_grown (by assumption) ?_ ?_ ?_) | omega | (simp; done) | (simp; omega))))) (by omega) (Hid.out (by with_reducible assumption))).mono ?_
    rintro e wb ⟨v2, rfl, ho2, hbb'⟩
    have hzb := hbb'.size
    obtain ⟨A2, c2, rfl, _, _, hI2, _⟩ := ho2.form
    rw [HN.out] at hI2 ⊢
    have HI2 := Lib.hid hI2
    clear ho2 hI2
    go_wp2_with fail
    refine (equalInts_same c1 c2 (HI1.out.below hbb') HI2.out (by omega)).mono ?_
    rintro e wc ⟨rfl, hbc⟩
    have hzc := hbc.size
    have hdc := blk_below (blk_below hgb hbb') hbc
    have hcdc := blk_cell hdc
    have hldc := blk_lt hdc
    clear hcg hlg
    go_wp2_with fail
    refine (ValidDeque_eq d (HS.out.1.below (by (repeat' (first | (with_reducible exact Below.refl _ _) | (with_reducible assumption) | (with_reducible refine Below.alloc ?_ ?_ _) | (with_reducible refine below_drewN ?_ _) | (with_reducible refine Below.drew ?_) | (with_reducible refine Below.setCell ?_ ?_ _) | (with_reducible refine below_call (by assumption) ?_ ?_) | (with_reducible refine below_grown (by assumption) ?_ ?_ ?_) | omega | (simp; done) | (simp; omega))))) (by omega) HV.out).mono ?_
    rintro e we ⟨rfl, hbe⟩
    have hze := hbe.size
    have hde := blk_below hdc hbe
    have hcde := blk_cell hde
    have hlde := blk_lt hde
    clear hcdc hldc
    cases v with
    | false =>
      go_wp2_with fail
      refine (sDequeTiles_eq d (HS.out.1.below (by (repeat' (first | (with_reducible exact Below.refl _ _) | (with_reducible assumption) | (with_reducible refine Below.alloc ?_ ?_ _) | (with_reducible refine below_drewN ?_ _) | (with_reducible refine Below.drew ?_) | (with_reducible refine Below.setCell ?_ ?_ _) | (with_reducible refine below_call (by assumption) ?_ ?_) | (with_reducible refine below_grown (by assumption) ?_ ?_ ?_) | omega | (simp; done) | (simp; omega))))) (by omega) (Hid.out (by with_reducible assumption))).mono ?_
      rintro e wf ⟨v3, rfl, ho3, hbf⟩
      have hzf := hbf.size
      obtain ⟨A3, c3, rfl, _, _, hI3, _⟩ := ho3.form
      rw [HN.out] at hI3 ⊢
      have HI3 := Lib.hid hI3
      clear ho3 hI3
      go_wp2_with fail
      refine (equalInts_same c1 c3 (HI1.out.below (by (repeat' (first | (with_reducible exact Below.refl _ _) | (with_reducible assumption) | (with_reducible refine Below.alloc ?_ ?_ _) | (with_reducible refine below_drewN ?_ _) | (with_reducible refine Below.drew ?_) | (with_reducible refine Below.setCell ?_ ?_ _) | (with_reducible refine below_call (by assumption) ?_ ?_) | (with_reducible refine below_grown (by assumption) ?_ ?_ ?_) | omega | (simp; done) | (simp; omega))))) HI3.out (by omega)).mono ?_
      rintro e wg ⟨rfl, hbg⟩
      go_wp2
      go_ret
      exact ⟨rfl, by (repeat' (first | (with_reducible exact Below.refl _ _) | (with_reducible assumption) | (with_reducible refine Below.alloc ?_ ?_ _) | (with_reducible refine below_drewN ?_ _) | (with_reducible refine Below.drew ?_) | (with_reducible refine Below.setCell ?_ ?_ _) | (with_reducible refine below_call (by assumption) ?_ ?_) | (with_reducible refine below_grown (by assumption) ?_ ?_ ?_) | omega | (simp; done) | (simp; omega)))⟩
    | true =>
      have hl : l.length = m := HS.out.1.len
      obtain rfl : m = 16 := by rw [← hl]; exact (validD_iff.1 HV.out).1
      have HIe : Hid (IsI we A1 nt' T) := Lib.hid (HI1.out.below (by (repeat' (first | (with_reducible exact Below.refl _ _) | (with_reducible assumption) | (with_reducible refine Below.alloc ?_ ?_ _) | (with_reducible refine below_drewN ?_ _) | (with_reducible refine Below.drew ?_) | (with_reducible refine Below.setCell ?_ ?_ _) | (with_reducible refine below_call (by assumption) ?_ ?_) | (with_reducible refine below_grown (by assumption) ?_ ?_ ?_) | omega | (simp; done) | (simp; omega)))))
      have Be : Hid (Below w.heap.size w we) := Lib.hid (by (repeat' (first | (with_reducible exact Below.refl _ _) | (with_reducible assumption) | (with_reducible refine Below.alloc ?_ ?_ _) | (with_reducible refine below_drewN ?_ _) | (with_reducible refine Below.drew ?_) | (with_reducible refine Below.setCell ?_ ?_ _) | (with_reducible refine below_call (by assumption) ?_ ?_) | (with_reducible refine below_grown (by assumption) ?_ ?_ ?_) | omega | (simp; done) | (simp; omega))))
      have hX0 : XQ we.heap.size we T nt' (we.alloc (.cells #[.slice B 16 d, .int .i64 t, .int .i64 b] 24)) := by
        have hI := HS.out.1.below (show Below wd.heap.size wd we by (repeat' (first | (with_reducible exact Below.refl _ _) | (with_reducible assumption) | (with_reducible refine Below.alloc ?_ ?_ _) | (with_reducible refine below_drewN ?_ _) | (with_reducible refine Below.drew ?_) | (with_reducible refine Below.setCell ?_ ?_ _) | (with_reducible refine below_call (by assumption) ?_ ?_) | (with_reducible refine below_grown (by assumption) ?_ ?_ ?_) | omega | (simp; done) | (simp; omega))))
        have hne : ∀ a, B = some a → a.block ≠ we.heap.size := fun a ha => by have := hI.lt (by omega) a ha; omega
        refine ⟨B, d, l, t, b, blk_new we _, ?_, hne, HV.out, ?_, by (repeat' (first | (with_reducible exact Below.refl _ _) | (with_reducible assumption) | (with_reducible refine Below.alloc ?_ ?_ _) | (with_reducible refine below_drewN ?_ _) | (with_reducible refine Below.drew ?_) | (with_reducible refine Below.setCell ?_ ?_ _) | (with_reducible refine below_call (by assumption) ?_ ?_) | go_size))⟩
        · exact hI.below (by (repeat' (first | (with_reducible exact Below.refl _ _) | (with_reducible assumption) | (with_reducible refine Below.alloc ?_ ?_ _) | (with_reducible refine below_drewN ?_ _) | (with_reducible refine Below.drew ?_) | (with_reducible refine Below.setCell ?_ ?_ _) | (with_reducible refine below_call (by assumption) ?_ ?_) | go_size)))
        · rw [H1.out, List.take_of_length_le (by rw [HN.out]; omega)]
      have HX0 := Lib.hid hX0
      clear hX0
      go_wp2
      go_loopw [6] (fun vi wr => ∃ k : Nat, k ≤ nt' ∧ vi = .int .i64 ((k : Int) - 1) ∧ XQ we.heap.size we T k wr) (fun vi _ => (intOf vi + 1).toNat)
      case atStart => exact ⟨nt', Nat.le_refl _, rfl, HX0.out⟩
      case round =>
        obtain ⟨k, hk, rfl, A5, c5, ql, qt, qb, hxb, hxI, hxn, hxv, hxt, hxB⟩ := hrel
        obtain ⟨wo, rfl⟩ : ∃ wo : World, wo = wr := ⟨_, rfl⟩
        have hqr := (validD_iff.1 hxv).2.1
        simp only at hqr
        have hso := hxB.size
        have hcx := blk_cell hxb
        have hfx := blk_free hxb
        have hlx := blk_lt hxb
        have HXI := Lib.hid hxI
        have HXV := Lib.hid hxv
        have HXT := Lib.hid hxt
        clear hxI hxv hxt
        have hql : ql.length = 16 := HXI.out.len
        cases k with
        | zero =>
          obtain ⟨p1, p2⟩ := tiles_none HXV.out (by rw [HXT.out]; rfl)
          simp only at p2
          subst p2
          have G1 := Lib.hid p1
          obtain ⟨⟨zl, zt, zb⟩, hz⟩ : ∃ v, popR ⟨ql, qt, qt⟩ = v := ⟨_, rfl⟩
          obtain ⟨y, hy⟩ : ∃ v, popV ⟨ql, qt, qt⟩ = v := ⟨_, rfl⟩
          have G2 := Lib.hid hz
          have G3 := Lib.hid hy
          clear p1 hz hy
          go_wp2_with fail
          refine (PopTile_eq c5 HXI.out (by omega) (by omega) (by omega) G1.out G2.out G3.out).mono ?_
          rintro e wp ⟨A6, c6, rfl, ho6, hbp⟩
          have hzp := hbp.size
          have hxp := blk_below hxb hbp
          have hcxp := blk_cell hxp
          have hfxp := blk_free hxp
          have hlxp := blk_lt hxp
          clear hcx hfx hlx ho6
          go_wp2
          go_ret
          exact ⟨rfl, by (repeat' (first | (with_reducible exact Below.refl _ _) | (with_reducible assumption) | (with_reducible refine Below.alloc ?_ ?_ _) | (with_reducible refine below_drewN ?_ _) | (with_reducible refine Below.drew ?_) | (with_reducible refine Below.setCell ?_ ?_ _) | (with_reducible refine below_call (by assumption) ?_ ?_) | (with_reducible refine below_grown (by assumption) ?_ ?_ ?_) | omega | (simp; done) | (simp; omega)))⟩
        | succ k =>
          have hkT : k < T.length := by rw [HN.out]; omega
          obtain ⟨p1, p2, p3, p4⟩ := tiles_pop HXV.out HXT.out hkT
          obtain ⟨⟨zl, zt, zb⟩, hz⟩ : ∃ v, popR ⟨ql, qt, qb⟩ = v := ⟨_, rfl⟩
          rw [hz] at p3 p4
          have hz16 : zl.length = 16 := (validD_iff.1 p3).1
          obtain ⟨y, hy⟩ : ∃ y, nt T k = y := ⟨_, rfl⟩
          rw [hy] at p2
          have G1 := Lib.hid p1
          have G2 := Lib.hid hz
          have G3 := Lib.hid p2
          have G4 := Lib.hid p3
          have G5 := Lib.hid p4
          clear p1 hz p2 p3 p4
          have ek : ((k + 1 : Nat) : Int) - 1 = (k : Int) := by omega
          rw [ek]
          have eb : decide ((0 : Int) ≤ k) = true := decide_eq_true (by omega)
          go_wp2_with fail
          refine (PopTile_eq c5 HXI.out (by omega) (by omega) (by omega) G1.out G2.out G3.out).mono ?_
          rintro e wp ⟨A6, c6, rfl, ho6, hbp⟩
          have hzp := hbp.size
          have hxp := blk_below hxb hbp
          have hcxp := blk_cell hxp
          have hfxp := blk_free hxp
          have hlxp := blk_lt hxp
          clear hcx hfx hlx
          obtain ⟨_, _, e1, _, _, hi6, hb6⟩ := ho6.form
          cases e1
          rw [hz16] at hi6 ⊢
          obtain ⟨b0, o0, e0, hbl, x0⟩ := ((HIe.out.below (show Below we.heap.size we wo by assumption)).below hbp).at_ (k := k) (by omega)
          rw [hy] at x0
          subst e0
          have HX1 : Hid (XQ we.heap.size we T k ((((wp.setCell ⟨we.heap.size, 0, none⟩ (.slice A6 16 c6)).setCell ⟨we.heap.size, 1, none⟩ (.int .i64 zt)).setCell ⟨we.heap.size, 2, none⟩ (.int .i64 zb)).alloc (.cells #[.slice A6 16 c6, .int .i64 zt, .int .i64 zb] 24))) := by
            have hne : ∀ a, A6 = some a → a.block ≠ we.heap.size := fun a ha => by have := hb6 a ha; have := blk_lt hxb; omega
            refine Lib.hid ⟨A6, c6, zl, zt, zb, blk_alloc (blk_set3 hxp _ _ _) _, ?_, hne, G4.out, G5.out, by (repeat' (first | (with_reducible exact Below.refl _ _) | (with_reducible assumption) | (with_reducible refine Below.alloc ?_ ?_ _) | (with_reducible refine below_drewN ?_ _) | (with_reducible refine Below.drew ?_) | (with_reducible refine Below.setCell ?_ ?_ _) | (with_reducible refine below_call (by assumption) ?_ ?_) | (with_reducible refine below_grown (by assumption) ?_ ?_ ?_) | omega | (simp; done) | (simp; omega)))⟩
            exact (hi6.set3 _ _ _ (fun _ => hne)).below (by (repeat' (first | (with_reducible exact Below.refl _ _) | (with_reducible assumption) | (with_reducible refine Below.alloc ?_ ?_ _) | (with_reducible refine below_drewN ?_ _) | (with_reducible refine Below.drew ?_) | (with_reducible refine Below.setCell ?_ ?_ _) | (with_reducible refine below_call (by assumption) ?_ ?_) | go_size)))
          clear hi6 hb6 ho6
          go_wp2
          go_round
          case rel => exact ⟨k, by omega, by go_num, HX1.out⟩
          case measure => simp [intOf]

theorem FnDequeTilesPop_own : ownKnob Try.prog.godebug = none := by kernel_rfl
theorem FnDequeTilesPop_laid : laidOutB Try.prog = true := by kernel_rfl

set_option maxRecDepth 100000 in
theorem FnDequeTilesPop_lifted (os : Os) (started : os.Started) (H : Type) (enc : TypeId × Value → H) :
    ReturnsInHanded {} Try.checked os 10 .any (Rows.fnDequeTilesPopSpec.pre6 enc Try.prog Try.f10 Rows.fnDequeTilesPopRow.domain false) (Rows.fnDequeTilesPopSpec.post enc Try.prog Try.f10 false true false false) := by
  refine returnsInHanded_of_change (C := Try.checked) FnDequeTilesPop_own started (by kernel_rfl) Try.func10
    (ChangeSpec.witness6 (enc := enc) (C := Try.checked) false ⟨#[], #[.slice none 0 0], []⟩ 8 (by kernel_rfl) (by kernel_rfl) (by kernel_rfl) (by kernel_rfl)) ?_
  intro W base args ds gs before hval0 hW hcnd _
  have hval : ∀ (j : Nat) t v, Try.f10.params[j]? = some t → args[j]? = some v → Value.okWide Try.prog W .any base t v := hval0
  have hW' := hW
  obtain ⟨p, q, hA0, hV, rfl, hfz, hnd⟩ := hW
  have hA : DataW.TrodAll enc Try.prog W 0 (fun _ => true) true Try.f10.params.toList args.toList ds p := hA0
  rw [Try.params10] at hA hval
  obtain ⟨v0, vs0, d0, ds0, p0, q0, hargs, rfl, rfl, h0, r0⟩ := trodAll_cons hA
  obtain ⟨rfl, rfl, rfl⟩ := trodAll_nil r0
  obtain rfl : args = #[v0] := by cases args; simp_all
  obtain ⟨rfl, rfl⟩ := trodVars_none hV
  have k0 := h0
  have lt0 : ∀ x ∈ p0, x.block < W.heap.size := by obtain ⟨m, hm⟩ := k0; exact DataW.trod_lt m _ _ _ hm
  obtain ⟨a0, len0, cap0, rfl⟩ := okWide_slice Try.underlying29 (hval 0 29 v0 rfl rfl)
  have w0 := code_of Try.underlying29 Try.underlying5 (by kernel_rfl) h0
  clear hA0 hval0
  refine (FnDequeTilesPop_walk W _ _ _ w0).mono fun e W' ⟨he, bel⟩ => ?_
  subst he
  exact ⟨_, rfl, _, _, _, [], _, [], hW', trodAll_mk1 (shut_bool Try.underlying4 _), (trodAll_cons_mk (Below.trod FnDequeTilesPop_laid (by kernel_rfl) (of_decide_eq_true (by kernel_rfl)) k0 bel lt0) trodAll_mk0), rfl, bel.frame _, fun h => by cases h⟩

theorem FnDequeTilesPop_over : Rows.fnDequeTilesPopRow.holds Try.pinned (OpenSpec.ofChange Rows.fnDequeTilesPopSpec) :=
  OpenClaim.holds_of_wide 10 Try.f10 rfl rfl rfl rfl rfl rfl rfl ⟨rfl, rfl, rfl, rfl, rfl⟩ rfl rfl rfl rfl rfl (by kernel_rfl) Try.func10 (by kernel_rfl)
    (of_decide_eq_true (by kernel_rfl)) (by unfold Func.isWrapper; first | (rw [if_pos (by decide +kernel)]; kernel_rfl) | (rw [if_neg (by decide +kernel)]; exact ⟨rfl, rfl⟩))
    (fun os started H enc _ => FnDequeTilesPop_lifted os started H enc)

/-- The statement. -/
theorem FnDequeTilesPop_holds : Rows.FnDequeTilesPopSaid := FnDequeTilesPop_over
#print axioms FnDequeTilesPop_holds

end Go.Proofs.Ytclfocdghbmmlaa
