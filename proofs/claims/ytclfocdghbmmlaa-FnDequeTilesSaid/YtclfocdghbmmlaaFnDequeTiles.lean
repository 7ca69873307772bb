/-
  FnDequeTiles holds. Whatever queue the generator gives. No condition.
-/
import Derived.Test.YtclfocdghbmmlaaDrawE
import Derived.Test.YtclfocdghbmmlaaDeqL
import Derived.Test.YtclfocdghbmmlaaCode
import Derived.ProofKit
import Derived.OpenShut
import Derived.ShutString
import Derived.ChangeOld
import Derived.Lib.SmallJoins
namespace Go.Proofs.Ytclfocdghbmmlaa
open Go.RowKit Pl Go.ChangeShapes Go.WideShapes Go.ChangeAt
open Go.ChangeMaps (open_string shut_string)

set_option linter.unusedSimpArgs false
set_option linter.unusedVariables false

set_option maxRecDepth 100000 in
set_option maxHeartbeats 4000000 in
theorem FnDequeTiles_walk (w : World) (A : Option Addr) (n c : Nat) (h : Code w A n c) :
    Calls Try.prog 4 #[.slice A n c] w fun e w' => e = .returned (.bool true) ∧ Below w.heap.size w w' := by
  by_cases hn : 1048576 < n
  · go_enter Try.func4, Try.ntmps4
    go_wp2
    go_ret
    exact ⟨rfl, by (repeat' (first | (with_reducible exact Below.refl _ _) | (with_reducible assumption) | (with_reducible refine Below.alloc ?_ ?_ _) | (with_reducible refine below_drewN ?_ _) | (with_reducible refine Below.drew ?_) | (with_reducible refine Below.setCell ?_ ?_ _) | (with_reducible refine below_call (by assumption) ?_ ?_) | go_size))⟩
  · go_enter Try.func4, Try.ntmps4
    go_wp2_with fail
    refine (DrawDequeTiles_any (h.below (by (repeat' (first | (with_reducible exact Below.refl _ _) | (with_reducible assumption) | (with_reducible refine Below.alloc ?_ ?_ _) | (with_reducible refine below_drewN ?_ _) | (with_reducible refine Below.drew ?_) | (with_reducible refine Below.setCell ?_ ?_ _) | (with_reducible refine below_call (by assumption) ?_ ?_) | go_size))))).mono ?_
    rintro e wd ⟨B, m, d, l, t, b, rfl, hm, ht, hbb, hS, hb⟩
    have hz0 := hb.size
    have HS := Lib.hid hS
    obtain ⟨T, hT⟩ : ∃ T, tilesD ⟨l, t, b⟩ = T := ⟨_, rfl⟩
    have H1 := Lib.hid hT
    have hl16 : T.length ≤ 16 := by rw [← hT]; exact tiles_len _
    have HIN : Hid (∀ x ∈ T, 0 ≤ x ∧ x ≤ 99) := Lib.hid (by rw [← hT]; exact tiles_in)
    obtain ⟨nt', hnt⟩ : ∃ q, T.length = q := ⟨_, rfl⟩
    have HN := Lib.hid hnt
    rw [hnt] at hl16
    clear hS hT hnt
    go_wp2_with fail
    refine (DequeTiles_eq d (HS.out.1.below (by (repeat' (first | (with_reducible exact Below.refl _ _) | (with_reducible assumption) | (with_reducible refine Below.alloc ?_ ?_ _) | (with_reducible refine below_drewN ?_ _) | (with_reducible refine Below.drew ?_) | (with_reducible refine Below.setCell ?_ ?_ _) | (with_reducible refine below_call (by assumption) ?_ ?_) | (with_reducible refine below_grown (by assumption) ?_ ?_ ?_) | omega | (simp; done) | (simp; omega))))) (by omega) (Hid.out (by with_reducible assumption))).mono ?_
    rintro e wa ⟨v1, rfl, ho1, hba⟩
    have hza := hba.size
    simp at hza
    obtain ⟨A1, c1, rfl, _, _, hI1, _⟩ := ho1.form
    rw [HN.out] at hI1 ⊢
    have HI1 := Lib.hid hI1
    have hgb := blk_below (blk_new wd (.cells #[.slice B m d, .int .i64 t, .int .i64 b] 24)) hba
    have hcg := blk_cell hgb
    have hlg := blk_lt hgb
    clear ho1 hI1 hgb
    go_wp2_with fail
    refine (sDequeTiles_eq d (HS.out.1.below (by (repeat' (first | (with_reducible exact Below.refl _ _) | (with_reducible assumption) | (with_reducible refine Below.alloc ?_ ?_ _) | (with_reducible refine below_drewN ?_ _) | (with_reducible refine Below.drew ?_) | (with_reducible refine Below.setCell ?_ ?_ _) | (with_reducible refine below_call (by assumption) ?_ ?_) | (with_reducible refine below_grown (by assumption) ?_ ?_ ?_) | omega | (simp; done) | (simp; omega))))) (by omega) (Hid.out (by with_reducible assumption))).mono ?_
    rintro e wb ⟨v2, rfl, ho2, hbb'⟩
    have hzb := hbb'.size
    obtain ⟨A2, c2, rfl, _, _, hI2, _⟩ := ho2.form
    rw [HN.out] at hI2 ⊢
    have HI2 := Lib.hid hI2
    clear ho2 hI2
    go_wp2_with fail
    refine (equalInts_same c1 c2 (HI1.out.below hbb') HI2.out (by omega)).mono ?_
    rintro e wc ⟨rfl, hbc⟩
    have hzc := hbc.size
    have HIc : Hid (IsI wc A1 nt' T) := Lib.hid ((HI1.out.below hbb').below hbc)
    have Bc : Hid (Below w.heap.size w wc) := Lib.hid (by (repeat' (first | (with_reducible exact Below.refl _ _) | (with_reducible assumption) | (with_reducible refine Below.alloc ?_ ?_ _) | (with_reducible refine below_drewN ?_ _) | (with_reducible refine Below.drew ?_) | (with_reducible refine Below.setCell ?_ ?_ _) | (with_reducible refine below_call (by assumption) ?_ ?_) | (with_reducible refine below_grown (by assumption) ?_ ?_ ?_) | omega | (simp; done) | (simp; omega))))
    clear hcg
    go_wp2
    go_loop [5] (fun i => ∃ k : Nat, k ≤ nt' ∧ i = .int .i64 k) (fun i => nt' - (intOf i).toNat)
    case atStart => exact ⟨0, by omega, rfl⟩
    case round =>
      obtain ⟨k, hk, rfl⟩ := hrel
      by_cases hlt : k < nt'
      · have eb : decide ((k : Int) < nt') = true := by simp; omega
        have hki : (k : Int) < nt' := by omega
        obtain ⟨b0, o0, rfl, hbl, x0⟩ := HIc.out.at_ hlt
        have hx := HIN.out (nt T k) (by rw [nt_eq (by rw [HN.out]; exact hlt)]; exact List.getElem_mem _)
        obtain ⟨y, hy⟩ : ∃ y, nt T k = y := ⟨_, rfl⟩
        rw [hy] at x0 hx
        obtain ⟨hx0, hx1⟩ := hx
        clear hy
        have e1 : decide (y < 0) = false := decide_eq_false (by omega)
        have e2 : decide (99 < y) = false := decide_eq_false (by omega)
        go_wp2
        go_round
        case rel => exact ⟨k + 1, by omega, by go_num⟩
        case measure => simp [intOf]; omega
      · obtain rfl : k = nt' := by omega
        have eb : decide ((k : Int) < k) = false := by simp
        have e3 : decide ((k : Int) ≤ 16) = true := decide_eq_true (by omega)
        go_wp2
        go_ret
        exact ⟨rfl, Bc.out⟩

theorem FnDequeTiles_own : ownKnob Try.prog.godebug = none := by kernel_rfl
theorem FnDequeTiles_laid : laidOutB Try.prog = true := by kernel_rfl

set_option maxRecDepth 100000 in
theorem FnDequeTiles_lifted (os : Os) (started : os.Started) (H : Type) (enc : TypeId × Value → H) :
    ReturnsInHanded {} Try.checked os 4 .any (Rows.fnDequeTilesSpec.pre6 enc Try.prog Try.f4 Rows.fnDequeTilesRow.domain false) (Rows.fnDequeTilesSpec.post enc Try.prog Try.f4 false true false false) := by
  refine returnsInHanded_of_change (C := Try.checked) FnDequeTiles_own started (by kernel_rfl) Try.func4
    (ChangeSpec.witness6 (enc := enc) (C := Try.checked) false ⟨#[], #[.slice none 0 0], []⟩ 8 (by kernel_rfl) (by kernel_rfl) (by kernel_rfl) (by kernel_rfl)) ?_
  intro W base args ds gs before hval0 hW hcnd _
  have hval : ∀ (j : Nat) t v, Try.f4.params[j]? = some t → args[j]? = some v → Value.okWide Try.prog W .any base t v := hval0
  have hW' := hW
  obtain ⟨p, q, hA0, hV, rfl, hfz, hnd⟩ := hW
  have hA : DataW.TrodAll enc Try.prog W 0 (fun _ => true) true Try.f4.params.toList args.toList ds p := hA0
  rw [Try.params4] at hA hval
  obtain ⟨v0, vs0, d0, ds0, p0, q0, hargs, rfl, rfl, h0, r0⟩ := trodAll_cons hA
  obtain ⟨rfl, rfl, rfl⟩ := trodAll_nil r0
  obtain rfl : args = #[v0] := by cases args; simp_all
  obtain ⟨rfl, rfl⟩ := trodVars_none hV
  have k0 := h0
  have lt0 : ∀ x ∈ p0, x.block < W.heap.size := by obtain ⟨m, hm⟩ := k0; exact DataW.trod_lt m _ _ _ hm
  obtain ⟨a0, len0, cap0, rfl⟩ := okWide_slice Try.underlying29 (hval 0 29 v0 rfl rfl)
  have w0 := code_of Try.underlying29 Try.underlying5 (by kernel_rfl) h0
  clear hA0 hval0
  refine (FnDequeTiles_walk W _ _ _ w0).mono fun e W' ⟨he, bel⟩ => ?_
  subst he
  exact ⟨_, rfl, _, _, _, [], _, [], hW', trodAll_mk1 (shut_bool Try.underlying4 _), (trodAll_cons_mk (Below.trod FnDequeTiles_laid (by kernel_rfl) (of_decide_eq_true (by kernel_rfl)) k0 bel lt0) trodAll_mk0), rfl, bel.frame _, fun h => by cases h⟩

theorem FnDequeTiles_over : Rows.fnDequeTilesRow.holds Try.pinned (OpenSpec.ofChange Rows.fnDequeTilesSpec) :=
  OpenClaim.holds_of_wide 4 Try.f4 rfl rfl rfl rfl rfl rfl rfl ⟨rfl, rfl, rfl, rfl, rfl⟩ rfl rfl rfl rfl rfl (by kernel_rfl) Try.func4 (by kernel_rfl)
    (of_decide_eq_true (by kernel_rfl)) (by unfold Func.isWrapper; first | (rw [if_pos (by decide +kernel)]; kernel_rfl) | (rw [if_neg (by decide +kernel)]; exact ⟨rfl, rfl⟩))
    (fun os started H enc _ => FnDequeTiles_lifted os started H enc)

/-- The statement. -/
theorem FnDequeTiles_holds : Rows.FnDequeTilesSaid := FnDequeTiles_over
#print axioms FnDequeTiles_holds

end Go.Proofs.Ytclfocdghbmmlaa
