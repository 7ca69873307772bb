/-
  FnTilesInAll holds. No condition.
-/
import Derived.Test.YtikpaebemiobpaaTIn
import Derived.Test.YtikpaebemiobpaaDrawT
import Derived.Test.YtikpaebemiobpaaCode
import Derived.Test.YtikpaebemiobpaaIntF
import Derived.ProofKit
import Derived.OpenShut
import Derived.ShutString
import Derived.ChangeOld
import Derived.Lib.SmallJoins
namespace Go.Proofs.Ytikpaebemiobpaa
open Go.RowKit Pl Go.ChangeShapes Go.WideShapes Go.ChangeAt
open Go.ChangeMaps (open_string shut_string)

set_option linter.unusedSimpArgs false
set_option linter.unusedVariables false

set_option maxRecDepth 100000 in
set_option maxHeartbeats 1000000 in
theorem FnTilesInAll_walk (w : World) (A : Option Addr) (n c : Nat) (h : Code w A n c) :
    Calls Try.prog 4 #[.slice A n c] w fun e w' => e = .returned (.bool true) ∧ Below w.heap.size w w' := by
  by_cases hn : 1048576 < n
  · go_enter Try.func4, Try.ntmps4
    go_wp2
    go_ret
    exact ⟨rfl, by (repeat' (first | (with_reducible exact Below.refl _ _) | (with_reducible assumption) | (with_reducible refine Below.alloc ?_ ?_ _) | (with_reducible refine below_drewN ?_ _) | (with_reducible refine Below.drew ?_) | (with_reducible refine Below.setCell ?_ ?_ _) | (with_reducible refine below_call (by assumption) ?_ ?_) | go_size))⟩
  · go_enter Try.func4, Try.ntmps4
    go_wp2_with fail
    refine (DrawTilesIn_any (h.below (by (repeat' (first | (with_reducible exact Below.refl _ _) | (with_reducible assumption) | (with_reducible refine Below.alloc ?_ ?_ _) | (with_reducible refine below_drewN ?_ _) | (with_reducible refine Below.drew ?_) | (with_reducible refine Below.setCell ?_ ?_ _) | (with_reducible refine below_call (by assumption) ?_ ?_) | go_size))))).mono ?_
    rintro e wd ⟨l, t, r, b, x, y, rfl, hx0, hx1, hy0, hy1, hb⟩
    have hz0 := hb.size
    obtain ⟨T, hT⟩ : ∃ T, tilesR ⟨l, t, r, b⟩ x y = T := ⟨_, rfl⟩
    have H1 := Lib.hid hT
    have h9 : T.length ≤ 9 := by rw [← hT]; exact tilesR_len _ _ _
    obtain ⟨m, hm⟩ : ∃ n, T.length = n := ⟨_, rfl⟩
    have HN := Lib.hid hm
    rw [hm] at h9
    clear hT hm
    go_wp2_with fail
    refine (TilesIn_eq H1.out _).mono ?_
    rintro e wa ⟨v1, rfl, ho1, hba⟩
    have hza := hba.size
    (try simp at hza)
    obtain ⟨A1, c1, rfl, _, _, hI1, _⟩ := ho1.form
    rw [HN.out] at hI1 ⊢
    have HI1 := Lib.hid hI1
    have hka := blk_below (blk_new wd (.cells #[.int .i64 l, .int .i64 t, .int .i64 r, .int .i64 b] 26)) hba
    have hca := blk_cell hka
    have hla := blk_lt hka
    clear ho1 hI1
    go_wp2_with fail
    refine (sTilesIn_eq H1.out _).mono ?_
    rintro e wb ⟨v2, rfl, ho2, hbb⟩
    have hzb := hbb.size
    obtain ⟨A2, c2, rfl, _, _, hI2, _⟩ := ho2.form
    rw [HN.out] at hI2 ⊢
    have HI2 := Lib.hid hI2
    clear ho2 hI2
    go_wp2_with fail
    refine (equalInts_same c1 c2 (HI1.out.below hbb) HI2.out (by omega)).mono ?_
    rintro e wc ⟨rfl, hbc⟩
    have hzc := hbc.size
    have hkc := blk_below (blk_below hka hbb) hbc
    have hcc := blk_cell hkc
    have hlc := blk_lt hkc
    clear hca hla
    obtain ⟨N, hN⟩ : ∃ N, tcount x y = N := ⟨_, rfl⟩
    have HNN := Lib.hid hN
    have hNr : -1 ≤ N ∧ N ≤ 9 := by rw [← hN]; exact tcount_le _ _
    clear hN
    go_wp2_with fail
    refine (TileCount_eq HNN.out _).mono ?_
    rintro e we ⟨rfl, hbe⟩
    have hze := hbe.size
    have hke := blk_below hkc hbe
    have hce := blk_cell hke
    have hle := blk_lt hke
    clear hcc hlc
    by_cases hneg : N < 0
    · have e1 : decide (N < 0) = true := decide_eq_true hneg
      go_wp2_with fail
      refine (sTilesIn_eq H1.out _).mono ?_
      rintro e wf ⟨v3, rfl, ho3, hbf⟩
      have hzf := hbf.size
      obtain ⟨A3, c3, rfl, _, _, hI3, _⟩ := ho3.form
      rw [HN.out] at hI3 ⊢
      have HI3 := Lib.hid hI3
      clear ho3 hI3
      go_wp2_with fail
      refine (equalInts_same c1 c3 (HI1.out.below (by (repeat' (first | (with_reducible exact Below.refl _ _) | (with_reducible assumption) | (with_reducible refine Below.alloc ?_ ?_ _) | (with_reducible refine below_drewN ?_ _) | (with_reducible refine Below.drew ?_) | (with_reducible refine Below.setCell ?_ ?_ _) | (with_reducible refine below_call (by assumption) ?_ ?_) | (with_reducible refine below_grown (by assumption) ?_ ?_ ?_) | omega | (simp; done) | (simp; omega))))) HI3.out (by omega)).mono ?_
      rintro e wg ⟨rfl, hbg⟩
      go_wp2
      go_ret
      exact ⟨rfl, by (repeat' (first | (with_reducible exact Below.refl _ _) | (with_reducible assumption) | (with_reducible refine Below.alloc ?_ ?_ _) | (with_reducible refine below_drewN ?_ _) | (with_reducible refine Below.drew ?_) | (with_reducible refine Below.setCell ?_ ?_ _) | (with_reducible refine below_call (by assumption) ?_ ?_) | (with_reducible refine below_grown (by assumption) ?_ ?_ ?_) | omega | (simp; done) | (simp; omega)))⟩
    · have e1 : decide (N < 0) = false := decide_eq_false hneg
      have hs : sizedB x y = true := by
        cases e : sizedB x y
        · have := HNN.out; rw [tcount, e] at this; simp at this; omega
        · rfl
      have HS := Lib.hid hs
      obtain ⟨K, hK⟩ : ∃ K : Nat, N = (K : Int) := ⟨N.toNat, by omega⟩
      subst hK
      have hTN : tileN x y = (K : Int) := by have := HNN.out; rwa [tcount, if_pos hs] at this
      have hK9 : K ≤ 9 := by omega
      have hall : tilesR ⟨0, 0, x, y⟩ x y = (List.range K).map fun k : Nat => (k : Int) := by
        obtain ⟨a1, a2, b1, b2⟩ := sizedB_true.1 hs
        rw [tilesR_in (validB_true.2 (by omega)) hs, hTN, Int.toNat_natCast]
        exact all_tiles hs (by rw [hTN]; exact Int.le_refl _)
      have hmK : m ≤ K := by
        rw [← HN.out, ← H1.out]
        cases h1 : validB ⟨l, t, r, b⟩
        · rw [tilesR_out1 h1]; exact Nat.zero_le _
        · rw [tilesR_in h1 hs, hTN, Int.toNat_natCast]; exact tilesL_len _ _ _ _
      obtain ⟨R, hR⟩ : ∃ R, ((List.range K).map fun k : Nat => (k : Int)) = R := ⟨_, rfl⟩
      have hRl : R.length = K := by rw [← hR]; simp
      have hRn : ∀ k, k < K → nt R k = (k : Int) := fun k hk => by rw [← hR]; simp [nt, hk]
      rw [hR] at hall
      have HA := Lib.hid hall
      have HRl := Lib.hid hRl
      have HRn := Lib.hid hRn
      have e2 : decide ((m : Int) ≤ K) = true := decide_eq_true (by omega)
      clear hs hTN hall hR hRl hRn
      go_wp2_with fail
      refine (TilesIn_eq HA.out _).mono ?_
      rintro e wf ⟨v3, rfl, ho3, hbf⟩
      have hzf := hbf.size
      obtain ⟨A3, c3, rfl, _, _, hI3, _⟩ := ho3.form
      rw [HRl.out] at hI3 ⊢
      have HI3 := Lib.hid hI3
      have Bf : Hid (Below w.heap.size w wf) := Lib.hid (by (repeat' (first | (with_reducible exact Below.refl _ _) | (with_reducible assumption) | (with_reducible refine Below.alloc ?_ ?_ _) | (with_reducible refine below_drewN ?_ _) | (with_reducible refine Below.drew ?_) | (with_reducible refine Below.setCell ?_ ?_ _) | (with_reducible refine below_call (by assumption) ?_ ?_) | (with_reducible refine below_grown (by assumption) ?_ ?_ ?_) | omega | (simp; done) | (simp; omega))))
      clear ho3 hI3 hce hle
      go_wp2
      go_loop [8] (fun i => ∃ k : Nat, k ≤ K ∧ i = .int .i64 k) (fun i => K - (intOf i).toNat)
      case atStart => exact ⟨0, by omega, rfl⟩
      case round =>
        obtain ⟨k, hk, rfl⟩ := hrel
        by_cases hlt : k < K
        · have eb : decide ((k : Int) < K) = true := by simp; omega
          have hki : (k : Int) < K := by omega
          obtain ⟨b0, o0, rfl, hbl, x0⟩ := HI3.out.at_ hlt
          rw [HRn.out k hlt] at x0
          go_wp2
          go_round
          case rel => exact ⟨k + 1, by omega, by go_num⟩
          case measure => simp [intOf]; omega
        · obtain rfl : k = K := by omega
          have eb : decide ((k : Int) < k) = false := by simp
          go_wp2_with fail
          refine (TileCount_eq HNN.out _).mono ?_
          rintro e wg ⟨rfl, hbg⟩
          have Bg : Hid (Below w.heap.size w wg) := Lib.hid (Bf.out.trans (hbg.mono (by omega)))
          go_wp2
          go_ret
          exact ⟨rfl, Bg.out⟩

theorem FnTilesInAll_own : ownKnob Try.prog.godebug = none := by kernel_rfl
theorem FnTilesInAll_laid : laidOutB Try.prog = true := by kernel_rfl

set_option maxRecDepth 100000 in
theorem FnTilesInAll_lifted (os : Os) (started : os.Started) (H : Type) (enc : TypeId × Value → H) :
    ReturnsInHanded {} Try.checked os 4 .any (Rows.fnTilesInAllSpec.pre6 enc Try.prog Try.f4 Rows.fnTilesInAllRow.domain false) (Rows.fnTilesInAllSpec.post enc Try.prog Try.f4 false true false false) := by
  refine returnsInHanded_of_change (C := Try.checked) FnTilesInAll_own started (by kernel_rfl) Try.func4
    (ChangeSpec.witness6 (enc := enc) (C := Try.checked) false ⟨#[], #[.slice none 0 0], []⟩ 8 (by kernel_rfl) (by kernel_rfl) (by kernel_rfl) (by kernel_rfl)) ?_
  intro W base args ds gs before hval0 hW hcnd _
  have hval : ∀ (j : Nat) t v, Try.f4.params[j]? = some t → args[j]? = some v → Value.okWide Try.prog W .any base t v := hval0
  have hW' := hW
  obtain ⟨p, q, hA0, hV, rfl, hfz, hnd⟩ := hW
  have hA : DataW.TrodAll enc Try.prog W 0 (fun _ => true) true Try.f4.params.toList args.toList ds p := hA0
  rw [Try.params4] at hA hval
  obtain ⟨v0, vs0, d0, ds0, p0, q0, hargs, rfl, rfl, h0, r0⟩ := trodAll_cons hA
  obtain ⟨rfl, rfl, rfl⟩ := trodAll_nil r0
  obtain rfl : args = #[v0] := by cases args; simp_all
  obtain ⟨rfl, rfl⟩ := trodVars_none hV
  have k0 := h0
  have lt0 : ∀ x ∈ p0, x.block < W.heap.size := by obtain ⟨m, hm⟩ := k0; exact DataW.trod_lt m _ _ _ hm
  obtain ⟨a0, len0, cap0, rfl⟩ := okWide_slice Try.underlying31 (hval 0 31 v0 rfl rfl)
  have w0 := code_of Try.underlying31 Try.underlying5 (by kernel_rfl) h0
  clear hA0 hval0
  refine (FnTilesInAll_walk W _ _ _ w0).mono fun e W' ⟨he, bel⟩ => ?_
  subst he
  exact ⟨_, rfl, _, _, _, [], _, [], hW', trodAll_mk1 (shut_bool Try.underlying4 _), (trodAll_cons_mk (Below.trod FnTilesInAll_laid (by kernel_rfl) (of_decide_eq_true (by kernel_rfl)) k0 bel lt0) trodAll_mk0), rfl, bel.frame _, fun h => by cases h⟩

theorem FnTilesInAll_over : Rows.fnTilesInAllRow.holds Try.pinned (OpenSpec.ofChange Rows.fnTilesInAllSpec) :=
  OpenClaim.holds_of_wide 4 Try.f4 rfl rfl rfl rfl rfl rfl rfl ⟨rfl, rfl, rfl, rfl, rfl⟩ rfl rfl rfl rfl rfl (by kernel_rfl) Try.func4 (by kernel_rfl)
    (of_decide_eq_true (by kernel_rfl)) (by unfold Func.isWrapper; first | (rw [if_pos (by decide +kernel)]; kernel_rfl) | (rw [if_neg (by decide +kernel)]; exact ⟨rfl, rfl⟩))
    (fun os started H enc _ => FnTilesInAll_lifted os started H enc)

/-- The statement. -/
theorem FnTilesInAll_holds : Rows.FnTilesInAllSaid := FnTilesInAll_over
#print axioms FnTilesInAll_holds

end Go.Proofs.Ytikpaebemiobpaa
