/-
  FnTilesIn holds. No condition.
-/
import Derived.Test.YtikpaebemiobpaaTIn
import Derived.Test.YtikpaebemiobpaaDrawT
import Derived.Test.YtikpaebemiobpaaCode
import Derived.Test.YtikpaebemiobpaaIntF
import Derived.Test.YtikpaebemiobpaaIsIn
import Derived.Test.YtikpaebemiobpaaBox
import Derived.ProofKit
import Derived.OpenShut
import Derived.ShutString
import Derived.ChangeOld
import Derived.Lib.SmallJoins
namespace Go.Proofs.Ytikpaebemiobpaa
open Go.RowKit Pl Go.ChangeShapes Go.WideShapes Go.ChangeAt
open Go.ChangeMaps (open_string shut_string)

set_option linter.unusedSimpArgs false
set_option linter.unusedVariables false

set_option maxRecDepth 100000 in
set_option maxHeartbeats 1000000 in
theorem FnTilesIn_walk (w : World) (A : Option Addr) (n c : Nat) (h : Code w A n c) :
    Calls Try.prog 5 #[.slice A n c] w fun e w' => e = .returned (.bool true) ∧ Below w.heap.size w w' := by
  by_cases hn : 1048576 < n
  · go_enter Try.func5, Try.ntmps5
    go_wp2
    go_ret
    exact ⟨rfl, by (repeat' (first | (with_reducible exact Below.refl _ _) | (with_reducible assumption) | (with_reducible refine Below.alloc ?_ ?_ _) | (with_reducible refine below_drewN ?_ _) | (with_reducible refine Below.drew ?_) | (with_reducible refine Below.setCell ?_ ?_ _) | (with_reducible refine below_call (by assumption) ?_ ?_) | go_size))⟩
  · go_enter Try.func5, Try.ntmps5
    go_wp2_with fail
    refine (DrawTilesIn_any (h.below (by (repeat' (first | (with_reducible exact Below.refl _ _) | (with_reducible assumption) | (with_reducible refine Below.alloc ?_ ?_ _) | (with_reducible refine below_drewN ?_ _) | (with_reducible refine Below.drew ?_) | (with_reducible refine Below.setCell ?_ ?_ _) | (with_reducible refine below_call (by assumption) ?_ ?_) | go_size))))).mono ?_
    rintro e wd ⟨l, t, r, b, x, y, rfl, hx0, hx1, hy0, hy1, hb⟩
    have hz0 := hb.size
    obtain ⟨T, hT⟩ : ∃ T, tilesR ⟨l, t, r, b⟩ x y = T := ⟨_, rfl⟩
    have H1 := Lib.hid hT
    have h9 : T.length ≤ 9 := by rw [← hT]; exact tilesR_len _ _ _
    obtain ⟨m, hm⟩ : ∃ n, T.length = n := ⟨_, rfl⟩
    have HN := Lib.hid hm
    rw [hm] at h9
    clear hT hm
    go_wp2_with fail
    refine (TilesIn_eq H1.out _).mono ?_
    rintro e wa ⟨v1, rfl, ho1, hba⟩
    have hza := hba.size
    (try simp at hza)
    obtain ⟨A1, c1, rfl, _, _, hI1, _⟩ := ho1.form
    rw [HN.out] at hI1 ⊢
    have HI1 := Lib.hid hI1
    have hka := blk_below (blk_new wd (.cells #[.int .i64 l, .int .i64 t, .int .i64 r, .int .i64 b] 26)) hba
    have hca := blk_cell hka
    have hla := blk_lt hka
    clear ho1 hI1
    go_wp2_with fail
    refine (sTilesIn_eq H1.out _).mono ?_
    rintro e wb ⟨v2, rfl, ho2, hbb⟩
    have hzb := hbb.size
    obtain ⟨A2, c2, rfl, _, _, hI2, _⟩ := ho2.form
    rw [HN.out] at hI2 ⊢
    have HI2 := Lib.hid hI2
    clear ho2 hI2
    go_wp2_with fail
    refine (equalInts_same c1 c2 (HI1.out.below hbb) HI2.out (by omega)).mono ?_
    rintro e wc ⟨rfl, hbc⟩
    have hzc := hbc.size
    have hkc := blk_below (blk_below hka hbb) hbc
    have hcc := blk_cell hkc
    have hlc := blk_lt hkc
    clear hca hla
    obtain ⟨N, hN⟩ : ∃ N, tcount x y = N := ⟨_, rfl⟩
    have HNN := Lib.hid hN
    have hNr : -1 ≤ N ∧ N ≤ 9 := by rw [← hN]; exact tcount_le _ _
    clear hN
    go_wp2_with fail
    refine (TileCount_eq HNN.out _).mono ?_
    rintro e we ⟨rfl, hbe⟩
    have hze := hbe.size
    have hke := blk_below hkc hbe
    have hce := blk_cell hke
    have hle := blk_lt hke
    clear hcc hlc
    by_cases hneg : N < 0
    · have e1 : decide (N < 0) = true := decide_eq_true hneg
      go_wp2_with fail
      refine (sTilesIn_eq H1.out _).mono ?_
      rintro e wf ⟨v3, rfl, ho3, hbf⟩
      have hzf := hbf.size
      obtain ⟨A3, c3, rfl, _, _, hI3, _⟩ := ho3.form
      rw [HN.out] at hI3 ⊢
      have HI3 := Lib.hid hI3
      clear ho3 hI3
      go_wp2_with fail
      refine (equalInts_same c1 c3 (HI1.out.below (by (repeat' (first | (with_reducible exact Below.refl _ _) | (with_reducible assumption) | (with_reducible refine Below.alloc ?_ ?_ _) | (with_reducible refine below_drewN ?_ _) | (with_reducible refine Below.drew ?_) | (with_reducible refine Below.setCell ?_ ?_ _) | (with_reducible refine below_call (by assumption) ?_ ?_) | (with_reducible refine below_grown (by assumption) ?_ ?_ ?_) | omega | (simp; done) | (simp; omega))))) HI3.out (by omega)).mono ?_
      rintro e wg ⟨rfl, hbg⟩
      go_wp2
      go_ret
      exact ⟨rfl, by (repeat' (first | (with_reducible exact Below.refl _ _) | (with_reducible assumption) | (with_reducible refine Below.alloc ?_ ?_ _) | (with_reducible refine below_drewN ?_ _) | (with_reducible refine Below.drew ?_) | (with_reducible refine Below.setCell ?_ ?_ _) | (with_reducible refine below_call (by assumption) ?_ ?_) | (with_reducible refine below_grown (by assumption) ?_ ?_ ?_) | omega | (simp; done) | (simp; omega)))⟩
    · have e1 : decide (N < 0) = false := decide_eq_false hneg
      have hs : sizedB x y = true := by
        cases e : sizedB x y
        · have := HNN.out; rw [tcount, e] at this; simp at this; omega
        · rfl
      have HS := Lib.hid hs
      cases hok : okB ⟨l, t, r, b⟩ with
      | false =>
        have HCU := Lib.hid (cut_none hok)
        clear hok
        go_wp2_with fail
        refine (CutBox_eq HCU.out _).mono ?_
        rintro e w1 ⟨rfl, hb1⟩
        have hz1 := hb1.size
        have hk1 := blk_below hke hb1
        have hc1 := blk_cell hk1
        have hl1 := blk_lt hk1
        clear hce hle
        go_wp2_with fail
        refine (sTilesIn_eq H1.out _).mono ?_
        rintro e wf ⟨v3, rfl, ho3, hbf⟩
        have hzf := hbf.size
        obtain ⟨A3, c3, rfl, _, _, hI3, _⟩ := ho3.form
        rw [HN.out] at hI3 ⊢
        have HI3 := Lib.hid hI3
        clear ho3 hI3
        go_wp2_with fail
        refine (equalInts_same c1 c3 (HI1.out.below (by (repeat' (first | (with_reducible exact Below.refl _ _) | (with_reducible assumption) | (with_reducible refine Below.alloc ?_ ?_ _) | (with_reducible refine below_drewN ?_ _) | (with_reducible refine Below.drew ?_) | (with_reducible refine Below.setCell ?_ ?_ _) | (with_reducible refine below_call (by assumption) ?_ ?_) | (with_reducible refine below_grown (by assumption) ?_ ?_ ?_) | omega | (simp; done) | (simp; omega))))) HI3.out (by omega)).mono ?_
        rintro e wg ⟨rfl, hbg⟩
        go_wp2
        go_ret
        exact ⟨rfl, by (repeat' (first | (with_reducible exact Below.refl _ _) | (with_reducible assumption) | (with_reducible refine Below.alloc ?_ ?_ _) | (with_reducible refine below_drewN ?_ _) | (with_reducible refine Below.drew ?_) | (with_reducible refine Below.setCell ?_ ?_ _) | (with_reducible refine below_call (by assumption) ?_ ?_) | (with_reducible refine below_grown (by assumption) ?_ ?_ ?_) | omega | (simp; done) | (simp; omega)))⟩
      | true =>
        have HCU := Lib.hid (cut_self hok)
        have HOK := Lib.hid hok
        have ho := okB_true.1 hok
        have E1 := fun α : Type => ite4_no (α := α) (p := l = 0) (q := t = 0) (r := r = 0) (s := b = 0) (by omega)
        obtain ⟨K, hK⟩ : ∃ K : Nat, N = (K : Int) := ⟨N.toNat, by omega⟩
        subst hK
        have hTN : tileN x y = (K : Int) := by have := HNN.out; rwa [tcount, if_pos hs] at this
        have HTN := Lib.hid hTN
        have hvb : validB ⟨l, t, r, b⟩ = true := validB_true.2 (by omega)
        have HT2 : Hid (T = tilesL ⟨l, t, r, b⟩ x y K) := Lib.hid (by rw [← H1.out, tilesR_in hvb hs, hTN, Int.toNat_natCast])
        clear hok hs hTN hvb
        go_wp2_with fail
        refine (CutBox_eq HCU.out _).mono ?_
        rintro e w1 ⟨rfl, hb1⟩
        have hz1 := hb1.size
        have hk1 := blk_below hke hb1
        have HK1 := Lib.hid hk1
        have B1 : Hid (Below w.heap.size w w1) := Lib.hid (by (repeat' (first | (with_reducible exact Below.refl _ _) | (with_reducible assumption) | (with_reducible refine Below.alloc ?_ ?_ _) | (with_reducible refine below_drewN ?_ _) | (with_reducible refine Below.drew ?_) | (with_reducible refine Below.setCell ?_ ?_ _) | (with_reducible refine below_call (by assumption) ?_ ?_) | (with_reducible refine below_grown (by assumption) ?_ ?_ ?_) | omega | (simp; done) | (simp; omega))))
        have HI1' := Lib.hid (HI1.out.below (show Below wa.heap.size wa w1 by (repeat' (first | (with_reducible exact Below.refl _ _) | (with_reducible assumption) | (with_reducible refine Below.alloc ?_ ?_ _) | (with_reducible refine below_drewN ?_ _) | (with_reducible refine Below.drew ?_) | (with_reducible refine Below.setCell ?_ ?_ _) | (with_reducible refine below_call (by assumption) ?_ ?_) | (with_reducible refine below_grown (by assumption) ?_ ?_ ?_) | omega | (simp; done) | (simp; omega)))))
        clear hce hle
        go_wp2_with fail
        (try simp only [E1])
        go_wp2
        go_loopw [7] (fun i wr => ∃ k : Nat, k ≤ K ∧ i = .int .i64 k ∧ wr.heap[wd.heap.size]? = some (.cells #[.int .i64 l, .int .i64 t, .int .i64 r, .int .i64 b] 26 (0, 0)) ∧ Below w1.heap.size w1 wr) (fun i _ => K - (intOf i).toNat)
        case atStart => exact ⟨0, by omega, rfl, HK1.out, Below.refl _ _⟩
        case round =>
          obtain ⟨k, hk, rfl, hkb, hbel⟩ := hrel
          obtain ⟨wo, rfl⟩ : ∃ wo : World, wo = wr := ⟨_, rfl⟩
          have hso := hbel.size
          have HKB := Lib.hid hkb
          have Bo : Hid (Below w.heap.size w wo) := Lib.hid (B1.out.trans (hbel.mono (by omega)))
          clear hkb
          go_wp2_with fail
          refine (TileCount_eq HNN.out _).mono ?_
          rintro e wp ⟨rfl, hbp⟩
          have hzp := hbp.size
          have hkp := blk_below HKB.out hbp
          have HKP := Lib.hid hkp
          have Bp : Hid (Below w.heap.size w wp) := Lib.hid (Bo.out.trans (hbp.mono (by omega)))
          have Bp1 : Hid (Below w1.heap.size w1 wp) := Lib.hid (hbel.trans (hbp.mono (by omega)))
          clear hkp
          by_cases hlt : k < K
          · have eb : decide ((k : Int) < K) = true := decide_eq_true (by omega)
            have hkT : (k : Int) < tileN x y := by rw [HTN.out]; omega
            have HKT := Lib.hid hkT
            have HTO : Hid (tileOk x y k = true) := Lib.hid (tileOk_true.2 ⟨HS.out, by omega, hkT⟩)
            have hval := tileB_valid HS.out (show (0 : Int) ≤ k by omega) hkT
            obtain ⟨⟨l', t', r', b'⟩, hx⟩ : ∃ z, tileB x y k = z := ⟨_, rfl⟩
            rw [hx] at hval
            have HX : Hid (tileR x y k = ⟨l', t', r', b'⟩) := Lib.hid (by rw [tileR, if_pos HTO.out, hx])
            obtain ⟨u, hu⟩ : ∃ u, tIn ⟨l, t, r, b⟩ x y k = u := ⟨_, rfl⟩
            have HIN : Hid ((T.any fun z => decide (z = (k : Int))) = u) := Lib.hid (by
              rw [HT2.out, ← hu, Bool.eq_iff_iff, List.any_eq_true]
              constructor
              · rintro ⟨z, hz, hzk⟩
                simp only [decide_eq_true_eq] at hzk
                subst hzk
                exact (tilesL_mem.1 hz).2
              · intro hh
                exact ⟨(k : Int), tilesL_mem.2 ⟨hlt, hh⟩, by simp⟩)
            obtain ⟨⟨p, q, z, v⟩, hme⟩ : ∃ z, meet ⟨l, t, r, b⟩ ⟨l', t', r', b'⟩ = z := ⟨_, rfl⟩
            have HM : Hid (cutB ⟨l, t, r, b⟩ ⟨l', t', r', b'⟩ = ⟨p, q, z, v⟩) := Lib.hid (by rw [cut_ok HOK.out hval.2, hme])
            have htm := @meet_touch ⟨l, t, r, b⟩ ⟨l', t', r', b'⟩
            rw [hme, ← hx] at htm
            change _ ↔ tIn _ _ _ _ = true at htm
            rw [hu] at htm
            have HTM := Lib.hid htm
            clear hx hu hme hval htm hkT
            go_wp2_with fail
            refine (TileBox_eq HTO.out HX.out _).mono ?_
            rintro e wq ⟨rfl, hbq⟩
            have hzq := hbq.size
            have hkq := blk_below HKP.out hbq
            have HKQ := Lib.hid hkq
            have hcq := blk_cell hkq
            have hlq := blk_lt hkq
            have HIq := Lib.hid (HI1'.out.below (show Below w1.heap.size w1 wq from Bp1.out.trans (hbq.mono (by omega))))
            have Bq : Hid (Below w.heap.size w wq) := Lib.hid (Bp.out.trans (hbq.mono (by omega)))
            have Bq1 : Hid (Below w1.heap.size w1 wq) := Lib.hid (Bp1.out.trans (hbq.mono (by omega)))
            clear hkq
            have hmm : m ≤ 1000000000000 := by omega
            cases u
            case' true =>
              have hne : ¬ (p = 0 ∧ q = 0 ∧ z = 0 ∧ v = 0) := fun e => (HTM.out.2 rfl) (by obtain ⟨rfl, rfl, rfl, rfl⟩ := e; rfl)
              have E2 := fun α : Type => ite4_no (α := α) hne
            case' false =>
              obtain ⟨rfl, rfl, rfl, rfl⟩ : p = 0 ∧ q = 0 ∧ z = 0 ∧ v = 0 := by
                by_cases e : (⟨p, q, z, v⟩ : Bx) = zero
                · rw [zero] at e; simp only [Bx.mk.injEq] at e; exact e
                · exact absurd (HTM.out.1 e) (by decide)
              have E2 := True.intro
            all_goals
              go_wp2_with fail
              apply wp_region_pure (by kernel_rfl) ([] :: [0] :: [1] :: [2] :: [2] :: [2, 3, 4] :: [2] :: [2] :: [2, 6, 7] :: [2] :: [2, 8, 9] :: [2, 5, 10] :: [2, 11] :: []) (RS.det [] _ :: RS.det [0] _ :: RS.det [1] _ :: RS.det [2] _ :: RS.det [2] _ :: RS.det [2, 3, 4] _ :: RS.det [2] _ :: RS.det [2] _ :: RS.det [2, 6, 7] _ :: RS.det [2] _ :: RS.det [2, 8, 9] _ :: RS.det [2, 5, 10] _ :: RS.det [2, 11] _ :: []) [] rfl (by kernel_rfl) (fun h => absurd rfl h) (by kernel_rfl) (by kernel_rfl) (st_det (st_det (st_det (st_det (st_det (st_det (st_det (st_det (st_det (st_det (st_det (st_det (st_det st_nil))))))))))))) _ (fun v => by simp; rfl)
              case hop =>
                simp only [Obls]
                refine ⟨?_, ?_, ?_, ?_, ?_, ?_, ?_, ?_, ?_, ?_, ?_, ?_, ?_, trivial⟩
                · (intro v w1 K hb hF hK; (try simp at hF); simp at hK; (try simp only [hF] at hK); have hz := hb.size; (try simp at hz))
                  go_simp
                  (try simp only [E2])
                  exact hK _ _ rfl (by (repeat' (first | (with_reducible exact Below.refl _ _) | (with_reducible assumption) | (with_reducible refine Below.alloc ?_ ?_ _) | (with_reducible refine below_drewN ?_ _) | (with_reducible refine Below.drew ?_) | (with_reducible refine Below.setCell ?_ ?_ _) | (with_reducible refine below_call (by assumption) ?_ ?_) | go_size)))
                · (intro v w1 K hb hF hK; (try simp at hF); simp at hK; (try simp only [hF] at hK); have hz := hb.size; (try simp at hz))
                  go_simp
                  (try simp only [E2])
                  exact hK _ _ rfl (by (repeat' (first | (with_reducible exact Below.refl _ _) | (with_reducible assumption) | (with_reducible refine Below.alloc ?_ ?_ _) | (with_reducible refine below_drewN ?_ _) | (with_reducible refine Below.drew ?_) | (with_reducible refine Below.setCell ?_ ?_ _) | (with_reducible refine below_call (by assumption) ?_ ?_) | go_size)))
                · (intro v w1 K hb hF hK; (try simp at hF); simp at hK; (try simp only [hF] at hK); have hz := hb.size; (try simp at hz))
                  go_simp
                  (try simp only [E2])
                  exact hK _ _ rfl (by (repeat' (first | (with_reducible exact Below.refl _ _) | (with_reducible assumption) | (with_reducible refine Below.alloc ?_ ?_ _) | (with_reducible refine below_drewN ?_ _) | (with_reducible refine Below.drew ?_) | (with_reducible refine Below.setCell ?_ ?_ _) | (with_reducible refine below_call (by assumption) ?_ ?_) | go_size)))
                · (intro v w1 K hb hF hK; (try simp at hF); simp at hK; (try simp only [hF] at hK); have hz := hb.size; (try simp at hz))
                  go_simp
                  (try simp only [E2])
                  exact hK _ _ rfl (by (repeat' (first | (with_reducible exact Below.refl _ _) | (with_reducible assumption) | (with_reducible refine Below.alloc ?_ ?_ _) | (with_reducible refine below_drewN ?_ _) | (with_reducible refine Below.drew ?_) | (with_reducible refine Below.setCell ?_ ?_ _) | (with_reducible refine below_call (by assumption) ?_ ?_) | go_size)))
                · (intro v w1 K hb hF hK; (try simp at hF); simp at hK; (try simp only [hF] at hK); have hz := hb.size; (try simp at hz))
                  go_simp
                  (try simp only [E2])
                  exact hK _ _ rfl (by (repeat' (first | (with_reducible exact Below.refl _ _) | (with_reducible assumption) | (with_reducible refine Below.alloc ?_ ?_ _) | (with_reducible refine below_drewN ?_ _) | (with_reducible refine Below.drew ?_) | (with_reducible refine Below.setCell ?_ ?_ _) | (with_reducible refine below_call (by assumption) ?_ ?_) | go_size)))
                · (intro v w1 K hb hF hK; (try simp at hF); simp at hK; (try simp only [hF] at hK); have hz := hb.size; (try simp at hz); (try (have hk := bcl hb (wd.heap.size) (by first | omega | (simp; done) | (simp; omega)); have hc := hk.1; have hf := hk.2.1; have hk := hk.2.2)); (try (have hk := bcl hb (wq.heap.size) (by first | omega | (simp; done) | (simp; omega)); have hc := hk.1; have hf := hk.2.1; have hk := hk.2.2)))
                  go_simp
                  (first | (go_at_call 17; (with_reducible refine (isIn_eq c1 (HIq.out.below (by (repeat' (first | (with_reducible exact Below.refl _ _) | (with_reducible assumption) | (with_reducible refine Below.alloc ?_ ?_ _) | (with_reducible refine below_drewN ?_ _) | (with_reducible refine Below.drew ?_) | (with_reducible refine Below.setCell ?_ ?_ _) | (with_reducible refine below_call (by assumption) ?_ ?_) | (with_reducible refine below_grown (by assumption) ?_ ?_ ?_) | omega | (simp; done) | (simp; omega))))) hmm HIN.out).mono ?_); rintro e w7 ⟨rfl, rfl⟩) | (go_at_call 15; (with_reducible refine (CutBox_eq HM.out _).mono ?_); rintro e w7 ⟨rfl, hb7⟩) | skip)
                  (try simp only [E2])
                  exact hK _ _ rfl (by (repeat' (first | (with_reducible exact Below.refl _ _) | (with_reducible assumption) | (with_reducible refine Below.alloc ?_ ?_ _) | (with_reducible refine below_drewN ?_ _) | (with_reducible refine Below.drew ?_) | (with_reducible refine Below.setCell ?_ ?_ _) | (with_reducible refine below_call (by assumption) ?_ ?_) | go_size)))
                · (intro v w1 K hb hF hK; (try simp at hF); simp at hK; (try simp only [hF] at hK); have hz := hb.size; (try simp at hz); (try (have hk := bcl hb (wd.heap.size) (by first | omega | (simp; done) | (simp; omega)); have hc := hk.1; have hf := hk.2.1; have hk := hk.2.2)); (try (have hk := bcl hb (wq.heap.size) (by first | omega | (simp; done) | (simp; omega)); have hc := hk.1; have hf := hk.2.1; have hk := hk.2.2)))
                  go_simp
                  (try simp only [E2])
                  exact hK _ _ rfl (by (repeat' (first | (with_reducible exact Below.refl _ _) | (with_reducible assumption) | (with_reducible refine Below.alloc ?_ ?_ _) | (with_reducible refine below_drewN ?_ _) | (with_reducible refine Below.drew ?_) | (with_reducible refine Below.setCell ?_ ?_ _) | (with_reducible refine below_call (by assumption) ?_ ?_) | go_size)))
                · (intro v w1 K hb hF hK; (try simp at hF); simp at hK; (try simp only [hF] at hK); have hz := hb.size; (try simp at hz); (try (have hk := bcl hb (wd.heap.size) (by first | omega | (simp; done) | (simp; omega)); have hc := hk.1; have hf := hk.2.1; have hk := hk.2.2)); (try (have hk := bcl hb (wq.heap.size) (by first | omega | (simp; done) | (simp; omega)); have hc := hk.1; have hf := hk.2.1; have hk := hk.2.2)))
                  go_simp
                  (try simp only [E2])
                  exact hK _ _ rfl (by (repeat' (first | (with_reducible exact Below.refl _ _) | (with_reducible assumption) | (with_reducible refine Below.alloc ?_ ?_ _) | (with_reducible refine below_drewN ?_ _) | (with_reducible refine Below.drew ?_) | (with_reducible refine Below.setCell ?_ ?_ _) | (with_reducible refine below_call (by assumption) ?_ ?_) | go_size)))
                · (intro v w1 K hb hF hK; (try simp at hF); simp at hK; (try simp only [hF] at hK); have hz := hb.size; (try simp at hz); (try (have hk := bcl hb (wd.heap.size) (by first | omega | (simp; done) | (simp; omega)); have hc := hk.1; have hf := hk.2.1; have hk := hk.2.2)); (try (have hk := bcl hb (wq.heap.size) (by first | omega | (simp; done) | (simp; omega)); have hc := hk.1; have hf := hk.2.1; have hk := hk.2.2)))
                  go_simp
                  (first | (go_at_call 17; (with_reducible refine (isIn_eq c1 (HIq.out.below (by (repeat' (first | (with_reducible exact Below.refl _ _) | (with_reducible assumption) | (with_reducible refine Below.alloc ?_ ?_ _) | (with_reducible refine below_drewN ?_ _) | (with_reducible refine Below.drew ?_) | (with_reducible refine Below.setCell ?_ ?_ _) | (with_reducible refine below_call (by assumption) ?_ ?_) | (with_reducible refine below_grown (by assumption) ?_ ?_ ?_) | omega | (simp; done) | (simp; omega))))) hmm HIN.out).mono ?_); rintro e w7 ⟨rfl, rfl⟩) | (go_at_call 15; (with_reducible refine (CutBox_eq HM.out _).mono ?_); rintro e w7 ⟨rfl, hb7⟩) | skip)
                  (try simp only [E2])
                  exact hK _ _ rfl (by (repeat' (first | (with_reducible exact Below.refl _ _) | (with_reducible assumption) | (with_reducible refine Below.alloc ?_ ?_ _) | (with_reducible refine below_drewN ?_ _) | (with_reducible refine Below.drew ?_) | (with_reducible refine Below.setCell ?_ ?_ _) | (with_reducible refine below_call (by assumption) ?_ ?_) | go_size)))
                · (intro v w1 K hb hF hK; (try simp at hF); simp at hK; (try simp only [hF] at hK); have hz := hb.size; (try simp at hz))
                  go_simp
                  (try simp only [E2])
                  exact hK _ _ rfl (by (repeat' (first | (with_reducible exact Below.refl _ _) | (with_reducible assumption) | (with_reducible refine Below.alloc ?_ ?_ _) | (with_reducible refine below_drewN ?_ _) | (with_reducible refine Below.drew ?_) | (with_reducible refine Below.setCell ?_ ?_ _) | (with_reducible refine below_call (by assumption) ?_ ?_) | go_size)))
                · (intro v w1 K hb hF hK; (try simp at hF); simp at hK; (try simp only [hF] at hK); have hz := hb.size; (try simp at hz))
                  go_simp
                  (try simp only [E2])
                  exact hK _ _ rfl (by (repeat' (first | (with_reducible exact Below.refl _ _) | (with_reducible assumption) | (with_reducible refine Below.alloc ?_ ?_ _) | (with_reducible refine below_drewN ?_ _) | (with_reducible refine Below.drew ?_) | (with_reducible refine Below.setCell ?_ ?_ _) | (with_reducible refine below_call (by assumption) ?_ ?_) | go_size)))
                · (intro v w1 K hb hF hK; (try simp at hF); simp at hK; (try simp only [hF] at hK); have hz := hb.size; (try simp at hz))
                  go_simp
                  (try simp only [E2])
                  exact hK _ _ rfl (by (repeat' (first | (with_reducible exact Below.refl _ _) | (with_reducible assumption) | (with_reducible refine Below.alloc ?_ ?_ _) | (with_reducible refine below_drewN ?_ _) | (with_reducible refine Below.drew ?_) | (with_reducible refine Below.setCell ?_ ?_ _) | (with_reducible refine below_call (by assumption) ?_ ?_) | go_size)))
                · (intro v w1 K hb hF hK; (try simp at hF); simp at hK; (try simp only [hF] at hK); have hz := hb.size; (try simp at hz))
                  go_simp
                  (try simp only [E2])
                  exact hK _ _ rfl (by (repeat' (first | (with_reducible exact Below.refl _ _) | (with_reducible assumption) | (with_reducible refine Below.alloc ?_ ?_ _) | (with_reducible refine below_drewN ?_ _) | (with_reducible refine Below.drew ?_) | (with_reducible refine Below.setCell ?_ ?_ _) | (with_reducible refine below_call (by assumption) ?_ ?_) | go_size)))
              case hfo => exact trivial
              (intro v w1 hb hF; simp [List.range, List.range.loop] at hF; have hz := hb.size; (try simp at hz); (try (have hk := bcl hb (wd.heap.size) (by first | omega | (simp; done) | (simp; omega)); have hc := hk.1; have hf := hk.2.1; have hk := hk.2.2)); (try (have hk := bcl hb (wq.heap.size) (by first | omega | (simp; done) | (simp; omega)); have hc := hk.1; have hf := hk.2.1; have hk := hk.2.2)))
              obtain ⟨e0, e1, e2, e3, e4, e5, e6, e7, e8, e9, e10, e11, e12⟩ := hF
              simp only [List.length_cons, List.length_nil, List.drop_succ_cons, List.drop_zero, e0, e1, e2, e3, e4, e5, e6, e7, e8, e9, e10, e11, e12]
              clear e0 e1 e2 e3 e4 e5 e6 e7 e8 e9 e10 e11 e12 v
              go_wp2
              go_roundw
              case rel => exact ⟨k + 1, by omega, by go_num, blk_below (blk_alloc HKQ.out _) (by assumption), (Bq1.out.alloc (by omega) _).trans (RowKit.Below.mono (by assumption) (by simp; omega))⟩
              case measure => simp [intOf]; omega
          · obtain rfl : k = K := by omega
            have eb : decide ((k : Int) < k) = false := by simp
            go_wp2
            go_ret
            exact ⟨rfl, Bp.out⟩

theorem FnTilesIn_own : ownKnob Try.prog.godebug = none := by kernel_rfl
theorem FnTilesIn_laid : laidOutB Try.prog = true := by kernel_rfl

set_option maxRecDepth 100000 in
theorem FnTilesIn_lifted (os : Os) (started : os.Started) (H : Type) (enc : TypeId × Value → H) :
    ReturnsInHanded {} Try.checked os 5 .any (Rows.fnTilesInSpec.pre6 enc Try.prog Try.f5 Rows.fnTilesInRow.domain false) (Rows.fnTilesInSpec.post enc Try.prog Try.f5 false true false false) := by
  refine returnsInHanded_of_change (C := Try.checked) FnTilesIn_own started (by kernel_rfl) Try.func5
    (ChangeSpec.witness6 (enc := enc) (C := Try.checked) false ⟨#[], #[.slice none 0 0], []⟩ 8 (by kernel_rfl) (by kernel_rfl) (by kernel_rfl) (by kernel_rfl)) ?_
  intro W base args ds gs before hval0 hW hcnd _
  have hval : ∀ (j : Nat) t v, Try.f5.params[j]? = some t → args[j]? = some v → Value.okWide Try.prog W .any base t v := hval0
  have hW' := hW
  obtain ⟨p, q, hA0, hV, rfl, hfz, hnd⟩ := hW
  have hA : DataW.TrodAll enc Try.prog W 0 (fun _ => true) true Try.f5.params.toList args.toList ds p := hA0
  rw [Try.params5] at hA hval
  obtain ⟨v0, vs0, d0, ds0, p0, q0, hargs, rfl, rfl, h0, r0⟩ := trodAll_cons hA
  obtain ⟨rfl, rfl, rfl⟩ := trodAll_nil r0
  obtain rfl : args = #[v0] := by cases args; simp_all
  obtain ⟨rfl, rfl⟩ := trodVars_none hV
  have k0 := h0
  have lt0 : ∀ x ∈ p0, x.block < W.heap.size := by obtain ⟨m, hm⟩ := k0; exact DataW.trod_lt m _ _ _ hm
  obtain ⟨a0, len0, cap0, rfl⟩ := okWide_slice Try.underlying31 (hval 0 31 v0 rfl rfl)
  have w0 := code_of Try.underlying31 Try.underlying5 (by kernel_rfl) h0
  clear hA0 hval0
  refine (FnTilesIn_walk W _ _ _ w0).mono fun e W' ⟨he, bel⟩ => ?_
  subst he
  exact ⟨_, rfl, _, _, _, [], _, [], hW', trodAll_mk1 (shut_bool Try.underlying4 _), (trodAll_cons_mk (Below.trod FnTilesIn_laid (by kernel_rfl) (of_decide_eq_true (by kernel_rfl)) k0 bel lt0) trodAll_mk0), rfl, bel.frame _, fun h => by cases h⟩

theorem FnTilesIn_over : Rows.fnTilesInRow.holds Try.pinned (OpenSpec.ofChange Rows.fnTilesInSpec) :=
  OpenClaim.holds_of_wide 5 Try.f5 rfl rfl rfl rfl rfl rfl rfl ⟨rfl, rfl, rfl, rfl, rfl⟩ rfl rfl rfl rfl rfl (by kernel_rfl) Try.func5 (by kernel_rfl)
    (of_decide_eq_true (by kernel_rfl)) (by unfold Func.isWrapper; first | (rw [if_pos (by decide +kernel)]; kernel_rfl) | (rw [if_neg (by decide +kernel)]; exact ⟨rfl, rfl⟩))
    (fun os started H enc _ => FnTilesIn_lifted os started H enc)

/-- The statement. -/
theorem FnTilesIn_holds : Rows.FnTilesInSaid := FnTilesIn_over
#print axioms FnTilesIn_holds

end Go.Proofs.Ytikpaebemiobpaa
