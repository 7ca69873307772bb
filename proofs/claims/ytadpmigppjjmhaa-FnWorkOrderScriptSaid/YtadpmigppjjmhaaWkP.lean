/-
  The order of work by the reference.
-/
import Derived.Test.YtadpmigppjjmhaaWkR
import Derived.Test.YtadpmigppjjmhaaPlW5
import Derived.Test.YtadpmigppjjmhaaRegQ
namespace Go.Proofs.Ytadpmigppjjmhaa
open Go.RowKit Pl

set_option linter.unusedSimpArgs false
set_option linter.unusedVariables false

theorem done_info : (Try.prog.info? 30).map (fun i => (i.zero, i.size, i.bytes)) = some (some (.agg #[.int .i64 0, .int .i64 0]), 2, 16) := by kernel_rfl

/-- The order of work comes back. -/
def RetW (script : List Tn) (count ws : Int) (w : World) (e : Ending) (w' : World) : Prop :=
  ∃ (A : Option Addr) (c : Nat) (L : List Tn), e = .returned (.slice A L.length c) ∧ IsPts w' A L.length L ∧ WorkIs script count ws L ∧ L.length ≤ c ∧ c ≤ maxLen ∧ Below w.heap.size w w'
/-- A turn in a block. -/
structure TnB (i j : Nat) (gt : Nat) (wo w : World) : Prop where
  at_ : w.heap[gt]? = some (.cells #[.int .i64 (i : Int), .int .i64 (j : Int)] 33 (0, 0))
  bel : Below wo.heap.size wo w
theorem px_script {l : List Tn} {k : Nat} {a b : Int} (h : l.getD k (0, 0) = (a, b)) : px l k = a ∧ py l k = b := by
  unfold px py; rw [h]; exact ⟨rfl, rfl⟩

set_option maxRecDepth 100000 in
set_option maxHeartbeats 4000000 in
theorem run_any {count ws m : Nat} {script : List Tn} {AS : Option Addr} {w : World} (cs : Nat) (hs : IsPts w AS m script) (hwk : wOk script ws = true) (h16 : count ≤ 16) :
    Calls Try.prog 16 #[.int .i64 (count : Int), .int .i64 (ws : Int), .slice AS m cs] w (RetW script count ws w) := by
  obtain ⟨⟨h1, h4, h30⟩, _⟩ := wOk_parts hwk
  have h1 : 1 ≤ ws := by omega
  have h4 : ws ≤ 4 := by omega
  have hsl := hs.1
  rw [hsl] at h30
  have HS := Lib.hid hs
  have HSL := Lib.hid hsl
  have HW := Lib.hid hwk
  clear hs hsl hwk
  have E0 : Hid (OwnC 30 w.heap.size (w.alloc (.cells #[] 30)) (.slice (some ⟨w.heap.size, 0, none⟩) 0 0) []) := Lib.hid (OwnC.empty rfl (Nat.le_refl _) (by (repeat' (first | (with_reducible assumption) | (with_reducible exact blk_new _ _) | (with_reducible exact blk_new1 _ _ _) | (with_reducible exact blk_new2 _ _ _ _) | (with_reducible refine blk_alloc ?_ _) | (with_reducible refine blk_drewN ?_ _) | (with_reducible refine blk_down (by assumption) ?_) | (with_reducible refine blk_up (by assumption) (by omega) ?_) | (with_reducible refine blk_far ?_ _ (by simp; omega))))))
  go_enter Try.func16, Try.ntmps16
  go_wp2_with fail
  refine (start_any h1 h4 h16 (r := some w.heap.size) _ (fun b hb => by cases hb; simp)).mono ?_
  rintro e w1 ⟨g0, c0, ds0, rfl, hq0, hall0, hlen0, hmap0, hc01, hc02, hg0, hb0⟩
  have hz0 := hb0.size
  simp at hz0
  have HQ0 := Lib.hid hq0
  have HM0 := Lib.hid hmap0
  have HA0 := Lib.hid hall0
  have HL0 := Lib.hid hlen0
  have HB0 := Lib.hid hb0
  clear hq0 hmap0 hall0 hlen0 hb0
  have hm0 : ¬ ws = 0 := by omega
  go_wp2
  go_loopw [7, 8, 9] (fun v u i wr => ∃ (k g c : Nat) (ds : List Dq), u = .slice (some ⟨g, 0, none⟩) ws c ∧ i = .int .i64 (k : Int) ∧ OwnC 30 w.heap.size wr v (runW script count ws k).out ∧ HasQs wr g ds v.ownBlock ∧ AllD ds ∧ ds.length = ws ∧ ds.map tilesD = (runW script count ws k).qs ∧ ws ≤ c ∧ c ≤ maxLen ∧ w.heap.size ≤ g ∧ RunOk script count ws k ∧ Below w.heap.size w wr) (fun _ _ i _ => measW script count ws (intOf i).toNat (runW script count ws (intOf i).toNat))
  case atStart => exact ⟨0, g0, c0, ds0, rfl, rfl, E0.out.below HB0.out, HQ0.out, HA0.out, HL0.out, HM0.out, hc01, hc02, by simp at hg0; omega, RunOk.zero HW.out h16, by have hb0 := HB0.out; (repeat' (first | (with_reducible exact Below.refl _ _) | (with_reducible assumption) | (with_reducible refine Below.alloc ?_ ?_ _) | (with_reducible refine below_drewN ?_ _) | (with_reducible refine Below.drew ?_) | (with_reducible refine Below.setCell ?_ ?_ _) | (with_reducible refine below_call (by assumption) ?_ ?_) | (with_reducible refine below_grown (by assumption) ?_ ?_ ?_) | omega | (simp; done) | (simp; omega)))⟩
  case round =>
    obtain ⟨wo, rfl⟩ : ∃ wo : World, wo = wr := ⟨_, rfl⟩
    obtain ⟨k, g, c, ds, rfl, rfl, hown, hq, hall, hlen, hmap, hc1, hc2, hg, hrun, hbel⟩ := hrel
    have hsz := hbel.size
    have hnear := hrun.near
    have hgl := hq.lt
    obtain ⟨L, hL⟩ : ∃ L, (runW script count ws k).out = L := ⟨_, rfl⟩
    rw [hL] at hown
    obtain ⟨A1, c1, rfl, hI1, hc11, hc12, hA1⟩ := hown.form
    obtain ⟨N, hN⟩ : ∃ N, L.length = N := ⟨_, rfl⟩
    rw [hN] at hown hI1 hq hc11 ⊢
    have hNc : N ≤ count := by rw [← hN, ← hL]; exact hrun.len.2
    have HO := Lib.hid hown
    have HQ := Lib.hid hq
    have HA := Lib.hid hall
    have HL := Lib.hid hlen
    have HM := Lib.hid hmap
    have HR := Lib.hid hrun
    have HB := Lib.hid hbel
    have HI1 := Lib.hid hI1
    have HLL := Lib.hid hL
    have HN := Lib.hid hN
    clear hown hq hall hlen hmap hrun hbel E0 HQ0 HM0 HA0 HL0 HB0 hI1 hL hN
    by_cases hlt : N < count
    · have eb : decide ((N : Int) < count) = true := decide_eq_true (by omega)
      have hNi : (N : Int) < count := by omega
      obtain ⟨i, j, hij, hi, hj⟩ := turn_nat HW.out k
      obtain ⟨⟨ds', x⟩, hT⟩ : ∃ y, turnD ds ((i : Int), (j : Int)) = y := ⟨_, rfl⟩
      have HT := Lib.hid hT
      have HIJ := Lib.hid hij
      have HST := Lib.hid (step_ref HA.out HM.out hij (by rw [HL.out]; simp only; omega) (by rw [HL.out]; simp only; omega) hT)
      have HR1 := Lib.hid (HR.out.next HW.out (by rw [HLL.out, HN.out]; exact hlt))
      have e1 : IntKind.i64.wrap ((k : Int) + 1) = (k : Int) + 1 := IntWalk.i64_in _ (by omega)
      clear hT hij
      by_cases hks : k < m
      · have eks : decide ((k : Int) < m) = true := decide_eq_true (by omega)
        have hksi : (k : Int) < m := by omega
        obtain ⟨r1, hr1⟩ : ∃ r, Int.tmod (k : Int) (ws : Int) = r := ⟨_, rfl⟩
        obtain ⟨r2, hr2⟩ : ∃ r, Int.tmod ((k : Int) + 1) (ws : Int) = r := ⟨_, rfl⟩
        obtain ⟨b, o, hAS, hbl, x0, x1⟩ := (HS.out.below HB.out).at_ hks
        have hp := HIJ.out
        rw [turn_script (by rw [HSL.out]; exact hks)] at hp
        rw [(px_script hp).1] at x0
        rw [(px_script hp).2] at x1
        subst hAS
        clear hp
        go_wp2_with fail
        apply wp_region_pure (by kernel_rfl) ([] :: [] :: [0, 1] :: [] :: [3] :: [] :: [4, 5] :: [2, 6] :: [] :: []) (RS.det [] _ :: RS.det [] _ :: RS.det [0, 1] _ :: RS.det [] _ :: RS.det [3] _ :: RS.det [] _ :: RS.det [4, 5] _ :: RS.det [2, 6] _ :: RS.box [] _ #[.int .i64 0, .int .i64 0] 33 :: []) [] rfl (by kernel_rfl) (fun h => absurd rfl h) (by kernel_rfl) (by kernel_rfl) (st_det (st_det (st_det (st_det (st_det (st_det (st_det (st_det (st_box st_nil))))))))) _ (fun v => by simp; rfl)
        case hop =>
          simp only [Obls]
          refine ⟨?_, ?_, ?_, ?_, ?_, ?_, ?_, ?_, ?_, trivial⟩
          · (intro v w1 K hb hF hK; (try simp at hF); simp at hK; (try simp only [hF] at hK); have hz := hb.size; (try simp at hz))
            go_simp
            (try simp only [])
            exact hK _ _ rfl (by (repeat' (first | (with_reducible exact Below.refl _ _) | (with_reducible assumption) | (with_reducible refine Below.alloc ?_ ?_ _) | (with_reducible refine below_drewN ?_ _) | (with_reducible refine Below.drew ?_) | (with_reducible refine Below.setCell ?_ ?_ _) | (with_reducible refine below_call (by assumption) ?_ ?_) | go_size)))
          · (intro v w1 K hb hF hK; (try simp at hF); simp at hK; (try simp only [hF] at hK); have hz := hb.size; (try simp at hz))
            go_simp
            (try simp only [])
            exact hK _ _ rfl (by (repeat' (first | (with_reducible exact Below.refl _ _) | (with_reducible assumption) | (with_reducible refine Below.alloc ?_ ?_ _) | (with_reducible refine below_drewN ?_ _) | (with_reducible refine Below.drew ?_) | (with_reducible refine Below.setCell ?_ ?_ _) | (with_reducible refine below_call (by assumption) ?_ ?_) | go_size)))
          · (intro v w1 K hb hF hK; (try simp at hF); simp at hK; (try simp only [hF] at hK); have hz := hb.size; (try simp at hz))
            go_simp
            (try simp only [])
            exact hK _ _ rfl (by (repeat' (first | (with_reducible exact Below.refl _ _) | (with_reducible assumption) | (with_reducible refine Below.alloc ?_ ?_ _) | (with_reducible refine below_drewN ?_ _) | (with_reducible refine Below.drew ?_) | (with_reducible refine Below.setCell ?_ ?_ _) | (with_reducible refine below_call (by assumption) ?_ ?_) | go_size)))
          · (intro v w1 K hb hF hK; (try simp at hF); simp at hK; (try simp only [hF] at hK); have hz := hb.size; (try simp at hz))
            go_simp
            (try simp only [])
            exact hK _ _ rfl (by (repeat' (first | (with_reducible exact Below.refl _ _) | (with_reducible assumption) | (with_reducible refine Below.alloc ?_ ?_ _) | (with_reducible refine below_drewN ?_ _) | (with_reducible refine Below.drew ?_) | (with_reducible refine Below.setCell ?_ ?_ _) | (with_reducible refine below_call (by assumption) ?_ ?_) | go_size)))
          · (intro v w1 K hb hF hK; (try simp at hF); simp at hK; (try simp only [hF] at hK); have hz := hb.size; (try simp at hz))
            go_simp
            (try simp only [])
            exact hK _ _ rfl (by (repeat' (first | (with_reducible exact Below.refl _ _) | (with_reducible assumption) | (with_reducible refine Below.alloc ?_ ?_ _) | (with_reducible refine below_drewN ?_ _) | (with_reducible refine Below.drew ?_) | (with_reducible refine Below.setCell ?_ ?_ _) | (with_reducible refine below_call (by assumption) ?_ ?_) | go_size)))
          · (intro v w1 K hb hF hK; (try simp at hF); simp at hK; (try simp only [hF] at hK); have hz := hb.size; (try simp at hz))
            go_simp
            (try simp only [])
            exact hK _ _ rfl (by (repeat' (first | (with_reducible exact Below.refl _ _) | (with_reducible assumption) | (with_reducible refine Below.alloc ?_ ?_ _) | (with_reducible refine below_drewN ?_ _) | (with_reducible refine Below.drew ?_) | (with_reducible refine Below.setCell ?_ ?_ _) | (with_reducible refine below_call (by assumption) ?_ ?_) | go_size)))
          · (intro v w1 K hb hF hK; (try simp at hF); simp at hK; (try simp only [hF] at hK); have hz := hb.size; (try simp at hz))
            go_simp
            (try simp only [])
            exact hK _ _ rfl (by (repeat' (first | (with_reducible exact Below.refl _ _) | (with_reducible assumption) | (with_reducible refine Below.alloc ?_ ?_ _) | (with_reducible refine below_drewN ?_ _) | (with_reducible refine Below.drew ?_) | (with_reducible refine Below.setCell ?_ ?_ _) | (with_reducible refine below_call (by assumption) ?_ ?_) | go_size)))
          · (intro v w1 K hb hF hK; (try simp at hF); simp at hK; (try simp only [hF] at hK); have hz := hb.size; (try simp at hz))
            go_simp
            (try simp only [])
            exact hK _ _ rfl (by (repeat' (first | (with_reducible exact Below.refl _ _) | (with_reducible assumption) | (with_reducible refine Below.alloc ?_ ?_ _) | (with_reducible refine below_drewN ?_ _) | (with_reducible refine Below.drew ?_) | (with_reducible refine Below.setCell ?_ ?_ _) | (with_reducible refine below_call (by assumption) ?_ ?_) | go_size)))
          · (intro v w1 K hb hF hK; (try simp at hF); simp at hK; (try simp only [hF] at hK); have hz := hb.size; (try simp at hz))
            go_simp
            (try simp only [])
            exact hK _ _ (isBox_new _ _ hb.size) (by (repeat' (first | (with_reducible exact Below.refl _ _) | (with_reducible assumption) | (with_reducible refine Below.alloc ?_ ?_ _) | (with_reducible refine below_drewN ?_ _) | (with_reducible refine Below.drew ?_) | (with_reducible refine Below.setCell ?_ ?_ _) | (with_reducible refine below_call (by assumption) ?_ ?_) | go_size)))
        case hfo => exact trivial
        (intro v w1 hb hF; simp [List.range, List.range.loop] at hF; have hz := hb.size; (try simp at hz); (try (have hk := bcl hb (b) (by first | omega | (simp; done) | (simp; omega)); have hc := hk.1; have hf := hk.2.1; have hk := hk.2.2)))
        obtain ⟨e0, e1, e2, e3, e4, e5, e6, e7, gt, e8, hgt, hgts, hgtb⟩ := hF
        simp only [List.length_cons, List.length_nil, List.drop_succ_cons, List.drop_zero, e0, e1, e2, e3, e4, e5, e6, e7, e8]
        clear e0 e1 e2 e3 e4 e5 e6 e7 e8 v
        have hcgt := blk_cell hgtb; have hfgt := blk_free hgtb; have Hgt := Lib.hid hgtb; clear hgtb; (try simp at hgt)
        have hz8 := hb.size
        have HB8 := Lib.hid hb
        have hW := blk_set2 (blk_set2 Hgt.out (.int .i64 r1) (.int .i64 r2)) (.int .i64 (i : Int)) (.int .i64 (j : Int))
        have hcp0 := blk_cell hW 0
        have hcp1 := blk_cell hW 1
        simp only [List.getElem?_toArray, List.getElem?_cons_zero, List.getElem?_cons_succ] at hcp0 hcp1
        have KP : Hid (TnB i j gt wo ((((w1.setCell ⟨gt, 0, none⟩ (.int .i64 r1)).setCell ⟨gt, 1, none⟩ (.int .i64 r2)).setCell ⟨gt, 0, none⟩ (.int .i64 (i : Int))).setCell ⟨gt, 1, none⟩ (.int .i64 (j : Int)))) := Lib.hid ⟨hW, by (repeat' (first | (with_reducible exact Below.refl _ _) | (with_reducible assumption) | (with_reducible refine Below.alloc ?_ ?_ _) | (with_reducible refine below_drewN ?_ _) | (with_reducible refine Below.drew ?_) | (with_reducible refine Below.setCell ?_ ?_ _) | (with_reducible refine below_call (by assumption) ?_ ?_) | (with_reducible refine below_grown (by assumption) ?_ ?_ ?_) | omega | (simp; done) | (simp; omega)))⟩
        clear hb hW
        go_wp2_with fail
        generalize ((((w1.setCell ⟨gt, 0, none⟩ (.int .i64 r1)).setCell ⟨gt, 1, none⟩ (.int .i64 r2)).setCell ⟨gt, 0, none⟩ (.int .i64 (i : Int))).setCell ⟨gt, 1, none⟩ (.int .i64 (j : Int))) = w4 at KP ⊢
        clear hcp0 hcp1
        have hb4 := KP.out.bel
        have hz4 := hb4.size
        have hbt := KP.out.at_
        have hlt4 := blk_lt hbt
        refine (turn_any (HQ.out.below hb4) (fun b hb => by have := (HO.out.row b hb).2; omega) HA.out HL.out h4 hi hj HT.out).mono ?_
        rintro e w5 ⟨g5, c5, rfl, hlen5, hq5, hc51, hc52, hg5, hb5⟩
        have hz5 := hb5.size
        have hbt5 := blk_below hbt hb5
        have hct := blk_cell hbt5
        have hft := blk_free hbt5
        have hlt5 := blk_lt hbt5
        have HQ5 := Lib.hid hq5
        have hb45 : Below wo.heap.size wo w5 := by (repeat' (first | (with_reducible exact Below.refl _ _) | (with_reducible assumption) | (with_reducible refine Below.alloc ?_ ?_ _) | (with_reducible refine below_drewN ?_ _) | (with_reducible refine Below.drew ?_) | (with_reducible refine Below.setCell ?_ ?_ _) | (with_reducible refine below_call (by assumption) ?_ ?_) | (with_reducible refine below_grown (by assumption) ?_ ?_ ?_) | omega | (simp; done) | (simp; omega)))
        have HB45 := Lib.hid hb45
        clear hq5 hbt hbt5 hb4 hb5 hb45 KP
        by_cases hx : 0 ≤ x
        · have eb3 : decide (0 ≤ x) = true := decide_eq_true hx
          have HS4 : Hid ((runW script count ws (k + 1)).out = L ++ [((i : Int), x)]) := Lib.hid (by rw [HST.out.2.2.2, if_pos hx, HLL.out])
          go_wp2_with (at_builtin
                       refine append_c rfl (.tmp 48) (.tmp 53) 30 26 Try.underlying26 done_info rfl w.heap.size _ L rfl (HO.out.below (by have hb45 := HB45.out; (repeat' (first | (with_reducible exact Below.refl _ _) | (with_reducible assumption) | (with_reducible refine Below.alloc ?_ ?_ _) | (with_reducible refine below_drewN ?_ _) | (with_reducible refine Below.drew ?_) | (with_reducible refine Below.setCell ?_ ?_ _) | (with_reducible refine below_call (by assumption) ?_ ?_) | (with_reducible refine below_grown (by assumption) ?_ ?_ ?_) | omega | (simp; done) | (simp; omega))))) _ 1 _ _ _ rfl (by (repeat' (first | (with_reducible assumption) | (with_reducible exact blk_new _ _) | (with_reducible exact blk_new1 _ _ _) | (with_reducible exact blk_new2 _ _ _ _) | (with_reducible refine blk_alloc ?_ _) | (with_reducible refine blk_drewN ?_ _) | (with_reducible refine blk_down (by assumption) ?_) | (with_reducible refine blk_up (by assumption) (by omega) ?_) | (with_reducible refine blk_far ?_ _ (by simp; omega))))) (by rw [HN.out]; omega) (by simp; omega) ?_
                       intro v6 w6 hown6 hg6 hat6)
          go_roundw
          case rel =>
            have hrow : ∀ g, (Value.slice A1 N c1).ownBlock = some g → w.heap.size ≤ g ∧ g < wo.heap.size := HO.out.row
            refine ⟨k + 1, g5, c5, ds', by rfl, congrArg (Value.int .i64) (by push_cast; omega), by rw [HS4.out]; exact hown6, ?_, HST.out.1, by rw [HST.out.2.1]; exact HL.out, HST.out.2.2.1, hc51, hc52, by omega, HR1.out.1, below_own hg6 (by have hb45 := HB45.out; have hb := HB.out; (repeat' (first | (with_reducible exact Below.refl _ _) | (with_reducible assumption) | (with_reducible refine Below.alloc ?_ ?_ _) | (with_reducible refine below_drewN ?_ _) | (with_reducible refine Below.drew ?_) | (with_reducible refine Below.setCell ?_ ?_ _) | (with_reducible refine below_call (by assumption) ?_ ?_) | (with_reducible refine below_grown (by assumption) ?_ ?_ ?_) | omega | (simp; done) | (simp; omega)))) (by simp; omega) (fun g hg => (hrow g hg).1)⟩
            exact HasQs.app (HQ5.out.below (by (repeat' (first | (with_reducible exact Below.refl _ _) | (with_reducible assumption) | (with_reducible refine Below.alloc ?_ ?_ _) | (with_reducible refine below_drewN ?_ _) | (with_reducible refine Below.drew ?_) | (with_reducible refine Below.setCell ?_ ?_ _) | (with_reducible refine below_call (by assumption) ?_ ?_) | (with_reducible refine below_grown (by assumption) ?_ ?_ ?_) | omega | (simp; done) | (simp; omega))))) hg6 (fun e => by have := (hrow g5 e).2; omega) hat6
          case measure => exact HR1.out.2
        · have eb3 : decide (0 ≤ x) = false := decide_eq_false hx
          have HS4 : Hid ((runW script count ws (k + 1)).out = L) := Lib.hid (by rw [HST.out.2.2.2, if_neg hx, HLL.out, List.append_nil])
          go_wp2
          go_roundw
          case rel =>
            exact ⟨k + 1, g5, c5, ds', by rfl, congrArg (Value.int .i64) (by push_cast; omega), by rw [HS4.out]; exact HO.out.below HB45.out, HQ5.out, HST.out.1, by rw [HST.out.2.1]; exact HL.out, HST.out.2.2.1, hc51, hc52, by omega, HR1.out.1, by have hb45 := HB45.out; have hb := HB.out; (repeat' (first | (with_reducible exact Below.refl _ _) | (with_reducible assumption) | (with_reducible refine Below.alloc ?_ ?_ _) | (with_reducible refine below_drewN ?_ _) | (with_reducible refine Below.drew ?_) | (with_reducible refine Below.setCell ?_ ?_ _) | (with_reducible refine below_call (by assumption) ?_ ?_) | (with_reducible refine below_grown (by assumption) ?_ ?_ ?_) | omega | (simp; done) | (simp; omega)))⟩
          case measure => exact HR1.out.2
      · have eks : decide ((k : Int) < m) = false := decide_eq_false (by omega)
        have hksi : ¬ (k : Int) < m := by omega
        have hp := HIJ.out
        rw [turn_own (by rw [HSL.out]; exact hks)] at hp
        have hr1 : Int.tmod (k : Int) (ws : Int) = (i : Int) := by have e : ((k % ws : Nat) : Int) = (i : Int) := congrArg Prod.fst hp; rw [← e]; rfl
        have hr2 : Int.tmod ((k : Int) + 1) (ws : Int) = (j : Int) := by have e : (((k + 1) % ws : Nat) : Int) = (j : Int) := congrArg Prod.snd hp; rw [← e]; rfl
        clear hp
        go_wp2_with fail
        apply wp_region_pure (by kernel_rfl) ([] :: [] :: [0, 1] :: [] :: [3] :: [] :: [4, 5] :: [2, 6] :: [] :: []) (RS.det [] _ :: RS.det [] _ :: RS.det [0, 1] _ :: RS.det [] _ :: RS.det [3] _ :: RS.det [] _ :: RS.det [4, 5] _ :: RS.det [2, 6] _ :: RS.box [] _ #[.int .i64 0, .int .i64 0] 33 :: []) [] rfl (by kernel_rfl) (fun h => absurd rfl h) (by kernel_rfl) (by kernel_rfl) (st_det (st_det (st_det (st_det (st_det (st_det (st_det (st_det (st_box st_nil))))))))) _ (fun v => by simp; rfl)
        case hop =>
          simp only [Obls]
          refine ⟨?_, ?_, ?_, ?_, ?_, ?_, ?_, ?_, ?_, trivial⟩
          · (intro v w1 K hb hF hK; (try simp at hF); simp at hK; (try simp only [hF] at hK); have hz := hb.size; (try simp at hz))
            go_simp
            (try simp only [])
            exact hK _ _ rfl (by (repeat' (first | (with_reducible exact Below.refl _ _) | (with_reducible assumption) | (with_reducible refine Below.alloc ?_ ?_ _) | (with_reducible refine below_drewN ?_ _) | (with_reducible refine Below.drew ?_) | (with_reducible refine Below.setCell ?_ ?_ _) | (with_reducible refine below_call (by assumption) ?_ ?_) | go_size)))
          · (intro v w1 K hb hF hK; (try simp at hF); simp at hK; (try simp only [hF] at hK); have hz := hb.size; (try simp at hz))
            go_simp
            (try simp only [])
            exact hK _ _ rfl (by (repeat' (first | (with_reducible exact Below.refl _ _) | (with_reducible assumption) | (with_reducible refine Below.alloc ?_ ?_ _) | (with_reducible refine below_drewN ?_ _) | (with_reducible refine Below.drew ?_) | (with_reducible refine Below.setCell ?_ ?_ _) | (with_reducible refine below_call (by assumption) ?_ ?_) | go_size)))
          · (intro v w1 K hb hF hK; (try simp at hF); simp at hK; (try simp only [hF] at hK); have hz := hb.size; (try simp at hz))
            go_simp
            (try simp only [])
            exact hK _ _ rfl (by (repeat' (first | (with_reducible exact Below.refl _ _) | (with_reducible assumption) | (with_reducible refine Below.alloc ?_ ?_ _) | (with_reducible refine below_drewN ?_ _) | (with_reducible refine Below.drew ?_) | (with_reducible refine Below.setCell ?_ ?_ _) | (with_reducible refine below_call (by assumption) ?_ ?_) | go_size)))
          · (intro v w1 K hb hF hK; (try simp at hF); simp at hK; (try simp only [hF] at hK); have hz := hb.size; (try simp at hz))
            go_simp
            (try simp only [])
            exact hK _ _ rfl (by (repeat' (first | (with_reducible exact Below.refl _ _) | (with_reducible assumption) | (with_reducible refine Below.alloc ?_ ?_ _) | (with_reducible refine below_drewN ?_ _) | (with_reducible refine Below.drew ?_) | (with_reducible refine Below.setCell ?_ ?_ _) | (with_reducible refine below_call (by assumption) ?_ ?_) | go_size)))
          · (intro v w1 K hb hF hK; (try simp at hF); simp at hK; (try simp only [hF] at hK); have hz := hb.size; (try simp at hz))
            go_simp
            (try simp only [])
            exact hK _ _ rfl (by (repeat' (first | (with_reducible exact Below.refl _ _) | (with_reducible assumption) | (with_reducible refine Below.alloc ?_ ?_ _) | (with_reducible refine below_drewN ?_ _) | (with_reducible refine Below.drew ?_) | (with_reducible refine Below.setCell ?_ ?_ _) | (with_reducible refine below_call (by assumption) ?_ ?_) | go_size)))
          · (intro v w1 K hb hF hK; (try simp at hF); simp at hK; (try simp only [hF] at hK); have hz := hb.size; (try simp at hz))
            go_simp
            (try simp only [])
            exact hK _ _ rfl (by (repeat' (first | (with_reducible exact Below.refl _ _) | (with_reducible assumption) | (with_reducible refine Below.alloc ?_ ?_ _) | (with_reducible refine below_drewN ?_ _) | (with_reducible refine Below.drew ?_) | (with_reducible refine Below.setCell ?_ ?_ _) | (with_reducible refine below_call (by assumption) ?_ ?_) | go_size)))
          · (intro v w1 K hb hF hK; (try simp at hF); simp at hK; (try simp only [hF] at hK); have hz := hb.size; (try simp at hz))
            go_simp
            (try simp only [])
            exact hK _ _ rfl (by (repeat' (first | (with_reducible exact Below.refl _ _) | (with_reducible assumption) | (with_reducible refine Below.alloc ?_ ?_ _) | (with_reducible refine below_drewN ?_ _) | (with_reducible refine Below.drew ?_) | (with_reducible refine Below.setCell ?_ ?_ _) | (with_reducible refine below_call (by assumption) ?_ ?_) | go_size)))
          · (intro v w1 K hb hF hK; (try simp at hF); simp at hK; (try simp only [hF] at hK); have hz := hb.size; (try simp at hz))
            go_simp
            (try simp only [])
            exact hK _ _ rfl (by (repeat' (first | (with_reducible exact Below.refl _ _) | (with_reducible assumption) | (with_reducible refine Below.alloc ?_ ?_ _) | (with_reducible refine below_drewN ?_ _) | (with_reducible refine Below.drew ?_) | (with_reducible refine Below.setCell ?_ ?_ _) | (with_reducible refine below_call (by assumption) ?_ ?_) | go_size)))
          · (intro v w1 K hb hF hK; (try simp at hF); simp at hK; (try simp only [hF] at hK); have hz := hb.size; (try simp at hz))
            go_simp
            (try simp only [])
            exact hK _ _ (isBox_new _ _ hb.size) (by (repeat' (first | (with_reducible exact Below.refl _ _) | (with_reducible assumption) | (with_reducible refine Below.alloc ?_ ?_ _) | (with_reducible refine below_drewN ?_ _) | (with_reducible refine Below.drew ?_) | (with_reducible refine Below.setCell ?_ ?_ _) | (with_reducible refine below_call (by assumption) ?_ ?_) | go_size)))
        case hfo => exact trivial
        (intro v w1 hb hF; simp [List.range, List.range.loop] at hF; have hz := hb.size; (try simp at hz))
        obtain ⟨e0, e1, e2, e3, e4, e5, e6, e7, gt, e8, hgt, hgts, hgtb⟩ := hF
        simp only [List.length_cons, List.length_nil, List.drop_succ_cons, List.drop_zero, e0, e1, e2, e3, e4, e5, e6, e7, e8]
        clear e0 e1 e2 e3 e4 e5 e6 e7 e8 v
        have hcgt := blk_cell hgtb; have hfgt := blk_free hgtb; have Hgt := Lib.hid hgtb; clear hgtb; (try simp at hgt)
        have hz8 := hb.size
        have KP : Hid (TnB i j gt wo ((w1.setCell ⟨gt, 0, none⟩ (.int .i64 (i : Int))).setCell ⟨gt, 1, none⟩ (.int .i64 (j : Int)))) := Lib.hid ⟨blk_set2 Hgt.out _ _, by (repeat' (first | (with_reducible exact Below.refl _ _) | (with_reducible assumption) | (with_reducible refine Below.alloc ?_ ?_ _) | (with_reducible refine below_drewN ?_ _) | (with_reducible refine Below.drew ?_) | (with_reducible refine Below.setCell ?_ ?_ _) | (with_reducible refine below_call (by assumption) ?_ ?_) | (with_reducible refine below_grown (by assumption) ?_ ?_ ?_) | omega | (simp; done) | (simp; omega)))⟩
        clear hb
        go_wp2_with fail
        generalize ((w1.setCell ⟨gt, 0, none⟩ (.int .i64 (i : Int))).setCell ⟨gt, 1, none⟩ (.int .i64 (j : Int))) = w4 at KP ⊢
        have hb4 := KP.out.bel
        have hz4 := hb4.size
        have hbt := KP.out.at_
        have hlt4 := blk_lt hbt
        refine (turn_any (HQ.out.below hb4) (fun b hb => by have := (HO.out.row b hb).2; omega) HA.out HL.out h4 hi hj HT.out).mono ?_
        rintro e w5 ⟨g5, c5, rfl, hlen5, hq5, hc51, hc52, hg5, hb5⟩
        have hz5 := hb5.size
        have hbt5 := blk_below hbt hb5
        have hct := blk_cell hbt5
        have hft := blk_free hbt5
        have hlt5 := blk_lt hbt5
        have HQ5 := Lib.hid hq5
        have hb45 : Below wo.heap.size wo w5 := by (repeat' (first | (with_reducible exact Below.refl _ _) | (with_reducible assumption) | (with_reducible refine Below.alloc ?_ ?_ _) | (with_reducible refine below_drewN ?_ _) | (with_reducible refine Below.drew ?_) | (with_reducible refine Below.setCell ?_ ?_ _) | (with_reducible refine below_call (by assumption) ?_ ?_) | (with_reducible refine below_grown (by assumption) ?_ ?_ ?_) | omega | (simp; done) | (simp; omega)))
        have HB45 := Lib.hid hb45
        clear hq5 hbt hbt5 hb4 hb5 hb45 KP
        by_cases hx : 0 ≤ x
        · have eb3 : decide (0 ≤ x) = true := decide_eq_true hx
          have HS4 : Hid ((runW script count ws (k + 1)).out = L ++ [((i : Int), x)]) := Lib.hid (by rw [HST.out.2.2.2, if_pos hx, HLL.out])
          go_wp2_with (at_builtin
                       refine append_c rfl (.tmp 48) (.tmp 53) 30 26 Try.underlying26 done_info rfl w.heap.size _ L rfl (HO.out.below (by have hb45 := HB45.out; (repeat' (first | (with_reducible exact Below.refl _ _) | (with_reducible assumption) | (with_reducible refine Below.alloc ?_ ?_ _) | (with_reducible refine below_drewN ?_ _) | (with_reducible refine Below.drew ?_) | (with_reducible refine Below.setCell ?_ ?_ _) | (with_reducible refine below_call (by assumption) ?_ ?_) | (with_reducible refine below_grown (by assumption) ?_ ?_ ?_) | omega | (simp; done) | (simp; omega))))) _ 1 _ _ _ rfl (by (repeat' (first | (with_reducible assumption) | (with_reducible exact blk_new _ _) | (with_reducible exact blk_new1 _ _ _) | (with_reducible exact blk_new2 _ _ _ _) | (with_reducible refine blk_alloc ?_ _) | (with_reducible refine blk_drewN ?_ _) | (with_reducible refine blk_down (by assumption) ?_) | (with_reducible refine blk_up (by assumption) (by omega) ?_) | (with_reducible refine blk_far ?_ _ (by simp; omega))))) (by rw [HN.out]; omega) (by simp; omega) ?_
                       intro v6 w6 hown6 hg6 hat6)
          go_roundw
          case rel =>
            have hrow : ∀ g, (Value.slice A1 N c1).ownBlock = some g → w.heap.size ≤ g ∧ g < wo.heap.size := HO.out.row
            refine ⟨k + 1, g5, c5, ds', by rfl, congrArg (Value.int .i64) (by push_cast; omega), by rw [HS4.out]; exact hown6, ?_, HST.out.1, by rw [HST.out.2.1]; exact HL.out, HST.out.2.2.1, hc51, hc52, by omega, HR1.out.1, below_own hg6 (by have hb45 := HB45.out; have hb := HB.out; (repeat' (first | (with_reducible exact Below.refl _ _) | (with_reducible assumption) | (with_reducible refine Below.alloc ?_ ?_ _) | (with_reducible refine below_drewN ?_ _) | (with_reducible refine Below.drew ?_) | (with_reducible refine Below.setCell ?_ ?_ _) | (with_reducible refine below_call (by assumption) ?_ ?_) | (with_reducible refine below_grown (by assumption) ?_ ?_ ?_) | omega | (simp; done) | (simp; omega)))) (by simp; omega) (fun g hg => (hrow g hg).1)⟩
            exact HasQs.app (HQ5.out.below (by (repeat' (first | (with_reducible exact Below.refl _ _) | (with_reducible assumption) | (with_reducible refine Below.alloc ?_ ?_ _) | (with_reducible refine below_drewN ?_ _) | (with_reducible refine Below.drew ?_) | (with_reducible refine Below.setCell ?_ ?_ _) | (with_reducible refine below_call (by assumption) ?_ ?_) | (with_reducible refine below_grown (by assumption) ?_ ?_ ?_) | omega | (simp; done) | (simp; omega))))) hg6 (fun e => by have := (hrow g5 e).2; omega) hat6
          case measure => exact HR1.out.2
        · have eb3 : decide (0 ≤ x) = false := decide_eq_false hx
          have HS4 : Hid ((runW script count ws (k + 1)).out = L) := Lib.hid (by rw [HST.out.2.2.2, if_neg hx, HLL.out, List.append_nil])
          go_wp2
          go_roundw
          case rel =>
            exact ⟨k + 1, g5, c5, ds', by rfl, congrArg (Value.int .i64) (by push_cast; omega), by rw [HS4.out]; exact HO.out.below HB45.out, HQ5.out, HST.out.1, by rw [HST.out.2.1]; exact HL.out, HST.out.2.2.1, hc51, hc52, by omega, HR1.out.1, by have hb45 := HB45.out; have hb := HB.out; (repeat' (first | (with_reducible exact Below.refl _ _) | (with_reducible assumption) | (with_reducible refine Below.alloc ?_ ?_ _) | (with_reducible refine below_drewN ?_ _) | (with_reducible refine Below.drew ?_) | (with_reducible refine Below.setCell ?_ ?_ _) | (with_reducible refine below_call (by assumption) ?_ ?_) | (with_reducible refine below_grown (by assumption) ?_ ?_ ?_) | omega | (simp; done) | (simp; omega)))⟩
          case measure => exact HR1.out.2
    · have eb : decide ((N : Int) < count) = false := decide_eq_false (by omega)
      have HE : Hid (WorkIs script count ws L) := Lib.hid (by
        have hb : workB script count ws = true := by simp only [workB, HW.out, Bool.and_true, decide_eq_true_eq]; omega
        unfold WorkIs
        rw [if_pos hb]
        exact ⟨k, HR.out.ends (by rw [HLL.out, HN.out]; exact hlt), HLL.out.symm⟩)
      go_wp2
      go_ret
      exact ⟨A1, c1, L, by rw [HN.out]; rfl, by rw [HN.out]; exact HI1.out, HE.out, by rw [HN.out]; exact hc11, hc12, HB.out⟩

end Go.Proofs.Ytadpmigppjjmhaa
