/-
  FnWorkOrderScript holds: turns that come in the same way anyway do not matter. Whatever tiles, workers and turns the generator gives. No condition.
-/
import Derived.Test.YtadpmigppjjmhaaWkE
import Derived.Test.YtadpmigppjjmhaaReg3
import Derived.Test.YtadpmigppjjmhaaCode
import Derived.ProofKit
import Derived.OpenShut
import Derived.ShutString
import Derived.ChangeOld
import Derived.Lib.SmallJoins
namespace Go.Proofs.Ytadpmigppjjmhaa
open Go.RowKit Pl Go.ChangeShapes Go.WideShapes Go.ChangeAt
open Go.ChangeMaps (open_string shut_string)

set_option linter.unusedSimpArgs false
set_option linter.unusedVariables false

set_option maxRecDepth 100000 in
set_option maxHeartbeats 4000000 in
theorem FnWorkOrderScript_walk (w : World) (A : Option Addr) (n c : Nat) (h : Code w A n c) :
    Calls Try.prog 4 #[.slice A n c] w fun e w' => e = .returned (.bool true) ∧ Below w.heap.size w w' := by
  by_cases hn : 1048576 < n
  · go_enter Try.func4, Try.ntmps4
    go_wp2
    go_ret
    exact ⟨rfl, by (repeat' (first | (with_reducible exact Below.refl _ _) | (with_reducible assumption) | (with_reducible refine Below.alloc ?_ ?_ _) | (with_reducible refine below_drewN ?_ _) | (with_reducible refine Below.drew ?_) | (with_reducible refine Below.setCell ?_ ?_ _) | (with_reducible refine below_call (by assumption) ?_ ?_) | go_size))⟩
  · go_enter Try.func4, Try.ntmps4
    go_wp2_with fail
    refine (DrawWorkOrder_any (h.below (by (repeat' (first | (with_reducible exact Below.refl _ _) | (with_reducible assumption) | (with_reducible refine Below.alloc ?_ ?_ _) | (with_reducible refine below_drewN ?_ _) | (with_reducible refine Below.drew ?_) | (with_reducible refine Below.setCell ?_ ?_ _) | (with_reducible refine below_call (by assumption) ?_ ?_) | go_size))))).mono ?_
    rintro e wd ⟨B, d, l, x, y, rfl, hx, hy, hl31, hld, hI, hb⟩
    have hz0 := hb.size
    have HI := Lib.hid hI
    obtain ⟨n0, hn0⟩ : ∃ n0, l.length = n0 := ⟨_, rfl⟩
    have HL := Lib.hid hn0
    clear hI
    rw [hn0] at HI hl31 hld ⊢
    clear hn0
    go_wp2_with fail
    refine (WorkOrder_any d HI.out (by omega) (by omega) (by omega)).mono ?_
    rintro e wa ⟨A1, c1, L, rfl, hI1, hW1, _, _, hba⟩
    have hza := hba.size
    have HI1 := Lib.hid hI1
    have HW := Lib.hid hW1
    clear hI1 hW1
    go_wp2_with fail
    refine (sWorkOrder_any d (HI.out.below hba) (by omega) (by omega) (by omega)).mono ?_
    rintro e wb ⟨A2, c2, L2, rfl, hI2, hW2, _, _, hbb⟩
    have hzb := hbb.size
    obtain rfl : L2 = L := hW2.unique HW.out
    have HI2 := Lib.hid hI2
    clear hI2 hW2
    have hL16 := HW.out.len
    obtain ⟨N, hN⟩ : ∃ N, L2.length = N := ⟨_, rfl⟩
    have HN := Lib.hid hN
    rw [hN] at HI1 HI2 hL16 ⊢
    clear hN
    go_wp2_with fail
    refine (equalDones_same c1 c2 (HI1.out.below hbb) HI2.out (by omega)).mono ?_
    rintro e wc ⟨rfl, hbc⟩
    have hzc := hbc.size
    rcases Nat.eq_zero_or_pos N with h0 | h0
    · have e0 : decide ((N : Int) = 0) = true := decide_eq_true (by omega)
      have e0n : decide (N = 0) = true := decide_eq_true h0
      have e0b : ((N : Int) == 0) = true := by simp; omega
      clear h0
      go_wp2_with fail
      (with_reducible refine (sWorkOrder_any d (HI.out.below (by (repeat' (first | (with_reducible exact Below.refl _ _) | (with_reducible assumption) | (with_reducible refine Below.alloc ?_ ?_ _) | (with_reducible refine below_drewN ?_ _) | (with_reducible refine Below.drew ?_) | (with_reducible refine Below.setCell ?_ ?_ _) | (with_reducible refine below_call (by assumption) ?_ ?_) | (with_reducible refine below_grown (by assumption) ?_ ?_ ?_) | omega | (simp; done) | (simp; omega))))) (by omega) (by omega) (by omega)).mono ?_)
      rintro e we ⟨A4, c4, L4, rfl, hI4, hW4, _, _, hbe⟩
      have hze := hbe.size
      obtain rfl : L4 = L2 := hW4.unique HW.out
      rw [HN.out] at hI4 ⊢
      have HI4 := Lib.hid hI4
      clear hI4 hW4
      go_wp2_with fail
      refine (equalDones_same c1 c4 (HI1.out.below (by (repeat' (first | (with_reducible exact Below.refl _ _) | (with_reducible assumption) | (with_reducible refine Below.alloc ?_ ?_ _) | (with_reducible refine below_drewN ?_ _) | (with_reducible refine Below.drew ?_) | (with_reducible refine Below.setCell ?_ ?_ _) | (with_reducible refine below_call (by assumption) ?_ ?_) | (with_reducible refine below_grown (by assumption) ?_ ?_ ?_) | omega | (simp; done) | (simp; omega))))) HI4.out (by omega)).mono ?_
      rintro e wf ⟨rfl, hbf⟩
      have hzf := hbf.size
      go_wp2
      go_ret
      exact ⟨rfl, by (repeat' (first | (with_reducible exact Below.refl _ _) | (with_reducible assumption) | (with_reducible refine Below.alloc ?_ ?_ _) | (with_reducible refine below_drewN ?_ _) | (with_reducible refine Below.drew ?_) | (with_reducible refine Below.setCell ?_ ?_ _) | (with_reducible refine below_call (by assumption) ?_ ?_) | (with_reducible refine below_grown (by assumption) ?_ ?_ ?_) | omega | (simp; done) | (simp; omega)))⟩
    · have e0 : decide ((N : Int) = 0) = false := decide_eq_false (by omega)
      have e0n : decide (N = 0) = false := decide_eq_false (by omega)
      have e0b : ((N : Int) == 0) = false := by simp; omega
      obtain ⟨hwb, hNx⟩ := HW.out.some (by rw [HN.out]; exact h0)
      obtain ⟨⟨hy1, hy4, hl30⟩, _⟩ := wOk_parts (workB_parts hwb).2
      rw [HL.out] at hl30
      by_cases h30 : n0 = 30
      · have e3 : decide ((n0 : Int) = 30) = true := decide_eq_true (by omega)
        have e3n : decide (n0 = 30) = true := decide_eq_true h30
        have e3b : ((n0 : Int) == 30) = true := by simp; omega
        have hn30 : n0 ≤ 30 := by omega
        clear hwb hNx h30
        go_wp2_with fail
        (with_reducible refine (sWorkOrder_any d (HI.out.below (by (repeat' (first | (with_reducible exact Below.refl _ _) | (with_reducible assumption) | (with_reducible refine Below.alloc ?_ ?_ _) | (with_reducible refine below_drewN ?_ _) | (with_reducible refine Below.drew ?_) | (with_reducible refine Below.setCell ?_ ?_ _) | (with_reducible refine below_call (by assumption) ?_ ?_) | (with_reducible refine below_grown (by assumption) ?_ ?_ ?_) | omega | (simp; done) | (simp; omega))))) (by omega) (by omega) (by omega)).mono ?_)
        rintro e we ⟨A4, c4, L4, rfl, hI4, hW4, _, _, hbe⟩
        have hze := hbe.size
        obtain rfl : L4 = L2 := hW4.unique HW.out
        rw [HN.out] at hI4 ⊢
        have HI4 := Lib.hid hI4
        clear hI4 hW4
        go_wp2_with fail
        refine (equalDones_same c1 c4 (HI1.out.below (by (repeat' (first | (with_reducible exact Below.refl _ _) | (with_reducible assumption) | (with_reducible refine Below.alloc ?_ ?_ _) | (with_reducible refine below_drewN ?_ _) | (with_reducible refine Below.drew ?_) | (with_reducible refine Below.setCell ?_ ?_ _) | (with_reducible refine below_call (by assumption) ?_ ?_) | (with_reducible refine below_grown (by assumption) ?_ ?_ ?_) | omega | (simp; done) | (simp; omega))))) HI4.out (by omega)).mono ?_
        rintro e wf ⟨rfl, hbf⟩
        have hzf := hbf.size
        go_wp2
        go_ret
        exact ⟨rfl, by (repeat' (first | (with_reducible exact Below.refl _ _) | (with_reducible assumption) | (with_reducible refine Below.alloc ?_ ?_ _) | (with_reducible refine below_drewN ?_ _) | (with_reducible refine Below.drew ?_) | (with_reducible refine Below.setCell ?_ ?_ _) | (with_reducible refine below_call (by assumption) ?_ ?_) | (with_reducible refine below_grown (by assumption) ?_ ?_ ?_) | omega | (simp; done) | (simp; omega)))⟩
      · have e3 : decide ((n0 : Int) = 30) = false := decide_eq_false (by omega)
        have e3n : decide (n0 = 30) = false := decide_eq_false h30
        have e3b : ((n0 : Int) == 30) = false := by simp; omega
        have hmore := HW.out.more hwb (by rw [HL.out]; omega)
        obtain ⟨ws, rfl⟩ : ∃ s : Nat, y = s := ⟨y.toNat, by omega⟩
        have HM := Lib.hid hmore
        have hw0 : ¬ ws = 0 := by omega
        have hw0' : ¬ (ws : Int) = 0 := by omega
        obtain ⟨r1, hr1⟩ : ∃ r, Int.tmod (n0 : Int) (ws : Int) = r := ⟨_, rfl⟩
        obtain ⟨r2, hr2⟩ : ∃ r, Int.tmod ((n0 : Int) + 1) (ws : Int) = r := ⟨_, rfl⟩
        have hT : moreT l (ws : Int) = l ++ [(r1, r2)] := by
          unfold moreT
          rw [HL.out, ← hr1, ← hr2, Int.tmod_eq_emod_of_nonneg (by omega), Int.tmod_eq_emod_of_nonneg (by omega)]
        have HT := Lib.hid hT
        have e1 : IntKind.i64.wrap ((n0 : Int) + 1) = (n0 : Int) + 1 := IntWalk.i64_in _ (by omega)
        have HBC : Hid (Below w.heap.size w wc) := Lib.hid (by (repeat' (first | (with_reducible exact Below.refl _ _) | (with_reducible assumption) | (with_reducible refine Below.alloc ?_ ?_ _) | (with_reducible refine below_drewN ?_ _) | (with_reducible refine Below.drew ?_) | (with_reducible refine Below.setCell ?_ ?_ _) | (with_reducible refine below_call (by assumption) ?_ ?_) | (with_reducible refine below_grown (by assumption) ?_ ?_ ?_) | omega | (simp; done) | (simp; omega))))
        have HI5 := Lib.hid (((HI.out.below hba).below hbb).below hbc)
        have HI6 := Lib.hid ((HI1.out.below hbb).below hbc)
        have hzw := HBC.out.size
        clear hmore hwb hNx hT HI HI1 HI2 hba hbb hbc hb
        obtain ⟨wf, hwf⟩ : ∃ wf : World, wf = wc := ⟨_, rfl⟩
        subst hwf
        go_wp2_with fail
        apply wp_region_pure (by kernel_rfl) ([] :: [] :: [0, 1] :: [] :: [] :: [3, 4] :: [] :: [6] :: [] :: [7, 8] :: [5, 9] :: [10] :: []) (RS.sl [] _ _ _ _ :: RS.det [] _ :: RS.q [0, 1] (TsB 33 wf.heap.size l) :: RS.det [] _ :: RS.det [] _ :: RS.det [3, 4] _ :: RS.det [] _ :: RS.det [6] _ :: RS.det [] _ :: RS.det [7, 8] _ :: RS.det [5, 9] _ :: RS.sl [10] _ _ _ _ :: []) [] rfl (by kernel_rfl) (fun h => absurd rfl h) (by kernel_rfl) (by kernel_rfl) (st_sl (st_det (st_q (fun _ _ _ hR h => TsB.below h hR) (st_det (st_det (st_det (st_det (st_det (st_det (st_det (st_det (st_sl st_nil)))))))))))) _ (fun v => by simp; rfl)
        case hop =>
          simp only [Obls]
          refine ⟨?_, ?_, ?_, ?_, ?_, ?_, ?_, ?_, ?_, ?_, ?_, ?_, trivial⟩
          · (intro v w1 K hb hF hK; (try simp at hF); simp at hK; (try simp only [hF] at hK); have hz := hb.size; (try simp at hz))
            go_simp
            (try simp only [])
            exact hK _ _ (isSl_new _ _ _ hb.size) (by (repeat' (first | (with_reducible exact Below.refl _ _) | (with_reducible assumption) | (with_reducible refine Below.alloc ?_ ?_ _) | (with_reducible refine below_drewN ?_ _) | (with_reducible refine Below.drew ?_) | (with_reducible refine Below.setCell ?_ ?_ _) | (with_reducible refine below_call (by assumption) ?_ ?_) | go_size)))
          · (intro v w1 K hb hF hK; (try simp at hF); simp at hK; (try simp only [hF] at hK); have hz := hb.size; (try simp at hz))
            go_simp
            (try simp only [])
            exact hK _ _ rfl (by (repeat' (first | (with_reducible exact Below.refl _ _) | (with_reducible assumption) | (with_reducible refine Below.alloc ?_ ?_ _) | (with_reducible refine below_drewN ?_ _) | (with_reducible refine Below.drew ?_) | (with_reducible refine Below.setCell ?_ ?_ _) | (with_reducible refine below_call (by assumption) ?_ ?_) | go_size)))
          · (intro v w1 K hb hF hK; (try simp at hF); simp at hK; (try simp only [hF] at hK); have hz := hb.size; (try simp at hz))
            obtain ⟨f0, f1⟩ := hF
            obtain ⟨_, eg, hgb, _, hgc⟩ := f0
            refine op_append_new ?hw (.tmp 47) (.tmp 48) 23 33 2 _ 16 Try.underlying23 turn_info rfl ?hsz ?hby ?ho wf.heap.size _ ?hs hgb hgc _ n0 d (cellsP l) ?hx ?hl (IsPts.newsP (HI5.out.below hb)) cellsP_one ?hlen hb.size ?h
            case ho => rfl
            case hsz => decide
            case hby => decide
            case hw => simp [Region.wanted, yielded, *]
            case hs => first | (simp [Act.eval, eg]; done) | (simp [Act.eval, eg]; rfl)
            case hx => first | (simp [Act.eval, f1]; done) | (simp [Act.eval, f1]; rfl)
            case hl => rw [cellsP_len, HL.out]
            case hlen => omega
            case h =>
              intro u' w' k1 k2 k3
              simp
              simp only [f1]
              exact hK u' w' (TsB.of HL.out k1) k3
          · (intro v w1 K hb hF hK; (try simp at hF); simp at hK; (try simp only [hF] at hK); have hz := hb.size; (try simp at hz))
            go_simp
            (try simp only [])
            exact hK _ _ rfl (by (repeat' (first | (with_reducible exact Below.refl _ _) | (with_reducible assumption) | (with_reducible refine Below.alloc ?_ ?_ _) | (with_reducible refine below_drewN ?_ _) | (with_reducible refine Below.drew ?_) | (with_reducible refine Below.setCell ?_ ?_ _) | (with_reducible refine below_call (by assumption) ?_ ?_) | go_size)))
          · (intro v w1 K hb hF hK; (try simp at hF); simp at hK; (try simp only [hF] at hK); have hz := hb.size; (try simp at hz))
            go_simp
            (try simp only [])
            exact hK _ _ rfl (by (repeat' (first | (with_reducible exact Below.refl _ _) | (with_reducible assumption) | (with_reducible refine Below.alloc ?_ ?_ _) | (with_reducible refine below_drewN ?_ _) | (with_reducible refine Below.drew ?_) | (with_reducible refine Below.setCell ?_ ?_ _) | (with_reducible refine below_call (by assumption) ?_ ?_) | go_size)))
          · (intro v w1 K hb hF hK; (try simp at hF); simp at hK; (try simp only [hF] at hK); have hz := hb.size; (try simp at hz))
            go_simp
            (try simp only [])
            exact hK _ _ rfl (by (repeat' (first | (with_reducible exact Below.refl _ _) | (with_reducible assumption) | (with_reducible refine Below.alloc ?_ ?_ _) | (with_reducible refine below_drewN ?_ _) | (with_reducible refine Below.drew ?_) | (with_reducible refine Below.setCell ?_ ?_ _) | (with_reducible refine below_call (by assumption) ?_ ?_) | go_size)))
          · (intro v w1 K hb hF hK; (try simp at hF); simp at hK; (try simp only [hF] at hK); have hz := hb.size; (try simp at hz))
            go_simp
            (try simp only [])
            exact hK _ _ rfl (by (repeat' (first | (with_reducible exact Below.refl _ _) | (with_reducible assumption) | (with_reducible refine Below.alloc ?_ ?_ _) | (with_reducible refine below_drewN ?_ _) | (with_reducible refine Below.drew ?_) | (with_reducible refine Below.setCell ?_ ?_ _) | (with_reducible refine below_call (by assumption) ?_ ?_) | go_size)))
          · (intro v w1 K hb hF hK; (try simp at hF); simp at hK; (try simp only [hF] at hK); have hz := hb.size; (try simp at hz))
            go_simp
            (try simp only [])
            exact hK _ _ rfl (by (repeat' (first | (with_reducible exact Below.refl _ _) | (with_reducible assumption) | (with_reducible refine Below.alloc ?_ ?_ _) | (with_reducible refine below_drewN ?_ _) | (with_reducible refine Below.drew ?_) | (with_reducible refine Below.setCell ?_ ?_ _) | (with_reducible refine below_call (by assumption) ?_ ?_) | go_size)))
          · (intro v w1 K hb hF hK; (try simp at hF); simp at hK; (try simp only [hF] at hK); have hz := hb.size; (try simp at hz))
            go_simp
            (try simp only [])
            exact hK _ _ rfl (by (repeat' (first | (with_reducible exact Below.refl _ _) | (with_reducible assumption) | (with_reducible refine Below.alloc ?_ ?_ _) | (with_reducible refine below_drewN ?_ _) | (with_reducible refine Below.drew ?_) | (with_reducible refine Below.setCell ?_ ?_ _) | (with_reducible refine below_call (by assumption) ?_ ?_) | go_size)))
          · (intro v w1 K hb hF hK; (try simp at hF); simp at hK; (try simp only [hF] at hK); have hz := hb.size; (try simp at hz))
            go_simp
            (try simp only [])
            exact hK _ _ rfl (by (repeat' (first | (with_reducible exact Below.refl _ _) | (with_reducible assumption) | (with_reducible refine Below.alloc ?_ ?_ _) | (with_reducible refine below_drewN ?_ _) | (with_reducible refine Below.drew ?_) | (with_reducible refine Below.setCell ?_ ?_ _) | (with_reducible refine below_call (by assumption) ?_ ?_) | go_size)))
          · (intro v w1 K hb hF hK; (try simp at hF); simp at hK; (try simp only [hF] at hK); have hz := hb.size; (try simp at hz))
            go_simp
            (try simp only [])
            exact hK _ _ rfl (by (repeat' (first | (with_reducible exact Below.refl _ _) | (with_reducible assumption) | (with_reducible refine Below.alloc ?_ ?_ _) | (with_reducible refine below_drewN ?_ _) | (with_reducible refine Below.drew ?_) | (with_reducible refine Below.setCell ?_ ?_ _) | (with_reducible refine below_call (by assumption) ?_ ?_) | go_size)))
          · (intro v w1 K hb hF hK; (try simp at hF); simp at hK; (try simp only [hF] at hK); have hz := hb.size; (try simp at hz))
            go_simp
            (try simp only [])
            exact hK _ _ (isSl_new _ _ _ hb.size) (by (repeat' (first | (with_reducible exact Below.refl _ _) | (with_reducible assumption) | (with_reducible refine Below.alloc ?_ ?_ _) | (with_reducible refine below_drewN ?_ _) | (with_reducible refine Below.drew ?_) | (with_reducible refine Below.setCell ?_ ?_ _) | (with_reducible refine below_call (by assumption) ?_ ?_) | go_size)))
        case hfo => exact trivial
        (intro v w1 hb hF; simp [List.range, List.range.loop] at hF; have hz := hb.size; (try simp at hz))
        obtain ⟨⟨ga, e0, hga, hgas, hgab⟩, e1, ⟨B2, d2, e2, ho⟩, e3, e4, e5, e6, e7, e8, e9, e10, gs, e11, hgs, hgss, hgsb⟩ := hF
        simp only [List.length_cons, List.length_nil, List.drop_succ_cons, List.drop_zero, e0, e1, e2, e3, e4, e5, e6, e7, e8, e9, e10, e11]
        clear e0 e1 e2 e3 e4 e5 e6 e7 e8 e9 e10 e11 v
        have hcga := blk_cell hgab; have hfga := blk_free hgab; have Hga := Lib.hid hgab; clear hgab; (try simp at hga)
        have hcgs := blk_cell hgsb; have hfgs := blk_free hgsb; have Hgs := Lib.hid hgsb; clear hgsb; (try simp at hgs)
        have hz8 := hb.size
        have hb1 : Below w.heap.size w w1 := below_call hb HBC.out hzw
        have HB1 := Lib.hid hb1
        have HBR := Lib.hid hb
        clear hb hb1
        go_wp2_with (at_builtin
                     refine append_c rfl (.tmp 49) (.tmp 58) 33 23 Try.underlying23 turn_info rfl wf.heap.size _ l rfl ho _ 1 r1 r2 _ rfl Hgs.out (by rw [HL.out]; omega) hz8 ?_
                     intro v7 w7 hown7 hg7 hat7
                     refine Kept.out ?_)
        have hrow : ∀ g, (Value.slice B2 l.length d2).ownBlock = some g → wf.heap.size ≤ g := fun g hg => (OwnC.row ho g hg).1
        rw [← HT.out] at hown7
        obtain ⟨A7, c7, e7, hI7, _⟩ := hown7.form
        obtain ⟨p, hp⟩ : ∃ p, (moreT l (ws : Int)).length = p := ⟨_, rfl⟩
        have hp31 : p ≤ 31 := by rw [← hp, moreT, List.length_append, HL.out]; simp; omega
        rw [hp] at e7 hI7
        subst e7
        have hb7 : Below wf.heap.size wf w7 := below_own hg7 HBR.out (by omega) hrow
        have hz7 := hb7.size
        have HIM := Lib.hid hI7
        have HI8 := Lib.hid (HI6.out.below hb7)
        have HB7 := Lib.hid (below_call hb7 HBC.out hzw)
        clear hown7 hg7 hat7 hrow hI7 hb7 ho hp
        refine Kept.mk ?_
        go_wp2_with fail
        refine (WorkOrder_any c7 HIM.out (by omega) (by omega) (by omega)).mono ?_
        rintro e w8 ⟨A8, c8, L8, rfl, hI8, hW8, _, _, hb8⟩
        have hz8 := hb8.size
        obtain rfl : L8 = L2 := hW8.unique HM.out
        rw [HN.out] at hI8 ⊢
        have HI9 := Lib.hid hI8
        clear hI8 hW8
        go_wp2_with fail
        refine (equalDones_same c8 c1 HI9.out (HI8.out.below hb8) (by omega)).mono ?_
        rintro e w9 ⟨rfl, hb9⟩
        go_wp2
        go_ret
        exact ⟨rfl, by have hb7 := HB7.out; (repeat' (first | (with_reducible exact Below.refl _ _) | (with_reducible assumption) | (with_reducible refine Below.alloc ?_ ?_ _) | (with_reducible refine below_drewN ?_ _) | (with_reducible refine Below.drew ?_) | (with_reducible refine Below.setCell ?_ ?_ _) | (with_reducible refine below_call (by assumption) ?_ ?_) | (with_reducible refine below_grown (by assumption) ?_ ?_ ?_) | omega | (simp; done) | (simp; omega)))⟩

theorem FnWorkOrderScript_own : ownKnob Try.prog.godebug = none := by kernel_rfl
theorem FnWorkOrderScript_laid : laidOutB Try.prog = true := by kernel_rfl

set_option maxRecDepth 100000 in
theorem FnWorkOrderScript_lifted (os : Os) (started : os.Started) (H : Type) (enc : TypeId × Value → H) :
    ReturnsInHanded {} Try.checked os 4 .any (Rows.fnWorkOrderScriptSpec.pre6 enc Try.prog Try.f4 Rows.fnWorkOrderScriptRow.domain false) (Rows.fnWorkOrderScriptSpec.post enc Try.prog Try.f4 false true false false) := by
  refine returnsInHanded_of_change (C := Try.checked) FnWorkOrderScript_own started (by kernel_rfl) Try.func4
    (ChangeSpec.witness6 (enc := enc) (C := Try.checked) false ⟨#[], #[.slice none 0 0], []⟩ 8 (by kernel_rfl) (by kernel_rfl) (by kernel_rfl) (by kernel_rfl)) ?_
  intro W base args ds gs before hval0 hW hcnd _
  have hval : ∀ (j : Nat) t v, Try.f4.params[j]? = some t → args[j]? = some v → Value.okWide Try.prog W .any base t v := hval0
  have hW' := hW
  obtain ⟨p, q, hA0, hV, rfl, hfz, hnd⟩ := hW
  have hA : DataW.TrodAll enc Try.prog W 0 (fun _ => true) true Try.f4.params.toList args.toList ds p := hA0
  rw [Try.params4] at hA hval
  obtain ⟨v0, vs0, d0, ds0, p0, q0, hargs, rfl, rfl, h0, r0⟩ := trodAll_cons hA
  obtain ⟨rfl, rfl, rfl⟩ := trodAll_nil r0
  obtain rfl : args = #[v0] := by cases args; simp_all
  obtain ⟨rfl, rfl⟩ := trodVars_none hV
  have k0 := h0
  have lt0 : ∀ x ∈ p0, x.block < W.heap.size := by obtain ⟨m, hm⟩ := k0; exact DataW.trod_lt m _ _ _ hm
  obtain ⟨a0, len0, cap0, rfl⟩ := okWide_slice Try.underlying22 (hval 0 22 v0 rfl rfl)
  have w0 := code_of Try.underlying22 Try.underlying5 (by kernel_rfl) h0
  clear hA0 hval0
  refine (FnWorkOrderScript_walk W _ _ _ w0).mono fun e W' ⟨he, bel⟩ => ?_
  subst he
  exact ⟨_, rfl, _, _, _, [], _, [], hW', trodAll_mk1 (shut_bool Try.underlying4 _), (trodAll_cons_mk (Below.trod FnWorkOrderScript_laid (by kernel_rfl) (of_decide_eq_true (by kernel_rfl)) k0 bel lt0) trodAll_mk0), rfl, bel.frame _, fun h => by cases h⟩

theorem FnWorkOrderScript_over : Rows.fnWorkOrderScriptRow.holds Try.pinned (OpenSpec.ofChange Rows.fnWorkOrderScriptSpec) :=
  OpenClaim.holds_of_wide 4 Try.f4 rfl rfl rfl rfl rfl rfl rfl ⟨rfl, rfl, rfl, rfl, rfl⟩ rfl rfl rfl rfl rfl (by kernel_rfl) Try.func4 (by kernel_rfl)
    (of_decide_eq_true (by kernel_rfl)) (by unfold Func.isWrapper; first | (rw [if_pos (by decide +kernel)]; kernel_rfl) | (rw [if_neg (by decide +kernel)]; exact ⟨rfl, rfl⟩))
    (fun os started H enc _ => FnWorkOrderScript_lifted os started H enc)

/-- The statement. -/
theorem FnWorkOrderScript_holds : Rows.FnWorkOrderScriptSaid := FnWorkOrderScript_over
#print axioms FnWorkOrderScript_holds

end Go.Proofs.Ytadpmigppjjmhaa
