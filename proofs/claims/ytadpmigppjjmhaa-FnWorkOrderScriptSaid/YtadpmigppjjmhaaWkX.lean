/-
  The order of work by the program.
-/
import Derived.Test.YtadpmigppjjmhaaWkI
import Derived.Test.YtadpmigppjjmhaaWkQ
namespace Go.Proofs.Ytadpmigppjjmhaa
open Go.RowKit Pl

set_option linter.unusedSimpArgs false
set_option linter.unusedVariables false

theorem start0 (ws : Nat) : (List.range ws).map (startQ ((0 : Nat) : Int) (ws : Int)) = List.replicate ws [] := by
  have e : (List.range ws).map (startQ ((0 : Nat) : Int) (ws : Int)) = (List.range ws).map fun _ => [] := List.map_congr_left fun i _ => startQ_zero _ _
  rw [e, List.map_const', List.length_range]

set_option maxHeartbeats 400000 in
theorem ClipD_eq {A : Option Addr} {n c : Nat} (hc : n ≤ c) (hm : c ≤ maxLen) (w : World) : Calls Try.prog 21 #[.slice A n c] w fun e w' => e = .returned (.slice A n n) ∧ w = w' := by
  unfold maxLen at hm
  go_enter Try.func21, Try.ntmps21
  go_wp2
  go_ret
  exact ⟨rfl, rfl⟩

set_option maxRecDepth 100000 in
set_option maxHeartbeats 8000000 in
theorem work_any {count ws m : Nat} {script : List Tn} {AS : Option Addr} {w : World} (cs : Nat) (hs : IsPts w AS m script) (hwk : wOk script ws = true) (h16 : count ≤ 16) :
    Calls Try.prog 13 #[.int .i64 (count : Int), .int .i64 (ws : Int), .slice AS m cs] w (RetW script count ws w) := by
  obtain ⟨⟨h1, h4, h30⟩, _⟩ := wOk_parts hwk
  have h1 : 1 ≤ ws := by omega
  have h4 : ws ≤ 4 := by omega
  have hsl := hs.1
  rw [hsl] at h30
  have HS := Lib.hid hs
  have HSL := Lib.hid hsl
  have HW := Lib.hid hwk
  clear hs hsl hwk
  obtain ⟨Z, hZ, hmk⟩ := make_qs ws (by omega)
  have HZ := Lib.hid hZ
  have hm0 : ¬ ws = 0 := by omega
  have hm0' : ¬ (ws : Int) = 0 := by omega
  clear hZ
  go_enter Try.func13, Try.ntmps13
  go_wp2
  clear hmk
  go_loopw [17] (fun i wr => ∃ k : Nat, k ≤ count ∧ i = .int .i64 (k : Int) ∧ HasQO (w.heap.size + 1) wr w.heap.size ((List.range ws).map (startQ (k : Int) (ws : Int))) ∧ Below w.heap.size w wr) (fun i _ => count - (intOf i).toNat)
  case atStart => exact ⟨0, by omega, rfl, by rw [start0]; exact HasQO.made (blk_new w _) HZ.out, by (repeat' (first | (with_reducible exact Below.refl _ _) | (with_reducible assumption) | (with_reducible refine Below.alloc ?_ ?_ _) | (with_reducible refine below_drewN ?_ _) | (with_reducible refine Below.drew ?_) | (with_reducible refine Below.setCell ?_ ?_ _) | (with_reducible refine below_call (by assumption) ?_ ?_) | (with_reducible refine below_grown (by assumption) ?_ ?_ ?_) | omega | (simp; done) | (simp; omega)))⟩
  case round =>
    obtain ⟨wo, rfl⟩ : ∃ wo : World, wo = wr := ⟨_, rfl⟩
    obtain ⟨k, hk, rfl, hq, hbel⟩ := hrel
    have hsz := hbel.size
    have hgl := hq.lt
    have HQ := Lib.hid hq
    have HB := Lib.hid hbel
    clear hq hbel
    by_cases hlt : k < count
    · have eb : decide ((k : Int) < count) = true := decide_eq_true (by omega)
      have hki : (k : Int) < count := by omega
      obtain ⟨i, hik⟩ : ∃ i, k % ws = i := ⟨_, rfl⟩
      have hi : i < ws := by rw [← hik]; exact Nat.mod_lt _ (by omega)
      have hr : Int.tmod (k : Int) (ws : Int) = (i : Int) := by rw [← hik]; rfl
      have hiw : (i : Int) < ws := by omega
      obtain ⟨A, c, q, hqq, hx, hown⟩ := HQ.out.at_ (i := i) (by simp; exact hi)
      have hqe : q = startQ (k : Int) ws i := by
        rw [List.getElem?_map, List.getElem?_range hi] at hqq
        exact (Option.some.inj hqq).symm
      have hset := startQ_set k ws
      rw [hik] at hset
      have HSET := Lib.hid hset
      have HQE := Lib.hid hqe
      have hql : q.length ≤ k := by rw [hqe]; exact startQ_len _ _ _
      have HOW := Lib.hid hown
      have HX := Lib.hid hx
      obtain ⟨n1, hn1⟩ : ∃ n, q.length = n := ⟨_, rfl⟩
      rw [hn1] at hx hql
      have HN1 := Lib.hid hn1
      clear hset hqe hqq hown hik hn1
      go_wp2_with fail
      apply wp_region_pure2 (by kernel_rfl) ([] :: [] :: [] :: [1, 2] :: [] :: [] :: [] :: [5, 6] :: [4, 7] :: [8] :: [] :: [10] :: []) (RS.det [] _ :: RS.det [] _ :: RS.det [] _ :: RS.det [1, 2] _ :: RS.det [] _ :: RS.det [] _ :: RS.det [] _ :: RS.det [5, 6] _ :: RS.det [4, 7] _ :: RS.det [8] _ :: RS.det [] _ :: RS.sl [10] _ _ _ _ :: []) [0, 1, 2] [3] rfl (by kernel_rfl) (by intro _ c a d v w h; cases d <;> exact h) (by kernel_rfl) (by kernel_rfl) (by kernel_rfl) (st_det (st_det (st_det (st_det (st_det (st_det (st_det (st_det (st_det (st_det (st_det (st_sl st_nil)))))))))))) _ (fun v => by simp; rfl)
      case hop =>
        simp only [Obls]
        refine ⟨?_, ?_, ?_, ?_, ?_, ?_, ?_, ?_, ?_, ?_, ?_, ?_, trivial⟩
        · (intro v w1 K hb hF hK; (try simp at hF); simp at hK; (try simp only [hF] at hK); have hz := hb.size; (try simp at hz))
          go_simp
          (try simp only [])
          exact hK _ _ rfl (by (repeat' (first | (with_reducible exact Below.refl _ _) | (with_reducible assumption) | (with_reducible refine Below.alloc ?_ ?_ _) | (with_reducible refine below_drewN ?_ _) | (with_reducible refine Below.drew ?_) | (with_reducible refine Below.setCell ?_ ?_ _) | (with_reducible refine below_call (by assumption) ?_ ?_) | go_size)))
        · (intro v w1 K hb hF hK; (try simp at hF); simp at hK; (try simp only [hF] at hK); have hz := hb.size; (try simp at hz))
          go_simp
          (try simp only [])
          exact hK _ _ rfl (by (repeat' (first | (with_reducible exact Below.refl _ _) | (with_reducible assumption) | (with_reducible refine Below.alloc ?_ ?_ _) | (with_reducible refine below_drewN ?_ _) | (with_reducible refine Below.drew ?_) | (with_reducible refine Below.setCell ?_ ?_ _) | (with_reducible refine below_call (by assumption) ?_ ?_) | go_size)))
        · (intro v w1 K hb hF hK; (try simp at hF); simp at hK; (try simp only [hF] at hK); have hz := hb.size; (try simp at hz))
          go_simp
          (try simp only [])
          exact hK _ _ rfl (by (repeat' (first | (with_reducible exact Below.refl _ _) | (with_reducible assumption) | (with_reducible refine Below.alloc ?_ ?_ _) | (with_reducible refine below_drewN ?_ _) | (with_reducible refine Below.drew ?_) | (with_reducible refine Below.setCell ?_ ?_ _) | (with_reducible refine below_call (by assumption) ?_ ?_) | go_size)))
        · (intro v w1 K hb hF hK; (try simp at hF); simp at hK; (try simp only [hF] at hK); have hz := hb.size; (try simp at hz))
          go_simp
          (try simp only [])
          exact hK _ _ rfl (by (repeat' (first | (with_reducible exact Below.refl _ _) | (with_reducible assumption) | (with_reducible refine Below.alloc ?_ ?_ _) | (with_reducible refine below_drewN ?_ _) | (with_reducible refine Below.drew ?_) | (with_reducible refine Below.setCell ?_ ?_ _) | (with_reducible refine below_call (by assumption) ?_ ?_) | go_size)))
        · (intro v w1 K hb hF hK; (try simp at hF); simp at hK; (try simp only [hF] at hK); have hz := hb.size; (try simp at hz))
          go_simp
          (try simp only [])
          exact hK _ _ rfl (by (repeat' (first | (with_reducible exact Below.refl _ _) | (with_reducible assumption) | (with_reducible refine Below.alloc ?_ ?_ _) | (with_reducible refine below_drewN ?_ _) | (with_reducible refine Below.drew ?_) | (with_reducible refine Below.setCell ?_ ?_ _) | (with_reducible refine below_call (by assumption) ?_ ?_) | go_size)))
        · (intro v w1 K hb hF hK; (try simp at hF); simp at hK; (try simp only [hF] at hK); have hz := hb.size; (try simp at hz))
          go_simp
          (try simp only [])
          exact hK _ _ rfl (by (repeat' (first | (with_reducible exact Below.refl _ _) | (with_reducible assumption) | (with_reducible refine Below.alloc ?_ ?_ _) | (with_reducible refine below_drewN ?_ _) | (with_reducible refine Below.drew ?_) | (with_reducible refine Below.setCell ?_ ?_ _) | (with_reducible refine below_call (by assumption) ?_ ?_) | go_size)))
        · (intro v w1 K hb hF hK; (try simp at hF); simp at hK; (try simp only [hF] at hK); have hz := hb.size; (try simp at hz))
          go_simp
          (try simp only [])
          exact hK _ _ rfl (by (repeat' (first | (with_reducible exact Below.refl _ _) | (with_reducible assumption) | (with_reducible refine Below.alloc ?_ ?_ _) | (with_reducible refine below_drewN ?_ _) | (with_reducible refine Below.drew ?_) | (with_reducible refine Below.setCell ?_ ?_ _) | (with_reducible refine below_call (by assumption) ?_ ?_) | go_size)))
        · (intro v w1 K hb hF hK; (try simp at hF); simp at hK; (try simp only [hF] at hK); have hz := hb.size; (try simp at hz))
          go_simp
          (try simp only [])
          exact hK _ _ rfl (by (repeat' (first | (with_reducible exact Below.refl _ _) | (with_reducible assumption) | (with_reducible refine Below.alloc ?_ ?_ _) | (with_reducible refine below_drewN ?_ _) | (with_reducible refine Below.drew ?_) | (with_reducible refine Below.setCell ?_ ?_ _) | (with_reducible refine below_call (by assumption) ?_ ?_) | go_size)))
        · (intro v w1 K hb hF hK; (try simp at hF); simp at hK; (try simp only [hF] at hK); have hz := hb.size; (try simp at hz))
          go_simp
          (try simp only [])
          exact hK _ _ rfl (by (repeat' (first | (with_reducible exact Below.refl _ _) | (with_reducible assumption) | (with_reducible refine Below.alloc ?_ ?_ _) | (with_reducible refine below_drewN ?_ _) | (with_reducible refine Below.drew ?_) | (with_reducible refine Below.setCell ?_ ?_ _) | (with_reducible refine below_call (by assumption) ?_ ?_) | go_size)))
        · (intro v w1 K hb hF hK; (try simp at hF); simp at hK; (try simp only [hF] at hK); have hz := hb.size; (try simp at hz); (try (have hk := bcl hb (w.heap.size) (by first | omega | (simp; done) | (simp; omega)); have hc := hk.1; have hf := hk.2.1; have hk := hk.2.2)))
          go_simp
          (try simp only [])
          exact hK _ _ rfl (by (repeat' (first | (with_reducible exact Below.refl _ _) | (with_reducible assumption) | (with_reducible refine Below.alloc ?_ ?_ _) | (with_reducible refine below_drewN ?_ _) | (with_reducible refine Below.drew ?_) | (with_reducible refine Below.setCell ?_ ?_ _) | (with_reducible refine below_call (by assumption) ?_ ?_) | go_size)))
        · (intro v w1 K hb hF hK; (try simp at hF); simp at hK; (try simp only [hF] at hK); have hz := hb.size; (try simp at hz))
          go_simp
          (try simp only [])
          exact hK _ _ rfl (by (repeat' (first | (with_reducible exact Below.refl _ _) | (with_reducible assumption) | (with_reducible refine Below.alloc ?_ ?_ _) | (with_reducible refine below_drewN ?_ _) | (with_reducible refine Below.drew ?_) | (with_reducible refine Below.setCell ?_ ?_ _) | (with_reducible refine below_call (by assumption) ?_ ?_) | go_size)))
        · (intro v w1 K hb hF hK; (try simp at hF); simp at hK; (try simp only [hF] at hK); have hz := hb.size; (try simp at hz))
          go_simp
          (try simp only [])
          exact hK _ _ (isSl_new _ _ _ hb.size) (by (repeat' (first | (with_reducible exact Below.refl _ _) | (with_reducible assumption) | (with_reducible refine Below.alloc ?_ ?_ _) | (with_reducible refine below_drewN ?_ _) | (with_reducible refine Below.drew ?_) | (with_reducible refine Below.setCell ?_ ?_ _) | (with_reducible refine below_call (by assumption) ?_ ?_) | go_size)))
      case hfo => exact ⟨fun _ => rfl, fun _ => rfl, fun _ => rfl, trivial⟩
      case hlo =>
        refine ⟨?_, trivial⟩
        all_goals (intro v w hF; (try simp at hF); first | exact ⟨_, .inl ⟨by simp [Region.wanted], fun w => by simp [execOp, Act.eval, hF]; rfl⟩, fun w => rfl⟩ | (refine ⟨_, .inl ⟨by simp [Region.wanted], fun w => ?_⟩, fun w => rfl⟩; first | (simp [execOp, Act.eval, hF]; done) | (simp [go_sem, execOp, Act.eval, hF, *]; done)))
      (intro v w1 hb hF; simp [List.range, List.range.loop] at hF; have hz := hb.size; (try simp at hz); (try (have hk := bcl hb (w.heap.size) (by first | omega | (simp; done) | (simp; omega)); have hc := hk.1; have hf := hk.2.1; have hk := hk.2.2)))
      obtain ⟨e0, e1, e2, e3, e4, e5, e6, e7, e8, e9, e10, gs, e11, hgs, hgss, hgsb⟩ := hF
      simp only [List.length_cons, List.length_nil, List.drop_succ_cons, List.drop_zero, e0, e1, e2, e3, e4, e5, e6, e7, e8, e9, e10, e11]
      clear e0 e1 e2 e3 e4 e5 e6 e7 e8 e9 e10 e11 v
      have hcgs := blk_cell hgsb; have hfgs := blk_free hgsb; have Hgs := Lib.hid hgsb; clear hgsb; (try simp at hgs)
      have hz8 := hb.size
      have HB8 := Lib.hid hb
      have hq1 := HQ.out.below hb
      have HQ1 := Lib.hid hq1
      have HOW1 := Lib.hid (HOW.out.below hb)
      have hx1 : w1.cell? ⟨w.heap.size, i, none⟩ = some (.slice A n1 c) := (hb.cell (p := ⟨w.heap.size, i, none⟩) hgl).trans hx
      have HX1 := Lib.hid hx1
      rw [HN1.out] at HOW1
      obtain ⟨cur1, us1, hblk1, _⟩ := hq1.ex
      have HBK1 := Lib.hid hblk1
      clear hb hq1 hx1 hx hblk1
      go_wp2_with (at_builtin
                   refine append_i rfl (.tmp 29) (.tmp 31) rfl (w.heap.size + 1) _ q rfl HOW1.out _ 1 (k : Int) _ rfl Hgs.out (by rw [HN1.out]; omega) (by omega) ?_
                   intro v2 w2 hown2 hg2 hat2
                   obtain ⟨A2, c2, e2, _⟩ := OwnJ.form hown2.weak
                   subst e2
                   refine Kept.out ?_)
      have hrow : ∀ g, (Value.slice A n1 c).ownBlock = some g → w.heap.size + 1 ≤ g := fun g hg => (OwnI.row HOW1.out g hg).1
      have hblk2 := (hg2.block w.heap.size (by omega) (fun e => by have := hrow _ e.symm; omega)).trans HBK1.out
      have hx2 : w2.cell? ⟨w.heap.size, i, none⟩ = some (.slice A n1 c) := by rw [blk_cell hblk2, ← blk_cell HBK1.out]; exact HX1.out
      have hf2 := blk_free hblk2
      have hl2 := blk_lt hblk2
      have HW2 : Hid (Below w.heap.size w w2) := Lib.hid (below_own hg2 (by have hb := HB.out; have hb8 := HB8.out; (repeat' (first | (with_reducible exact Below.refl _ _) | (with_reducible assumption) | (with_reducible refine Below.alloc ?_ ?_ _) | (with_reducible refine below_drewN ?_ _) | (with_reducible refine Below.drew ?_) | (with_reducible refine Below.setCell ?_ ?_ _) | (with_reducible refine below_call (by assumption) ?_ ?_) | (with_reducible refine below_grown (by assumption) ?_ ?_ ?_) | omega | (simp; done) | (simp; omega)))) (by omega) (fun g hg => by have := hrow g hg; omega))
      have HPUT := Lib.hid (HasQO.put HQ1.out (by omega) (by simp; exact hi) HX1.out hg2 hown2 hat2)
      clear hblk2 hg2 hown2 hat2 hrow
      refine Kept.mk ?_
      go_wp2
      go_roundw
      case rel => exact ⟨k + 1, by omega, congrArg (Value.int .i64) (by push_cast; omega), by rw [HSET.out, ← HQE.out]; have hp := HPUT.out; rw [List.length_append] at hp; exact hp, by have hb := HW2.out; (repeat' (first | (with_reducible exact Below.refl _ _) | (with_reducible assumption) | (with_reducible refine Below.alloc ?_ ?_ _) | (with_reducible refine below_drewN ?_ _) | (with_reducible refine Below.drew ?_) | (with_reducible refine Below.setCell ?_ ?_ _) | (with_reducible refine below_call (by assumption) ?_ ?_) | (with_reducible refine below_grown (by assumption) ?_ ?_ ?_) | omega | (simp; done) | (simp; omega)))⟩
      case measure => simp [intOf]; omega
    · obtain rfl : count = k := by omega
      have eb : decide ((count : Int) < count) = false := by simp
      have HQ0 : Hid (HasQI wo w.heap.size (startW (count : Int) (ws : Int)).qs none) := Lib.hid (by
        have := HQ.out.reads (by omega)
        have e : (startW (count : Int) (ws : Int)).qs = (List.range ws).map (startQ (count : Int) (ws : Int)) := by simp [startW]
        rw [e]; exact this)
      clear hk HQ hlt
      go_wp2
      go_loopw [9, 10] (fun v i wr => ∃ n : Nat, i = .int .i64 (n : Int) ∧ OwnC 30 (w.heap.size + 1) wr v (runW script count ws n).out ∧ HasQI wr w.heap.size (runW script count ws n).qs v.ownBlock ∧ RunOk script count ws n ∧ Below w.heap.size w wr) (fun _ i _ => measW script count ws (intOf i).toNat (runW script count ws (intOf i).toNat))
      case atStart => exact ⟨0, rfl, OwnC.nil _ _ _, HQ0.out, RunOk.zero HW.out h16, HB.out⟩
      case round =>
        obtain ⟨wo, rfl⟩ : ∃ wo : World, wo = wr := ⟨_, rfl⟩
        obtain ⟨k, rfl, hown, hq, hrun, hbel⟩ := hrel
        clear HB HQ0 hsz hgl
        have hsz := hbel.size
        have hnear := hrun.near
        have hgl := hq.lt
        obtain ⟨L, hL⟩ : ∃ L, (runW script count ws k).out = L := ⟨_, rfl⟩
        rw [hL] at hown
        obtain ⟨A1, c1, rfl, hI1, hc11, hc12, hA1⟩ := hown.form
        obtain ⟨N, hN⟩ : ∃ N, L.length = N := ⟨_, rfl⟩
        rw [hN] at hown hI1 hq hc11 ⊢
        have hNc : N ≤ count := by rw [← hN, ← hL]; exact hrun.len.2
        have hql : (runW script count ws k).qs.length = ws := hrun.len.1
        have HQL := Lib.hid hql
        have HO := Lib.hid hown
        have HQ := Lib.hid hq
        have HR := Lib.hid hrun
        have HB := Lib.hid hbel
        have HI1 := Lib.hid hI1
        have HLL := Lib.hid hL
        have HN := Lib.hid hN
        clear hown hq hrun hbel hI1 hL hN hql
        by_cases hlt : N < count
        · have eb : decide ((N : Int) < count) = true := decide_eq_true (by omega)
          have hNi : (N : Int) < count := by omega
          obtain ⟨i, j, hij, hi, hj⟩ := turn_nat HW.out k
          have hii : (i : Int) < ws := by omega
          have hji : (j : Int) < ws := by omega
          have HIJ := Lib.hid hij
          have HR1 := Lib.hid (HR.out.next HW.out (by rw [HLL.out, HN.out]; exact hlt))
          have e1 : IntKind.i64.wrap ((k : Int) + 1) = (k : Int) + 1 := IntWalk.i64_in _ (by omega)
          clear hij
          by_cases hks : k < m
          · have eks : decide ((k : Int) < m) = true := decide_eq_true (by omega)
            have hksi : (k : Int) < m := by omega
            obtain ⟨r1, hr1⟩ : ∃ r, Int.tmod (k : Int) (ws : Int) = r := ⟨_, rfl⟩
            obtain ⟨r2, hr2⟩ : ∃ r, Int.tmod ((k : Int) + 1) (ws : Int) = r := ⟨_, rfl⟩
            obtain ⟨b, o, hAS, hbl, x0, x1⟩ := (HS.out.below HB.out).at_ hks
            have hp := HIJ.out
            rw [turn_script (by rw [HSL.out]; exact hks)] at hp
            rw [(px_script hp).1] at x0
            rw [(px_script hp).2] at x1
            subst hAS
            clear hp
            go_wp2_with fail
            apply wp_region_pure (by kernel_rfl) ([] :: [] :: [0, 1] :: [] :: [3] :: [] :: [4, 5] :: [2, 6] :: [] :: []) (RS.det [] _ :: RS.det [] _ :: RS.det [0, 1] _ :: RS.det [] _ :: RS.det [3] _ :: RS.det [] _ :: RS.det [4, 5] _ :: RS.det [2, 6] _ :: RS.box [] _ #[.int .i64 0, .int .i64 0] 33 :: []) [] rfl (by kernel_rfl) (fun h => absurd rfl h) (by kernel_rfl) (by kernel_rfl) (st_det (st_det (st_det (st_det (st_det (st_det (st_det (st_det (st_box st_nil))))))))) _ (fun v => by simp; rfl)
            case hop =>
              simp only [Obls]
              refine ⟨?_, ?_, ?_, ?_, ?_, ?_, ?_, ?_, ?_, trivial⟩
              · (intro v w1 K hb hF hK; (try simp at hF); simp at hK; (try simp only [hF] at hK); have hz := hb.size; (try simp at hz))
                go_simp
                (try simp only [])
                exact hK _ _ rfl (by (repeat' (first | (with_reducible exact Below.refl _ _) | (with_reducible assumption) | (with_reducible refine Below.alloc ?_ ?_ _) | (with_reducible refine below_drewN ?_ _) | (with_reducible refine Below.drew ?_) | (with_reducible refine Below.setCell ?_ ?_ _) | (with_reducible refine below_call (by assumption) ?_ ?_) | go_size)))
              · (intro v w1 K hb hF hK; (try simp at hF); simp at hK; (try simp only [hF] at hK); have hz := hb.size; (try simp at hz))
                go_simp
                (try simp only [])
                exact hK _ _ rfl (by (repeat' (first | (with_reducible exact Below.refl _ _) | (with_reducible assumption) | (with_reducible refine Below.alloc ?_ ?_ _) | (with_reducible refine below_drewN ?_ _) | (with_reducible refine Below.drew ?_) | (with_reducible refine Below.setCell ?_ ?_ _) | (with_reducible refine below_call (by assumption) ?_ ?_) | go_size)))
              · (intro v w1 K hb hF hK; (try simp at hF); simp at hK; (try simp only [hF] at hK); have hz := hb.size; (try simp at hz))
                go_simp
                (try simp only [])
                exact hK _ _ rfl (by (repeat' (first | (with_reducible exact Below.refl _ _) | (with_reducible assumption) | (with_reducible refine Below.alloc ?_ ?_ _) | (with_reducible refine below_drewN ?_ _) | (with_reducible refine Below.drew ?_) | (with_reducible refine Below.setCell ?_ ?_ _) | (with_reducible refine below_call (by assumption) ?_ ?_) | go_size)))
              · (intro v w1 K hb hF hK; (try simp at hF); simp at hK; (try simp only [hF] at hK); have hz := hb.size; (try simp at hz))
                go_simp
                (try simp only [])
                exact hK _ _ rfl (by (repeat' (first | (with_reducible exact Below.refl _ _) | (with_reducible assumption) | (with_reducible refine Below.alloc ?_ ?_ _) | (with_reducible refine below_drewN ?_ _) | (with_reducible refine Below.drew ?_) | (with_reducible refine Below.setCell ?_ ?_ _) | (with_reducible refine below_call (by assumption) ?_ ?_) | go_size)))
              · (intro v w1 K hb hF hK; (try simp at hF); simp at hK; (try simp only [hF] at hK); have hz := hb.size; (try simp at hz))
                go_simp
                (try simp only [])
                exact hK _ _ rfl (by (repeat' (first | (with_reducible exact Below.refl _ _) | (with_reducible assumption) | (with_reducible refine Below.alloc ?_ ?_ _) | (with_reducible refine below_drewN ?_ _) | (with_reducible refine Below.drew ?_) | (with_reducible refine Below.setCell ?_ ?_ _) | (with_reducible refine below_call (by assumption) ?_ ?_) | go_size)))
              · (intro v w1 K hb hF hK; (try simp at hF); simp at hK; (try simp only [hF] at hK); have hz := hb.size; (try simp at hz))
                go_simp
                (try simp only [])
                exact hK _ _ rfl (by (repeat' (first | (with_reducible exact Below.refl _ _) | (with_reducible assumption) | (with_reducible refine Below.alloc ?_ ?_ _) | (with_reducible refine below_drewN ?_ _) | (with_reducible refine Below.drew ?_) | (with_reducible refine Below.setCell ?_ ?_ _) | (with_reducible refine below_call (by assumption) ?_ ?_) | go_size)))
              · (intro v w1 K hb hF hK; (try simp at hF); simp at hK; (try simp only [hF] at hK); have hz := hb.size; (try simp at hz))
                go_simp
                (try simp only [])
                exact hK _ _ rfl (by (repeat' (first | (with_reducible exact Below.refl _ _) | (with_reducible assumption) | (with_reducible refine Below.alloc ?_ ?_ _) | (with_reducible refine below_drewN ?_ _) | (with_reducible refine Below.drew ?_) | (with_reducible refine Below.setCell ?_ ?_ _) | (with_reducible refine below_call (by assumption) ?_ ?_) | go_size)))
              · (intro v w1 K hb hF hK; (try simp at hF); simp at hK; (try simp only [hF] at hK); have hz := hb.size; (try simp at hz))
                go_simp
                (try simp only [])
                exact hK _ _ rfl (by (repeat' (first | (with_reducible exact Below.refl _ _) | (with_reducible assumption) | (with_reducible refine Below.alloc ?_ ?_ _) | (with_reducible refine below_drewN ?_ _) | (with_reducible refine Below.drew ?_) | (with_reducible refine Below.setCell ?_ ?_ _) | (with_reducible refine below_call (by assumption) ?_ ?_) | go_size)))
              · (intro v w1 K hb hF hK; (try simp at hF); simp at hK; (try simp only [hF] at hK); have hz := hb.size; (try simp at hz))
                go_simp
                (try simp only [])
                exact hK _ _ (isBox_new _ _ hb.size) (by (repeat' (first | (with_reducible exact Below.refl _ _) | (with_reducible assumption) | (with_reducible refine Below.alloc ?_ ?_ _) | (with_reducible refine below_drewN ?_ _) | (with_reducible refine Below.drew ?_) | (with_reducible refine Below.setCell ?_ ?_ _) | (with_reducible refine below_call (by assumption) ?_ ?_) | go_size)))
            case hfo => exact trivial
            (intro v w1 hb hF; simp [List.range, List.range.loop] at hF; have hz := hb.size; (try simp at hz); (try (have hk := bcl hb (b) (by first | omega | (simp; done) | (simp; omega)); have hc := hk.1; have hf := hk.2.1; have hk := hk.2.2)))
            obtain ⟨e0, e1, e2, e3, e4, e5, e6, e7, gt, e8, hgt, hgts, hgtb⟩ := hF
            simp only [List.length_cons, List.length_nil, List.drop_succ_cons, List.drop_zero, e0, e1, e2, e3, e4, e5, e6, e7, e8]
            clear e0 e1 e2 e3 e4 e5 e6 e7 e8 v
            have hcgt := blk_cell hgtb; have hfgt := blk_free hgtb; have Hgt := Lib.hid hgtb; clear hgtb; (try simp at hgt)
            have hz8 := hb.size
            have hW := blk_set2 (blk_set2 Hgt.out (.int .i64 r1) (.int .i64 r2)) (.int .i64 (i : Int)) (.int .i64 (j : Int))
            have hcp0 := blk_cell hW 0
            have hcp1 := blk_cell hW 1
            simp only [List.getElem?_toArray, List.getElem?_cons_zero, List.getElem?_cons_succ] at hcp0 hcp1
            have KP : Hid (TnB i j gt wo ((((w1.setCell ⟨gt, 0, none⟩ (.int .i64 r1)).setCell ⟨gt, 1, none⟩ (.int .i64 r2)).setCell ⟨gt, 0, none⟩ (.int .i64 (i : Int))).setCell ⟨gt, 1, none⟩ (.int .i64 (j : Int)))) := Lib.hid ⟨hW, by (repeat' (first | (with_reducible exact Below.refl _ _) | (with_reducible assumption) | (with_reducible refine Below.alloc ?_ ?_ _) | (with_reducible refine below_drewN ?_ _) | (with_reducible refine Below.drew ?_) | (with_reducible refine Below.setCell ?_ ?_ _) | (with_reducible refine below_call (by assumption) ?_ ?_) | (with_reducible refine below_grown (by assumption) ?_ ?_ ?_) | omega | (simp; done) | (simp; omega)))⟩
            clear hb hW
            go_wp2_with fail
            generalize ((((w1.setCell ⟨gt, 0, none⟩ (.int .i64 r1)).setCell ⟨gt, 1, none⟩ (.int .i64 r2)).setCell ⟨gt, 0, none⟩ (.int .i64 (i : Int))).setCell ⟨gt, 1, none⟩ (.int .i64 (j : Int))) = w4 at KP ⊢
            clear hcp0 hcp1
            have hb4 := KP.out.bel
            have hz4 := hb4.size
            have hbt := KP.out.at_
            have hlt4 := blk_lt hbt
            have hct4 := blk_cell hbt
            have hft4 := blk_free hbt
            have HQ4 := Lib.hid (HQ.out.below hb4)
            obtain ⟨Ai, ci, qi, hqi, hxi, hci, hmi, hIi, hSi⟩ := HQ4.out.at_ (i := i) (by rw [HQL.out]; exact hi)
            obtain ⟨Aj, cj, qj, hqj, hxj, hcj, hmj, hIj, hSj⟩ := HQ4.out.at_ (i := j) (by rw [HQL.out]; exact hj)
            have hq4l := HQ4.out.lt
            have HQI := Lib.hid hqi
            have HQJ := Lib.hid hqj
            have HII := Lib.hid hIi
            have HIJ2 := Lib.hid hIj
            have HSI := Lib.hid hSi
            have HSJ := Lib.hid hSj
            have HBT := Lib.hid hbt
            have HB4 := Lib.hid hb4
            clear hqi hqj hIi hIj hSi hSj hbt hb4 KP
            obtain ⟨n1, hn1⟩ : ∃ n, qi.length = n := ⟨_, rfl⟩
            obtain ⟨n2, hn2⟩ : ∃ n, qj.length = n := ⟨_, rfl⟩
            rw [hn1] at hxi hci
            rw [hn2] at hxj hcj
            have HN1 := Lib.hid hn1
            have HN2 := Lib.hid hn2
            clear hn1 hn2
            have qai : qAt (runW script count ws k).qs ((i : Nat) : Int) = qi := by simp [qAt, List.getD, HQI.out]
            have qaj : qAt (runW script count ws k).qs ((j : Nat) : Int) = qj := by simp [qAt, List.getD, HQJ.out]
            have QAI := Lib.hid qai
            have QAJ := Lib.hid qaj
            clear qai qaj
            rcases Nat.eq_zero_or_pos n1 with h01 | h01
            · have e01 : decide ((0 : Int) < n1) = false := decide_eq_false (by omega)
              have e01n : decide (0 < n1) = false := decide_eq_false (by omega)
              have e01' : ¬ (0 : Int) < n1 := by omega
              have hqe : qi = [] := List.length_eq_zero_iff.1 (by rw [HN1.out]; exact h01)
              have HQE := Lib.hid hqe
              clear hqe h01
              rcases Nat.eq_zero_or_pos n2 with h02 | h02
              · have e02 : decide ((0 : Int) < n2) = false := decide_eq_false (by omega)
                have e02n : decide (0 < n2) = false := decide_eq_false (by omega)
                have e02' : ¬ (0 : Int) < n2 := by omega
                have hqe2 : qj = [] := List.length_eq_zero_iff.1 (by rw [HN2.out]; exact h02)
                have hstep : runW script count ws (k + 1) = ⟨(runW script count ws k).qs, L ++ []⟩ := by
                  rw [step_eq (q := (runW script count ws k).qs) (y := none) HIJ.out (by unfold turnQ; rw [QAI.out, QAJ.out, HQE.out, hqe2]; simp), HLL.out]; rfl
                rw [List.append_nil] at hstep
                have HSE := Lib.hid hstep
                clear hqe2 h02 hstep
                go_wp2_with fail
                go_quiet (fail)
                go_wp2
                go_roundw
                case rel => exact ⟨k + 1, congrArg (Value.int .i64) (by push_cast; omega), by rw [HSE.out]; exact HO.out.below (by have hb4 := HB4.out; (repeat' (first | (with_reducible exact Below.refl _ _) | (with_reducible assumption) | (with_reducible refine Below.alloc ?_ ?_ _) | (with_reducible refine below_drewN ?_ _) | (with_reducible refine Below.drew ?_) | (with_reducible refine Below.setCell ?_ ?_ _) | (with_reducible refine below_call (by assumption) ?_ ?_) | (with_reducible refine below_grown (by assumption) ?_ ?_ ?_) | omega | (simp; done) | (simp; omega)))), by rw [HSE.out]; exact HQ4.out.below (by (repeat' (first | (with_reducible exact Below.refl _ _) | (with_reducible assumption) | (with_reducible refine Below.alloc ?_ ?_ _) | (with_reducible refine below_drewN ?_ _) | (with_reducible refine Below.drew ?_) | (with_reducible refine Below.setCell ?_ ?_ _) | (with_reducible refine below_call (by assumption) ?_ ?_) | (with_reducible refine below_grown (by assumption) ?_ ?_ ?_) | omega | (simp; done) | (simp; omega)))), HR1.out.1, by have hb4 := HB4.out; have hb := HB.out; (repeat' (first | (with_reducible exact Below.refl _ _) | (with_reducible assumption) | (with_reducible refine Below.alloc ?_ ?_ _) | (with_reducible refine below_drewN ?_ _) | (with_reducible refine Below.drew ?_) | (with_reducible refine Below.setCell ?_ ?_ _) | (with_reducible refine below_call (by assumption) ?_ ?_) | (with_reducible refine below_grown (by assumption) ?_ ?_ ?_) | omega | (simp; done) | (simp; omega)))⟩
                case measure => exact HR1.out.2
              · have e02 : decide ((0 : Int) < n2) = true := decide_eq_true (by omega)
                have e02n : decide (0 < n2) = true := decide_eq_true (by omega)
                have e02' : (0 : Int) < n2 := by omega
                obtain ⟨b2, o2, hAj, hbl2, hcl2⟩ := HIJ2.out.2 (by rw [HN2.out]; exact h02)
                have hdq : 0 < qj.length := by rw [HN2.out]; exact h02
                have hy0 := hcl2 0 (.int .i64 (nt qj 0)) (iv_at hdq)
                rw [Nat.add_zero] at hy0
                obtain ⟨y, hy⟩ : ∃ y, nt qj 0 = y := ⟨_, rfl⟩
                rw [hy] at hy0
                have hdl : qj.tail.length = n2 - 1 := by rw [List.length_tail, HN2.out]
                have hlast : qj.head? = some y := by
                  rw [List.head?_eq_getElem?, List.getElem?_eq_getElem hdq, ← hy, nt_eq hdq]
                have hne : qj ≠ [] := List.length_pos_iff.1 hdq
                have hstep : runW script count ws (k + 1) = ⟨(runW script count ws k).qs.set j qj.tail, L ++ [((i : Int), y)]⟩ := by
                  rw [step_eq (q := (runW script count ws k).qs.set j qj.tail) (y := some y) HIJ.out (by unfold turnQ; rw [QAI.out, HQE.out, if_neg (by simp), QAJ.out, if_pos hne, hlast]; simp [qSet]), HLL.out]; rfl
                have HSE := Lib.hid hstep
                have HDL := Lib.hid hdl
                have hdn : (1 : Int) ≤ n2 := by omega
                have hdc : (1 : Int) ≤ cj := by omega
                subst hAj
                clear hdq hy hdl hlast hne hstep hcl2
                go_wp2_with fail
                go_quiet (fail)
                go_wp2_with fail
                obtain ⟨w5, hw5⟩ : ∃ x : World, x = w4.drewN nq := ⟨_, rfl⟩
                have hb45 : Below w4.heap.size w4 w5 := by rw [hw5]; (repeat' (first | (with_reducible exact Below.refl _ _) | (with_reducible assumption) | (with_reducible refine Below.alloc ?_ ?_ _) | (with_reducible refine below_drewN ?_ _) | (with_reducible refine Below.drew ?_) | (with_reducible refine Below.setCell ?_ ?_ _) | (with_reducible refine below_call (by assumption) ?_ ?_) | (with_reducible refine below_grown (by assumption) ?_ ?_ ?_) | omega | (simp; done) | (simp; omega)))
                rw [← hw5]
                clear hw5
                have hz5 := hb45.size
                have hbt5 := blk_below HBT.out hb45
                have hct5 := blk_cell hbt5
                have hft5 := blk_free hbt5
                have hlt5 := blk_lt hbt5
                have HBT5 := Lib.hid hbt5
                have hy5 := (hb45.cell (p := ⟨b2, o2, none⟩) hbl2).trans hy0
                have hbl5 : b2 < w5.heap.size := by omega
                have HQ5 := Lib.hid (HQ4.out.below hb45)
                have HI5 := Lib.hid (HIJ2.out.below hb45)
                have HB5 : Hid (Below wo.heap.size wo w5) := Lib.hid (by have hb4 := HB4.out; (repeat' (first | (with_reducible exact Below.refl _ _) | (with_reducible assumption) | (with_reducible refine Below.alloc ?_ ?_ _) | (with_reducible refine below_drewN ?_ _) | (with_reducible refine Below.drew ?_) | (with_reducible refine Below.setCell ?_ ?_ _) | (with_reducible refine below_call (by assumption) ?_ ?_) | (with_reducible refine below_grown (by assumption) ?_ ?_ ?_) | omega | (simp; done) | (simp; omega))))
                clear hb45 hbt5 hct4 hft4 hy0 hbl2
                apply wp_region_pure (by kernel_rfl) ([] :: [] :: [1] :: [] :: [3] :: [4] :: [2, 5] :: [6] :: []) (RS.det [] _ :: RS.det [] _ :: RS.det [1] _ :: RS.det [] _ :: RS.det [3] _ :: RS.det [4] _ :: RS.det [2, 5] _ :: RS.sl [6] _ _ _ _ :: []) [0] rfl (by kernel_rfl) (by intro _ c a d v w h; cases d <;> exact h) (by kernel_rfl) (by kernel_rfl) (st_det (st_det (st_det (st_det (st_det (st_det (st_det (st_sl st_nil)))))))) _ (fun v => by simp; rfl)
                case hop =>
                  simp only [Obls]
                  refine ⟨?_, ?_, ?_, ?_, ?_, ?_, ?_, ?_, trivial⟩
                  · (intro v w1 K hb hF hK; (try simp at hF); simp at hK; (try simp only [hF] at hK); have hz := hb.size; (try simp at hz))
                    go_simp
                    (try simp only [])
                    exact hK _ _ rfl (by (repeat' (first | (with_reducible exact Below.refl _ _) | (with_reducible assumption) | (with_reducible refine Below.alloc ?_ ?_ _) | (with_reducible refine below_drewN ?_ _) | (with_reducible refine Below.drew ?_) | (with_reducible refine Below.setCell ?_ ?_ _) | (with_reducible refine below_call (by assumption) ?_ ?_) | go_size)))
                  · (intro v w1 K hb hF hK; (try simp at hF); simp at hK; (try simp only [hF] at hK); have hz := hb.size; (try simp at hz))
                    go_simp
                    (try simp only [])
                    exact hK _ _ rfl (by (repeat' (first | (with_reducible exact Below.refl _ _) | (with_reducible assumption) | (with_reducible refine Below.alloc ?_ ?_ _) | (with_reducible refine below_drewN ?_ _) | (with_reducible refine Below.drew ?_) | (with_reducible refine Below.setCell ?_ ?_ _) | (with_reducible refine below_call (by assumption) ?_ ?_) | go_size)))
                  · (intro v w1 K hb hF hK; (try simp at hF); simp at hK; (try simp only [hF] at hK); have hz := hb.size; (try simp at hz); (try (have hk := bcl hb (gt) (by first | omega | (simp; done) | (simp; omega)); have hc := hk.1; have hf := hk.2.1; have hk := hk.2.2)); (try (have hk := bcl hb (b2) (by first | omega | (simp; done) | (simp; omega)); have hc := hk.1; have hf := hk.2.1; have hk := hk.2.2)))
                    go_simp
                    (try simp only [])
                    exact hK _ _ rfl (by (repeat' (first | (with_reducible exact Below.refl _ _) | (with_reducible assumption) | (with_reducible refine Below.alloc ?_ ?_ _) | (with_reducible refine below_drewN ?_ _) | (with_reducible refine Below.drew ?_) | (with_reducible refine Below.setCell ?_ ?_ _) | (with_reducible refine below_call (by assumption) ?_ ?_) | go_size)))
                  · (intro v w1 K hb hF hK; (try simp at hF); simp at hK; (try simp only [hF] at hK); have hz := hb.size; (try simp at hz))
                    go_simp
                    (try simp only [])
                    exact hK _ _ rfl (by (repeat' (first | (with_reducible exact Below.refl _ _) | (with_reducible assumption) | (with_reducible refine Below.alloc ?_ ?_ _) | (with_reducible refine below_drewN ?_ _) | (with_reducible refine Below.drew ?_) | (with_reducible refine Below.setCell ?_ ?_ _) | (with_reducible refine below_call (by assumption) ?_ ?_) | go_size)))
                  · (intro v w1 K hb hF hK; (try simp at hF); simp at hK; (try simp only [hF] at hK); have hz := hb.size; (try simp at hz))
                    go_simp
                    (try simp only [])
                    exact hK _ _ rfl (by (repeat' (first | (with_reducible exact Below.refl _ _) | (with_reducible assumption) | (with_reducible refine Below.alloc ?_ ?_ _) | (with_reducible refine below_drewN ?_ _) | (with_reducible refine Below.drew ?_) | (with_reducible refine Below.setCell ?_ ?_ _) | (with_reducible refine below_call (by assumption) ?_ ?_) | go_size)))
                  · (intro v w1 K hb hF hK; (try simp at hF); simp at hK; (try simp only [hF] at hK); have hz := hb.size; (try simp at hz); (try (have hk := bcl hb (gt) (by first | omega | (simp; done) | (simp; omega)); have hc := hk.1; have hf := hk.2.1; have hk := hk.2.2)); (try (have hk := bcl hb (b2) (by first | omega | (simp; done) | (simp; omega)); have hc := hk.1; have hf := hk.2.1; have hk := hk.2.2)))
                    go_simp
                    (try simp only [])
                    exact hK _ _ rfl (by (repeat' (first | (with_reducible exact Below.refl _ _) | (with_reducible assumption) | (with_reducible refine Below.alloc ?_ ?_ _) | (with_reducible refine below_drewN ?_ _) | (with_reducible refine Below.drew ?_) | (with_reducible refine Below.setCell ?_ ?_ _) | (with_reducible refine below_call (by assumption) ?_ ?_) | go_size)))
                  · (intro v w1 K hb hF hK; (try simp at hF); simp at hK; (try simp only [hF] at hK); have hz := hb.size; (try simp at hz))
                    go_simp
                    (try simp only [])
                    exact hK _ _ rfl (by (repeat' (first | (with_reducible exact Below.refl _ _) | (with_reducible assumption) | (with_reducible refine Below.alloc ?_ ?_ _) | (with_reducible refine below_drewN ?_ _) | (with_reducible refine Below.drew ?_) | (with_reducible refine Below.setCell ?_ ?_ _) | (with_reducible refine below_call (by assumption) ?_ ?_) | go_size)))
                  · (intro v w1 K hb hF hK; (try simp at hF); simp at hK; (try simp only [hF] at hK); have hz := hb.size; (try simp at hz))
                    go_simp
                    (try simp only [])
                    exact hK _ _ (isSl_new _ _ _ hb.size) (by (repeat' (first | (with_reducible exact Below.refl _ _) | (with_reducible assumption) | (with_reducible refine Below.alloc ?_ ?_ _) | (with_reducible refine below_drewN ?_ _) | (with_reducible refine Below.drew ?_) | (with_reducible refine Below.setCell ?_ ?_ _) | (with_reducible refine below_call (by assumption) ?_ ?_) | go_size)))
                case hfo => exact ⟨fun _ => rfl, trivial⟩
                (intro v w1 hb hF; simp [List.range, List.range.loop] at hF; have hz := hb.size; (try simp at hz); (try (have hk := bcl hb (gt) (by first | omega | (simp; done) | (simp; omega)); have hc := hk.1; have hf := hk.2.1; have hk := hk.2.2)); (try (have hk := bcl hb (b2) (by first | omega | (simp; done) | (simp; omega)); have hc := hk.1; have hf := hk.2.1; have hk := hk.2.2)))
                obtain ⟨e0, e1, e2, e3, e4, e5, e6, gs, e7, hgs, hgss, hgsb⟩ := hF
                simp only [List.length_cons, List.length_nil, List.drop_succ_cons, List.drop_zero, e0, e1, e2, e3, e4, e5, e6, e7]
                clear e0 e1 e2 e3 e4 e5 e6 e7 v
                have hcgs := blk_cell hgsb; have hfgs := blk_free hgsb; have Hgs := Lib.hid hgsb; clear hgsb; (try simp at hgs)
                have hz6 := hb.size
                obtain ⟨w6, hw6⟩ : ∃ x : World, x = w1 := ⟨_, rfl⟩
                subst hw6
                have HBT6 := Lib.hid (blk_below HBT5.out hb)
                have HQ6 := Lib.hid (HQ5.out.below hb)
                have HI6 := Lib.hid (HI5.out.below hb)
                have HB6 : Hid (Below wo.heap.size wo w6) := Lib.hid (by have hb5 := HB5.out; (repeat' (first | (with_reducible exact Below.refl _ _) | (with_reducible assumption) | (with_reducible refine Below.alloc ?_ ?_ _) | (with_reducible refine below_drewN ?_ _) | (with_reducible refine Below.drew ?_) | (with_reducible refine Below.setCell ?_ ?_ _) | (with_reducible refine below_call (by assumption) ?_ ?_) | (with_reducible refine below_grown (by assumption) ?_ ?_ ?_) | omega | (simp; done) | (simp; omega))))
                clear hb hct5 hft5 hy5
                go_wp2_with (at_builtin
                             refine append_c rfl (.tmp 96) (.tmp 103) 30 26 Try.underlying26 done_info rfl (w.heap.size + 1) _ L rfl (HO.out.below HB6.out) _ 1 _ _ _ rfl Hgs.out (by rw [HN.out]; omega) (by omega) ?_
                             intro v7 w7 hown7 hg7 hat7
                             obtain ⟨A7, c7, e7, _⟩ := hown7.form
                             rw [List.length_append] at e7
                             subst e7
                             refine Kept.out ?_)
                have hrow : ∀ g, (Value.slice A1 N c1).ownBlock = some g → w.heap.size + 1 ≤ g ∧ g < wo.heap.size := HO.out.row
                have hgt0 : wo.heap.size ≤ gt := by assumption
                have hbt7 := (hg7.block gt (blk_lt HBT6.out) (fun e => by have := (hrow _ e.symm).2; omega)).trans HBT6.out
                have hq7 := HasQI.app HQ6.out hg7 (fun e => by have := (hrow _ e).1; omega) hat7
                have hI7 := isI_grown HI6.out hg7 (fun h0 => (HSJ.out h0).2)
                have hS7 : 0 < qj.length → Sep (blkA (some ⟨b2, o2, none⟩)) (some w.heap.size) ∧ Sep (blkA (some ⟨b2, o2, none⟩)) (Value.slice A7 (L.length + [((i : Int), y)].length) c7).ownBlock := fun h0 => ⟨(HSJ.out h0).1, (HSJ.out h0).2.app hat7 (isI_lt HI6.out h0)⟩
                have hct7 := blk_cell hbt7
                have hft7 := blk_free hbt7
                have hlt7 := blk_lt hbt7
                obtain ⟨A8, c8, q8, _, hx8, _⟩ := hq7.at_ (i := j) (by rw [HQL.out]; exact hj)
                obtain ⟨cur8, hblk8, _⟩ := hq7.ex
                have hf8 := blk_free hblk8
                have hl8 := blk_lt hblk8
                have HQ7 := Lib.hid hq7
                have HI7 := Lib.hid hI7
                have HS7 := Lib.hid hS7
                have HOW7 := Lib.hid hown7
                have HB7 : Hid (Below w.heap.size w w7) := Lib.hid (below_own hg7 (by have hb6 := HB6.out; have hb := HB.out; (repeat' (first | (with_reducible exact Below.refl _ _) | (with_reducible assumption) | (with_reducible refine Below.alloc ?_ ?_ _) | (with_reducible refine below_drewN ?_ _) | (with_reducible refine Below.drew ?_) | (with_reducible refine Below.setCell ?_ ?_ _) | (with_reducible refine below_call (by assumption) ?_ ?_) | (with_reducible refine below_grown (by assumption) ?_ ?_ ?_) | omega | (simp; done) | (simp; omega)))) (by omega) (fun g hg => by have := (hrow g hg).1; omega))
                clear hq7 hI7 hS7 hblk8 hbt7 hg7 hown7 hat7 hrow
                refine Kept.mk ?_
                go_wp2_with fail
                apply wp_region_pure (by kernel_rfl) ([] :: [] :: [1] :: [] :: [3] :: [0, 2] :: []) (RS.det [] _ :: RS.det [] _ :: RS.det [1] _ :: RS.det [] _ :: RS.det [3] _ :: RS.det [0, 2] _ :: []) [] rfl (by kernel_rfl) (fun h => absurd rfl h) (by kernel_rfl) (by kernel_rfl) (st_det (st_det (st_det (st_det (st_det (st_det st_nil)))))) _ (fun v => by simp; rfl)
                case hop =>
                  simp only [Obls]
                  refine ⟨?_, ?_, ?_, ?_, ?_, ?_, trivial⟩
                  · (intro v w1 K hb hF hK; (try simp at hF); simp at hK; (try simp only [hF] at hK); have hz := hb.size; (try simp at hz))
                    go_simp
                    (try simp only [])
                    exact hK _ _ rfl (by (repeat' (first | (with_reducible exact Below.refl _ _) | (with_reducible assumption) | (with_reducible refine Below.alloc ?_ ?_ _) | (with_reducible refine below_drewN ?_ _) | (with_reducible refine Below.drew ?_) | (with_reducible refine Below.setCell ?_ ?_ _) | (with_reducible refine below_call (by assumption) ?_ ?_) | go_size)))
                  · (intro v w1 K hb hF hK; (try simp at hF); simp at hK; (try simp only [hF] at hK); have hz := hb.size; (try simp at hz))
                    go_simp
                    (try simp only [])
                    exact hK _ _ rfl (by (repeat' (first | (with_reducible exact Below.refl _ _) | (with_reducible assumption) | (with_reducible refine Below.alloc ?_ ?_ _) | (with_reducible refine below_drewN ?_ _) | (with_reducible refine Below.drew ?_) | (with_reducible refine Below.setCell ?_ ?_ _) | (with_reducible refine below_call (by assumption) ?_ ?_) | go_size)))
                  · (intro v w1 K hb hF hK; (try simp at hF); simp at hK; (try simp only [hF] at hK); have hz := hb.size; (try simp at hz); (try (have hk := bcl hb (gt) (by first | omega | (simp; done) | (simp; omega)); have hc := hk.1; have hf := hk.2.1; have hk := hk.2.2)); (try (have hk := bcl hb (w.heap.size) (by first | omega | (simp; done) | (simp; omega)); have hc := hk.1; have hf := hk.2.1; have hk := hk.2.2)))
                    go_simp
                    (try simp only [])
                    exact hK _ _ rfl (by (repeat' (first | (with_reducible exact Below.refl _ _) | (with_reducible assumption) | (with_reducible refine Below.alloc ?_ ?_ _) | (with_reducible refine below_drewN ?_ _) | (with_reducible refine Below.drew ?_) | (with_reducible refine Below.setCell ?_ ?_ _) | (with_reducible refine below_call (by assumption) ?_ ?_) | go_size)))
                  · (intro v w1 K hb hF hK; (try simp at hF); simp at hK; (try simp only [hF] at hK); have hz := hb.size; (try simp at hz))
                    go_simp
                    (try simp only [])
                    exact hK _ _ rfl (by (repeat' (first | (with_reducible exact Below.refl _ _) | (with_reducible assumption) | (with_reducible refine Below.alloc ?_ ?_ _) | (with_reducible refine below_drewN ?_ _) | (with_reducible refine Below.drew ?_) | (with_reducible refine Below.setCell ?_ ?_ _) | (with_reducible refine below_call (by assumption) ?_ ?_) | go_size)))
                  · (intro v w1 K hb hF hK; (try simp at hF); simp at hK; (try simp only [hF] at hK); have hz := hb.size; (try simp at hz))
                    go_simp
                    (try simp only [])
                    exact hK _ _ rfl (by (repeat' (first | (with_reducible exact Below.refl _ _) | (with_reducible assumption) | (with_reducible refine Below.alloc ?_ ?_ _) | (with_reducible refine below_drewN ?_ _) | (with_reducible refine Below.drew ?_) | (with_reducible refine Below.setCell ?_ ?_ _) | (with_reducible refine below_call (by assumption) ?_ ?_) | go_size)))
                  · (intro v w1 K hb hF hK; (try simp at hF); simp at hK; (try simp only [hF] at hK); have hz := hb.size; (try simp at hz))
                    go_simp
                    (try simp only [])
                    exact hK _ _ rfl (by (repeat' (first | (with_reducible exact Below.refl _ _) | (with_reducible assumption) | (with_reducible refine Below.alloc ?_ ?_ _) | (with_reducible refine below_drewN ?_ _) | (with_reducible refine Below.drew ?_) | (with_reducible refine Below.setCell ?_ ?_ _) | (with_reducible refine below_call (by assumption) ?_ ?_) | go_size)))
                case hfo => exact trivial
                (intro v w1 hb hF; simp [List.range, List.range.loop] at hF; have hz := hb.size; (try simp at hz); (try (have hk := bcl hb (gt) (by first | omega | (simp; done) | (simp; omega)); have hc := hk.1; have hf := hk.2.1; have hk := hk.2.2)); (try (have hk := bcl hb (w.heap.size) (by first | omega | (simp; done) | (simp; omega)); have hc := hk.1; have hf := hk.2.1; have hk := hk.2.2)))
                obtain ⟨e0, e1, e2, e3, e4, e5⟩ := hF
                simp only [List.length_cons, List.length_nil, List.drop_succ_cons, List.drop_zero, e0, e1, e2, e3, e4, e5]
                clear e0 e1 e2 e3 e4 e5 v
                have HBZ := Lib.hid hb
                have hz9 := hb.size
                clear hb
                go_wp2
                go_roundw
                case rel =>
                  have hA9 : ∃ A9 : Option Addr, (if cj = 1 then (some ⟨b2, o2, none⟩ : Option Addr) else some ⟨b2, o2 + 1, none⟩) = A9 ∧ blkA A9 = some b2 ∧ IsI w1 A9 qj.tail.length qj.tail := by
                    by_cases h9 : cj = 1
                    · have hz : qj.tail = [] := List.length_eq_zero_iff.1 (by rw [HDL.out]; omega)
                      rw [if_pos h9, hz]
                      exact ⟨_, rfl, rfl, IsI.nil _ _⟩
                    · rw [if_neg h9]
                      exact ⟨_, rfl, rfl, isI_tail (HI7.out.below HBZ.out)⟩
                  obtain ⟨A9, hA9, hB9, hI9⟩ := hA9
                  rw [hA9]
                  have hput := HasQI.put (HQ7.out.below HBZ.out) (i := j) (A := A9) (c := cj - 1) (by rw [HQL.out]; exact hj) (by rw [HDL.out]; omega) (by omega) hI9 (fun h0 => by have h := HS7.out (by rw [HN2.out]; exact h02); rw [hB9]; exact h)
                  rw [HDL.out] at hput
                  refine ⟨k + 1, congrArg (Value.int .i64) (by push_cast; omega), ?_, ?_, HR1.out.1, by have hb7 := HB7.out; have hbz := HBZ.out; (repeat' (first | (with_reducible exact Below.refl _ _) | (with_reducible assumption) | (with_reducible refine Below.alloc ?_ ?_ _) | (with_reducible refine below_drewN ?_ _) | (with_reducible refine Below.drew ?_) | (with_reducible refine Below.setCell ?_ ?_ _) | (with_reducible refine below_call (by assumption) ?_ ?_) | (with_reducible refine below_grown (by assumption) ?_ ?_ ?_) | omega | (simp; done) | (simp; omega)))⟩
                  · rw [HSE.out]
                    exact OwnC.grown (HOW7.out.below HBZ.out) (g := w.heap.size) (only_setCell (World.grownBy.refl _ _) (.inl rfl) _) (by omega)
                  · rw [HSE.out]; exact hput
                case measure => exact HR1.out.2
            · have e01 : decide ((0 : Int) < n1) = true := decide_eq_true (by omega)
              have e01n : decide (0 < n1) = true := decide_eq_true (by omega)
              have e01' : (0 : Int) < n1 := by omega
              obtain ⟨d, hd⟩ : ∃ d, n1 - 1 = d := ⟨_, rfl⟩
              obtain ⟨b1, o1, hAi, hbl1, hcl1⟩ := HII.out.2 (by rw [HN1.out]; exact h01)
              have hdq : d < qi.length := by rw [HN1.out]; omega
              have hy0 := hcl1 d (.int .i64 (nt qi d)) (iv_at hdq)
              obtain ⟨y, hy⟩ : ∃ y, nt qi d = y := ⟨_, rfl⟩
              rw [hy] at hy0
              have hdl : qi.dropLast.length = d := by rw [List.length_dropLast, HN1.out]; exact hd
              have hlast : qi.getLast? = some y := by
                rw [List.getLast?_eq_getElem?, HN1.out, hd, List.getElem?_eq_getElem hdq, ← hy, nt_eq hdq]
              have hne : qi ≠ [] := List.length_pos_iff.1 (by rw [HN1.out]; exact h01)
              have hstep : runW script count ws (k + 1) = ⟨(runW script count ws k).qs.set i qi.dropLast, L ++ [((i : Int), y)]⟩ := by
                rw [step_eq (q := (runW script count ws k).qs.set i qi.dropLast) (y := some y) HIJ.out (by unfold turnQ; rw [QAI.out, if_pos hne, hlast]; simp [qSet]), HLL.out]; rfl
              have HSE := Lib.hid hstep
              have HDL := Lib.hid hdl
              have t1 : IntKind.i64.wrap ((n1 : Int) - 1) = ((d : Nat) : Int) := by rw [IntWalk.i64_in _ (by unfold maxLen at hmi; omega)]; omega
              have hdn : (d : Int) < n1 := by omega
              have hdc : (d : Int) ≤ ci := by omega
              subst hAi
              clear hd hdq hy hdl hlast hne hstep hcl1
              go_wp2_with fail
              go_quiet (fail)
              go_wp2_with fail
              obtain ⟨w5, hw5⟩ : ∃ x : World, x = w4.drewN nq := ⟨_, rfl⟩
              have hb45 : Below w4.heap.size w4 w5 := by rw [hw5]; (repeat' (first | (with_reducible exact Below.refl _ _) | (with_reducible assumption) | (with_reducible refine Below.alloc ?_ ?_ _) | (with_reducible refine below_drewN ?_ _) | (with_reducible refine Below.drew ?_) | (with_reducible refine Below.setCell ?_ ?_ _) | (with_reducible refine below_call (by assumption) ?_ ?_) | (with_reducible refine below_grown (by assumption) ?_ ?_ ?_) | omega | (simp; done) | (simp; omega)))
              rw [← hw5]
              clear hw5
              have hz5 := hb45.size
              have hbt5 := blk_below HBT.out hb45
              have hct5 := blk_cell hbt5
              have hft5 := blk_free hbt5
              have hlt5 := blk_lt hbt5
              have HBT5 := Lib.hid hbt5
              have hy5 := (hb45.cell (p := ⟨b1, o1 + d, none⟩) hbl1).trans hy0
              have hbl5 : b1 < w5.heap.size := by omega
              have HQ5 := Lib.hid (HQ4.out.below hb45)
              have HI5 := Lib.hid (HII.out.below hb45)
              have HB5 : Hid (Below wo.heap.size wo w5) := Lib.hid (by have hb4 := HB4.out; (repeat' (first | (with_reducible exact Below.refl _ _) | (with_reducible assumption) | (with_reducible refine Below.alloc ?_ ?_ _) | (with_reducible refine below_drewN ?_ _) | (with_reducible refine Below.drew ?_) | (with_reducible refine Below.setCell ?_ ?_ _) | (with_reducible refine below_call (by assumption) ?_ ?_) | (with_reducible refine below_grown (by assumption) ?_ ?_ ?_) | omega | (simp; done) | (simp; omega))))
              clear hb45 hbt5 hct4 hft4 hy0 hbl1
              apply wp_region_pure (by kernel_rfl) ([] :: [] :: [1] :: [] :: [] :: [4] :: [5] :: [3, 6] :: [7] :: [2, 8] :: [9] :: []) (RS.det [] _ :: RS.det [] _ :: RS.det [1] _ :: RS.det [] _ :: RS.det [] _ :: RS.det [4] _ :: RS.det [5] _ :: RS.det [3, 6] _ :: RS.det [7] _ :: RS.det [2, 8] _ :: RS.sl [9] _ _ _ _ :: []) [0] rfl (by kernel_rfl) (by intro _ c a d v w h; cases d <;> exact h) (by kernel_rfl) (by kernel_rfl) (st_det (st_det (st_det (st_det (st_det (st_det (st_det (st_det (st_det (st_det (st_sl st_nil))))))))))) _ (fun v => by simp; rfl)
              case hop =>
                simp only [Obls]
                refine ⟨?_, ?_, ?_, ?_, ?_, ?_, ?_, ?_, ?_, ?_, ?_, trivial⟩
                · (intro v w1 K hb hF hK; (try simp at hF); simp at hK; (try simp only [hF] at hK); have hz := hb.size; (try simp at hz))
                  go_simp
                  (try simp only [])
                  exact hK _ _ rfl (by (repeat' (first | (with_reducible exact Below.refl _ _) | (with_reducible assumption) | (with_reducible refine Below.alloc ?_ ?_ _) | (with_reducible refine below_drewN ?_ _) | (with_reducible refine Below.drew ?_) | (with_reducible refine Below.setCell ?_ ?_ _) | (with_reducible refine below_call (by assumption) ?_ ?_) | go_size)))
                · (intro v w1 K hb hF hK; (try simp at hF); simp at hK; (try simp only [hF] at hK); have hz := hb.size; (try simp at hz))
                  go_simp
                  (try simp only [])
                  exact hK _ _ rfl (by (repeat' (first | (with_reducible exact Below.refl _ _) | (with_reducible assumption) | (with_reducible refine Below.alloc ?_ ?_ _) | (with_reducible refine below_drewN ?_ _) | (with_reducible refine Below.drew ?_) | (with_reducible refine Below.setCell ?_ ?_ _) | (with_reducible refine below_call (by assumption) ?_ ?_) | go_size)))
                · (intro v w1 K hb hF hK; (try simp at hF); simp at hK; (try simp only [hF] at hK); have hz := hb.size; (try simp at hz); (try (have hk := bcl hb (gt) (by first | omega | (simp; done) | (simp; omega)); have hc := hk.1; have hf := hk.2.1; have hk := hk.2.2)); (try (have hk := bcl hb (b1) (by first | omega | (simp; done) | (simp; omega)); have hc := hk.1; have hf := hk.2.1; have hk := hk.2.2)))
                  go_simp
                  (try simp only [])
                  exact hK _ _ rfl (by (repeat' (first | (with_reducible exact Below.refl _ _) | (with_reducible assumption) | (with_reducible refine Below.alloc ?_ ?_ _) | (with_reducible refine below_drewN ?_ _) | (with_reducible refine Below.drew ?_) | (with_reducible refine Below.setCell ?_ ?_ _) | (with_reducible refine below_call (by assumption) ?_ ?_) | go_size)))
                · (intro v w1 K hb hF hK; (try simp at hF); simp at hK; (try simp only [hF] at hK); have hz := hb.size; (try simp at hz))
                  go_simp
                  (try simp only [])
                  exact hK _ _ rfl (by (repeat' (first | (with_reducible exact Below.refl _ _) | (with_reducible assumption) | (with_reducible refine Below.alloc ?_ ?_ _) | (with_reducible refine below_drewN ?_ _) | (with_reducible refine Below.drew ?_) | (with_reducible refine Below.setCell ?_ ?_ _) | (with_reducible refine below_call (by assumption) ?_ ?_) | go_size)))
                · (intro v w1 K hb hF hK; (try simp at hF); simp at hK; (try simp only [hF] at hK); have hz := hb.size; (try simp at hz))
                  go_simp
                  (try simp only [])
                  exact hK _ _ rfl (by (repeat' (first | (with_reducible exact Below.refl _ _) | (with_reducible assumption) | (with_reducible refine Below.alloc ?_ ?_ _) | (with_reducible refine below_drewN ?_ _) | (with_reducible refine Below.drew ?_) | (with_reducible refine Below.setCell ?_ ?_ _) | (with_reducible refine below_call (by assumption) ?_ ?_) | go_size)))
                · (intro v w1 K hb hF hK; (try simp at hF); simp at hK; (try simp only [hF] at hK); have hz := hb.size; (try simp at hz))
                  go_simp
                  (try simp only [])
                  exact hK _ _ rfl (by (repeat' (first | (with_reducible exact Below.refl _ _) | (with_reducible assumption) | (with_reducible refine Below.alloc ?_ ?_ _) | (with_reducible refine below_drewN ?_ _) | (with_reducible refine Below.drew ?_) | (with_reducible refine Below.setCell ?_ ?_ _) | (with_reducible refine below_call (by assumption) ?_ ?_) | go_size)))
                · (intro v w1 K hb hF hK; (try simp at hF); simp at hK; (try simp only [hF] at hK); have hz := hb.size; (try simp at hz))
                  go_simp
                  (try simp only [])
                  exact hK _ _ rfl (by (repeat' (first | (with_reducible exact Below.refl _ _) | (with_reducible assumption) | (with_reducible refine Below.alloc ?_ ?_ _) | (with_reducible refine below_drewN ?_ _) | (with_reducible refine Below.drew ?_) | (with_reducible refine Below.setCell ?_ ?_ _) | (with_reducible refine below_call (by assumption) ?_ ?_) | go_size)))
                · (intro v w1 K hb hF hK; (try simp at hF); simp at hK; (try simp only [hF] at hK); have hz := hb.size; (try simp at hz))
                  go_simp
                  (try simp only [])
                  exact hK _ _ rfl (by (repeat' (first | (with_reducible exact Below.refl _ _) | (with_reducible assumption) | (with_reducible refine Below.alloc ?_ ?_ _) | (with_reducible refine below_drewN ?_ _) | (with_reducible refine Below.drew ?_) | (with_reducible refine Below.setCell ?_ ?_ _) | (with_reducible refine below_call (by assumption) ?_ ?_) | go_size)))
                · (intro v w1 K hb hF hK; (try simp at hF); simp at hK; (try simp only [hF] at hK); have hz := hb.size; (try simp at hz); (try (have hk := bcl hb (gt) (by first | omega | (simp; done) | (simp; omega)); have hc := hk.1; have hf := hk.2.1; have hk := hk.2.2)); (try (have hk := bcl hb (b1) (by first | omega | (simp; done) | (simp; omega)); have hc := hk.1; have hf := hk.2.1; have hk := hk.2.2)))
                  go_simp
                  (try simp only [])
                  exact hK _ _ rfl (by (repeat' (first | (with_reducible exact Below.refl _ _) | (with_reducible assumption) | (with_reducible refine Below.alloc ?_ ?_ _) | (with_reducible refine below_drewN ?_ _) | (with_reducible refine Below.drew ?_) | (with_reducible refine Below.setCell ?_ ?_ _) | (with_reducible refine below_call (by assumption) ?_ ?_) | go_size)))
                · (intro v w1 K hb hF hK; (try simp at hF); simp at hK; (try simp only [hF] at hK); have hz := hb.size; (try simp at hz))
                  go_simp
                  (try simp only [])
                  exact hK _ _ rfl (by (repeat' (first | (with_reducible exact Below.refl _ _) | (with_reducible assumption) | (with_reducible refine Below.alloc ?_ ?_ _) | (with_reducible refine below_drewN ?_ _) | (with_reducible refine Below.drew ?_) | (with_reducible refine Below.setCell ?_ ?_ _) | (with_reducible refine below_call (by assumption) ?_ ?_) | go_size)))
                · (intro v w1 K hb hF hK; (try simp at hF); simp at hK; (try simp only [hF] at hK); have hz := hb.size; (try simp at hz))
                  go_simp
                  (try simp only [])
                  exact hK _ _ (isSl_new _ _ _ hb.size) (by (repeat' (first | (with_reducible exact Below.refl _ _) | (with_reducible assumption) | (with_reducible refine Below.alloc ?_ ?_ _) | (with_reducible refine below_drewN ?_ _) | (with_reducible refine Below.drew ?_) | (with_reducible refine Below.setCell ?_ ?_ _) | (with_reducible refine below_call (by assumption) ?_ ?_) | go_size)))
              case hfo => exact ⟨fun _ => rfl, trivial⟩
              (intro v w1 hb hF; simp [List.range, List.range.loop] at hF; have hz := hb.size; (try simp at hz); (try (have hk := bcl hb (gt) (by first | omega | (simp; done) | (simp; omega)); have hc := hk.1; have hf := hk.2.1; have hk := hk.2.2)); (try (have hk := bcl hb (b1) (by first | omega | (simp; done) | (simp; omega)); have hc := hk.1; have hf := hk.2.1; have hk := hk.2.2)))
              obtain ⟨e0, e1, e2, e3, e4, e5, e6, e7, e8, e9, gs, e10, hgs, hgss, hgsb⟩ := hF
              simp only [List.length_cons, List.length_nil, List.drop_succ_cons, List.drop_zero, e0, e1, e2, e3, e4, e5, e6, e7, e8, e9, e10]
              clear e0 e1 e2 e3 e4 e5 e6 e7 e8 e9 e10 v
              have hcgs := blk_cell hgsb; have hfgs := blk_free hgsb; have Hgs := Lib.hid hgsb; clear hgsb; (try simp at hgs)
              have hz6 := hb.size
              obtain ⟨w6, hw6⟩ : ∃ x : World, x = w1 := ⟨_, rfl⟩
              subst hw6
              have HBT6 := Lib.hid (blk_below HBT5.out hb)
              have HQ6 := Lib.hid (HQ5.out.below hb)
              have HI6 := Lib.hid (HI5.out.below hb)
              have HB6 : Hid (Below wo.heap.size wo w6) := Lib.hid (by have hb5 := HB5.out; (repeat' (first | (with_reducible exact Below.refl _ _) | (with_reducible assumption) | (with_reducible refine Below.alloc ?_ ?_ _) | (with_reducible refine below_drewN ?_ _) | (with_reducible refine Below.drew ?_) | (with_reducible refine Below.setCell ?_ ?_ _) | (with_reducible refine below_call (by assumption) ?_ ?_) | (with_reducible refine below_grown (by assumption) ?_ ?_ ?_) | omega | (simp; done) | (simp; omega))))
              clear hb hct5 hft5 hy5
              go_wp2_with (at_builtin
                           refine append_c rfl (.tmp 71) (.tmp 81) 30 26 Try.underlying26 done_info rfl (w.heap.size + 1) _ L rfl (HO.out.below HB6.out) _ 1 _ _ _ rfl Hgs.out (by rw [HN.out]; omega) (by omega) ?_
                           intro v7 w7 hown7 hg7 hat7
                           obtain ⟨A7, c7, e7, _⟩ := hown7.form
                           rw [List.length_append] at e7
                           subst e7
                           refine Kept.out ?_)
              have hrow : ∀ g, (Value.slice A1 N c1).ownBlock = some g → w.heap.size + 1 ≤ g ∧ g < wo.heap.size := HO.out.row
              have hgt0 : wo.heap.size ≤ gt := by assumption
              have hbt7 := (hg7.block gt (blk_lt HBT6.out) (fun e => by have := (hrow _ e.symm).2; omega)).trans HBT6.out
              have hq7 := HasQI.app HQ6.out hg7 (fun e => by have := (hrow _ e).1; omega) hat7
              have hI7 := isI_grown HI6.out hg7 (fun h0 => (HSI.out h0).2)
              have hS7 : 0 < qi.length → Sep (blkA (some ⟨b1, o1, none⟩)) (some w.heap.size) ∧ Sep (blkA (some ⟨b1, o1, none⟩)) (Value.slice A7 (L.length + [((i : Int), y)].length) c7).ownBlock := fun h0 => ⟨(HSI.out h0).1, (HSI.out h0).2.app hat7 (isI_lt HI6.out h0)⟩
              have hct7 := blk_cell hbt7
              have hft7 := blk_free hbt7
              have hlt7 := blk_lt hbt7
              obtain ⟨A8, c8, q8, _, hx8, _⟩ := hq7.at_ (i := i) (by rw [HQL.out]; exact hi)
              obtain ⟨cur8, hblk8, _⟩ := hq7.ex
              have hf8 := blk_free hblk8
              have hl8 := blk_lt hblk8
              have HQ7 := Lib.hid hq7
              have HI7 := Lib.hid hI7
              have HS7 := Lib.hid hS7
              have HOW7 := Lib.hid hown7
              have HB7 : Hid (Below w.heap.size w w7) := Lib.hid (below_own hg7 (by have hb6 := HB6.out; have hb := HB.out; (repeat' (first | (with_reducible exact Below.refl _ _) | (with_reducible assumption) | (with_reducible refine Below.alloc ?_ ?_ _) | (with_reducible refine below_drewN ?_ _) | (with_reducible refine Below.drew ?_) | (with_reducible refine Below.setCell ?_ ?_ _) | (with_reducible refine below_call (by assumption) ?_ ?_) | (with_reducible refine below_grown (by assumption) ?_ ?_ ?_) | omega | (simp; done) | (simp; omega)))) (by omega) (fun g hg => by have := (hrow g hg).1; omega))
              clear hq7 hI7 hS7 hblk8 hbt7 hg7 hown7 hat7 hrow
              refine Kept.mk ?_
              go_wp2_with fail
              apply wp_region_pure (by kernel_rfl) ([] :: [] :: [1] :: [] :: [] :: [4] :: [5] :: [3, 6] :: [0, 2] :: []) (RS.det [] _ :: RS.det [] _ :: RS.det [1] _ :: RS.det [] _ :: RS.det [] _ :: RS.det [4] _ :: RS.det [5] _ :: RS.det [3, 6] _ :: RS.det [0, 2] _ :: []) [] rfl (by kernel_rfl) (fun h => absurd rfl h) (by kernel_rfl) (by kernel_rfl) (st_det (st_det (st_det (st_det (st_det (st_det (st_det (st_det (st_det st_nil))))))))) _ (fun v => by simp; rfl)
              case hop =>
                simp only [Obls]
                refine ⟨?_, ?_, ?_, ?_, ?_, ?_, ?_, ?_, ?_, trivial⟩
                · (intro v w1 K hb hF hK; (try simp at hF); simp at hK; (try simp only [hF] at hK); have hz := hb.size; (try simp at hz))
                  go_simp
                  (try simp only [])
                  exact hK _ _ rfl (by (repeat' (first | (with_reducible exact Below.refl _ _) | (with_reducible assumption) | (with_reducible refine Below.alloc ?_ ?_ _) | (with_reducible refine below_drewN ?_ _) | (with_reducible refine Below.drew ?_) | (with_reducible refine Below.setCell ?_ ?_ _) | (with_reducible refine below_call (by assumption) ?_ ?_) | go_size)))
                · (intro v w1 K hb hF hK; (try simp at hF); simp at hK; (try simp only [hF] at hK); have hz := hb.size; (try simp at hz))
                  go_simp
                  (try simp only [])
                  exact hK _ _ rfl (by (repeat' (first | (with_reducible exact Below.refl _ _) | (with_reducible assumption) | (with_reducible refine Below.alloc ?_ ?_ _) | (with_reducible refine below_drewN ?_ _) | (with_reducible refine Below.drew ?_) | (with_reducible refine Below.setCell ?_ ?_ _) | (with_reducible refine below_call (by assumption) ?_ ?_) | go_size)))
                · (intro v w1 K hb hF hK; (try simp at hF); simp at hK; (try simp only [hF] at hK); have hz := hb.size; (try simp at hz); (try (have hk := bcl hb (gt) (by first | omega | (simp; done) | (simp; omega)); have hc := hk.1; have hf := hk.2.1; have hk := hk.2.2)); (try (have hk := bcl hb (w.heap.size) (by first | omega | (simp; done) | (simp; omega)); have hc := hk.1; have hf := hk.2.1; have hk := hk.2.2)))
                  go_simp
                  (try simp only [])
                  exact hK _ _ rfl (by (repeat' (first | (with_reducible exact Below.refl _ _) | (with_reducible assumption) | (with_reducible refine Below.alloc ?_ ?_ _) | (with_reducible refine below_drewN ?_ _) | (with_reducible refine Below.drew ?_) | (with_reducible refine Below.setCell ?_ ?_ _) | (with_reducible refine below_call (by assumption) ?_ ?_) | go_size)))
                · (intro v w1 K hb hF hK; (try simp at hF); simp at hK; (try simp only [hF] at hK); have hz := hb.size; (try simp at hz))
                  go_simp
                  (try simp only [])
                  exact hK _ _ rfl (by (repeat' (first | (with_reducible exact Below.refl _ _) | (with_reducible assumption) | (with_reducible refine Below.alloc ?_ ?_ _) | (with_reducible refine below_drewN ?_ _) | (with_reducible refine Below.drew ?_) | (with_reducible refine Below.setCell ?_ ?_ _) | (with_reducible refine below_call (by assumption) ?_ ?_) | go_size)))
                · (intro v w1 K hb hF hK; (try simp at hF); simp at hK; (try simp only [hF] at hK); have hz := hb.size; (try simp at hz))
                  go_simp
                  (try simp only [])
                  exact hK _ _ rfl (by (repeat' (first | (with_reducible exact Below.refl _ _) | (with_reducible assumption) | (with_reducible refine Below.alloc ?_ ?_ _) | (with_reducible refine below_drewN ?_ _) | (with_reducible refine Below.drew ?_) | (with_reducible refine Below.setCell ?_ ?_ _) | (with_reducible refine below_call (by assumption) ?_ ?_) | go_size)))
                · (intro v w1 K hb hF hK; (try simp at hF); simp at hK; (try simp only [hF] at hK); have hz := hb.size; (try simp at hz))
                  go_simp
                  (try simp only [])
                  exact hK _ _ rfl (by (repeat' (first | (with_reducible exact Below.refl _ _) | (with_reducible assumption) | (with_reducible refine Below.alloc ?_ ?_ _) | (with_reducible refine below_drewN ?_ _) | (with_reducible refine Below.drew ?_) | (with_reducible refine Below.setCell ?_ ?_ _) | (with_reducible refine below_call (by assumption) ?_ ?_) | go_size)))
                · (intro v w1 K hb hF hK; (try simp at hF); simp at hK; (try simp only [hF] at hK); have hz := hb.size; (try simp at hz))
                  go_simp
                  (try simp only [])
                  exact hK _ _ rfl (by (repeat' (first | (with_reducible exact Below.refl _ _) | (with_reducible assumption) | (with_reducible refine Below.alloc ?_ ?_ _) | (with_reducible refine below_drewN ?_ _) | (with_reducible refine Below.drew ?_) | (with_reducible refine Below.setCell ?_ ?_ _) | (with_reducible refine below_call (by assumption) ?_ ?_) | go_size)))
                · (intro v w1 K hb hF hK; (try simp at hF); simp at hK; (try simp only [hF] at hK); have hz := hb.size; (try simp at hz))
                  go_simp
                  (try simp only [])
                  exact hK _ _ rfl (by (repeat' (first | (with_reducible exact Below.refl _ _) | (with_reducible assumption) | (with_reducible refine Below.alloc ?_ ?_ _) | (with_reducible refine below_drewN ?_ _) | (with_reducible refine Below.drew ?_) | (with_reducible refine Below.setCell ?_ ?_ _) | (with_reducible refine below_call (by assumption) ?_ ?_) | go_size)))
                · (intro v w1 K hb hF hK; (try simp at hF); simp at hK; (try simp only [hF] at hK); have hz := hb.size; (try simp at hz))
                  go_simp
                  (try simp only [])
                  exact hK _ _ rfl (by (repeat' (first | (with_reducible exact Below.refl _ _) | (with_reducible assumption) | (with_reducible refine Below.alloc ?_ ?_ _) | (with_reducible refine below_drewN ?_ _) | (with_reducible refine Below.drew ?_) | (with_reducible refine Below.setCell ?_ ?_ _) | (with_reducible refine below_call (by assumption) ?_ ?_) | go_size)))
              case hfo => exact trivial
              (intro v w1 hb hF; simp [List.range, List.range.loop] at hF; have hz := hb.size; (try simp at hz); (try (have hk := bcl hb (gt) (by first | omega | (simp; done) | (simp; omega)); have hc := hk.1; have hf := hk.2.1; have hk := hk.2.2)); (try (have hk := bcl hb (w.heap.size) (by first | omega | (simp; done) | (simp; omega)); have hc := hk.1; have hf := hk.2.1; have hk := hk.2.2)))
              obtain ⟨e0, e1, e2, e3, e4, e5, e6, e7, e8⟩ := hF
              simp only [List.length_cons, List.length_nil, List.drop_succ_cons, List.drop_zero, e0, e1, e2, e3, e4, e5, e6, e7, e8]
              clear e0 e1 e2 e3 e4 e5 e6 e7 e8 v
              have HBZ := Lib.hid hb
              have hz9 := hb.size
              clear hb
              go_wp2
              go_roundw
              case rel =>
                have hput := HasQI.put (HQ7.out.below HBZ.out) (i := i) (c := ci) (by rw [HQL.out]; exact hi) (by rw [HDL.out]; omega) (by omega) (isI_init (HI7.out.below HBZ.out)) (fun h0 => HS7.out (by rw [HN1.out]; exact h01))
                rw [HDL.out] at hput
                refine ⟨k + 1, congrArg (Value.int .i64) (by push_cast; omega), ?_, ?_, HR1.out.1, by have hb7 := HB7.out; have hbz := HBZ.out; (repeat' (first | (with_reducible exact Below.refl _ _) | (with_reducible assumption) | (with_reducible refine Below.alloc ?_ ?_ _) | (with_reducible refine below_drewN ?_ _) | (with_reducible refine Below.drew ?_) | (with_reducible refine Below.setCell ?_ ?_ _) | (with_reducible refine below_call (by assumption) ?_ ?_) | (with_reducible refine below_grown (by assumption) ?_ ?_ ?_) | omega | (simp; done) | (simp; omega)))⟩
                · rw [HSE.out]
                  exact OwnC.grown (HOW7.out.below HBZ.out) (g := w.heap.size) (only_setCell (World.grownBy.refl _ _) (.inl rfl) _) (by omega)
                · rw [HSE.out]; exact hput
              case measure => exact HR1.out.2

          · have eks : decide ((k : Int) < m) = false := decide_eq_false (by omega)
            have hksi : ¬ (k : Int) < m := by omega
            have hp := HIJ.out
            rw [turn_own (by rw [HSL.out]; exact hks)] at hp
            have hr1 : Int.tmod (k : Int) (ws : Int) = (i : Int) := by have e : ((k % ws : Nat) : Int) = (i : Int) := congrArg Prod.fst hp; rw [← e]; rfl
            have hr2 : Int.tmod ((k : Int) + 1) (ws : Int) = (j : Int) := by have e : (((k + 1) % ws : Nat) : Int) = (j : Int) := congrArg Prod.snd hp; rw [← e]; rfl
            clear hp
            go_wp2_with fail
            apply wp_region_pure (by kernel_rfl) ([] :: [] :: [0, 1] :: [] :: [3] :: [] :: [4, 5] :: [2, 6] :: [] :: []) (RS.det [] _ :: RS.det [] _ :: RS.det [0, 1] _ :: RS.det [] _ :: RS.det [3] _ :: RS.det [] _ :: RS.det [4, 5] _ :: RS.det [2, 6] _ :: RS.box [] _ #[.int .i64 0, .int .i64 0] 33 :: []) [] rfl (by kernel_rfl) (fun h => absurd rfl h) (by kernel_rfl) (by kernel_rfl) (st_det (st_det (st_det (st_det (st_det (st_det (st_det (st_det (st_box st_nil))))))))) _ (fun v => by simp; rfl)
            case hop =>
              simp only [Obls]
              refine ⟨?_, ?_, ?_, ?_, ?_, ?_, ?_, ?_, ?_, trivial⟩
              · (intro v w1 K hb hF hK; (try simp at hF); simp at hK; (try simp only [hF] at hK); have hz := hb.size; (try simp at hz))
                go_simp
                (try simp only [])
                exact hK _ _ rfl (by (repeat' (first | (with_reducible exact Below.refl _ _) | (with_reducible assumption) | (with_reducible refine Below.alloc ?_ ?_ _) | (with_reducible refine below_drewN ?_ _) | (with_reducible refine Below.drew ?_) | (with_reducible refine Below.setCell ?_ ?_ _) | (with_reducible refine below_call (by assumption) ?_ ?_) | go_size)))
              · (intro v w1 K hb hF hK; (try simp at hF); simp at hK; (try simp only [hF] at hK); have hz := hb.size; (try simp at hz))
                go_simp
                (try simp only [])
                exact hK _ _ rfl (by (repeat' (first | (with_reducible exact Below.refl _ _) | (with_reducible assumption) | (with_reducible refine Below.alloc ?_ ?_ _) | (with_reducible refine below_drewN ?_ _) | (with_reducible refine Below.drew ?_) | (with_reducible refine Below.setCell ?_ ?_ _) | (with_reducible refine below_call (by assumption) ?_ ?_) | go_size)))
              · (intro v w1 K hb hF hK; (try simp at hF); simp at hK; (try simp only [hF] at hK); have hz := hb.size; (try simp at hz))
                go_simp
                (try simp only [])
                exact hK _ _ rfl (by (repeat' (first | (with_reducible exact Below.refl _ _) | (with_reducible assumption) | (with_reducible refine Below.alloc ?_ ?_ _) | (with_reducible refine below_drewN ?_ _) | (with_reducible refine Below.drew ?_) | (with_reducible refine Below.setCell ?_ ?_ _) | (with_reducible refine below_call (by assumption) ?_ ?_) | go_size)))
              · (intro v w1 K hb hF hK; (try simp at hF); simp at hK; (try simp only [hF] at hK); have hz := hb.size; (try simp at hz))
                go_simp
                (try simp only [])
                exact hK _ _ rfl (by (repeat' (first | (with_reducible exact Below.refl _ _) | (with_reducible assumption) | (with_reducible refine Below.alloc ?_ ?_ _) | (with_reducible refine below_drewN ?_ _) | (with_reducible refine Below.drew ?_) | (with_reducible refine Below.setCell ?_ ?_ _) | (with_reducible refine below_call (by assumption) ?_ ?_) | go_size)))
              · (intro v w1 K hb hF hK; (try simp at hF); simp at hK; (try simp only [hF] at hK); have hz := hb.size; (try simp at hz))
                go_simp
                (try simp only [])
                exact hK _ _ rfl (by (repeat' (first | (with_reducible exact Below.refl _ _) | (with_reducible assumption) | (with_reducible refine Below.alloc ?_ ?_ _) | (with_reducible refine below_drewN ?_ _) | (with_reducible refine Below.drew ?_) | (with_reducible refine Below.setCell ?_ ?_ _) | (with_reducible refine below_call (by assumption) ?_ ?_) | go_size)))
              · (intro v w1 K hb hF hK; (try simp at hF); simp at hK; (try simp only [hF] at hK); have hz := hb.size; (try simp at hz))
                go_simp
                (try simp only [])
                exact hK _ _ rfl (by (repeat' (first | (with_reducible exact Below.refl _ _) | (with_reducible assumption) | (with_reducible refine Below.alloc ?_ ?_ _) | (with_reducible refine below_drewN ?_ _) | (with_reducible refine Below.drew ?_) | (with_reducible refine Below.setCell ?_ ?_ _) | (with_reducible refine below_call (by assumption) ?_ ?_) | go_size)))
              · (intro v w1 K hb hF hK; (try simp at hF); simp at hK; (try simp only [hF] at hK); have hz := hb.size; (try simp at hz))
                go_simp
                (try simp only [])
                exact hK _ _ rfl (by (repeat' (first | (with_reducible exact Below.refl _ _) | (with_reducible assumption) | (with_reducible refine Below.alloc ?_ ?_ _) | (with_reducible refine below_drewN ?_ _) | (with_reducible refine Below.drew ?_) | (with_reducible refine Below.setCell ?_ ?_ _) | (with_reducible refine below_call (by assumption) ?_ ?_) | go_size)))
              · (intro v w1 K hb hF hK; (try simp at hF); simp at hK; (try simp only [hF] at hK); have hz := hb.size; (try simp at hz))
                go_simp
                (try simp only [])
                exact hK _ _ rfl (by (repeat' (first | (with_reducible exact Below.refl _ _) | (with_reducible assumption) | (with_reducible refine Below.alloc ?_ ?_ _) | (with_reducible refine below_drewN ?_ _) | (with_reducible refine Below.drew ?_) | (with_reducible refine Below.setCell ?_ ?_ _) | (with_reducible refine below_call (by assumption) ?_ ?_) | go_size)))
              · (intro v w1 K hb hF hK; (try simp at hF); simp at hK; (try simp only [hF] at hK); have hz := hb.size; (try simp at hz))
                go_simp
                (try simp only [])
                exact hK _ _ (isBox_new _ _ hb.size) (by (repeat' (first | (with_reducible exact Below.refl _ _) | (with_reducible assumption) | (with_reducible refine Below.alloc ?_ ?_ _) | (with_reducible refine below_drewN ?_ _) | (with_reducible refine Below.drew ?_) | (with_reducible refine Below.setCell ?_ ?_ _) | (with_reducible refine below_call (by assumption) ?_ ?_) | go_size)))
            case hfo => exact trivial
            (intro v w1 hb hF; simp [List.range, List.range.loop] at hF; have hz := hb.size; (try simp at hz))
            obtain ⟨e0, e1, e2, e3, e4, e5, e6, e7, gt, e8, hgt, hgts, hgtb⟩ := hF
            simp only [List.length_cons, List.length_nil, List.drop_succ_cons, List.drop_zero, e0, e1, e2, e3, e4, e5, e6, e7, e8]
            clear e0 e1 e2 e3 e4 e5 e6 e7 e8 v
            have hcgt := blk_cell hgtb; have hfgt := blk_free hgtb; have Hgt := Lib.hid hgtb; clear hgtb; (try simp at hgt)
            have hz8 := hb.size
            have KP : Hid (TnB i j gt wo ((w1.setCell ⟨gt, 0, none⟩ (.int .i64 (i : Int))).setCell ⟨gt, 1, none⟩ (.int .i64 (j : Int)))) := Lib.hid ⟨blk_set2 Hgt.out _ _, by (repeat' (first | (with_reducible exact Below.refl _ _) | (with_reducible assumption) | (with_reducible refine Below.alloc ?_ ?_ _) | (with_reducible refine below_drewN ?_ _) | (with_reducible refine Below.drew ?_) | (with_reducible refine Below.setCell ?_ ?_ _) | (with_reducible refine below_call (by assumption) ?_ ?_) | (with_reducible refine below_grown (by assumption) ?_ ?_ ?_) | omega | (simp; done) | (simp; omega)))⟩
            clear hb
            go_wp2_with fail
            generalize ((w1.setCell ⟨gt, 0, none⟩ (.int .i64 (i : Int))).setCell ⟨gt, 1, none⟩ (.int .i64 (j : Int))) = w4 at KP ⊢
            have hb4 := KP.out.bel
            have hz4 := hb4.size
            have hbt := KP.out.at_
            have hlt4 := blk_lt hbt
            have hct4 := blk_cell hbt
            have hft4 := blk_free hbt
            have HQ4 := Lib.hid (HQ.out.below hb4)
            obtain ⟨Ai, ci, qi, hqi, hxi, hci, hmi, hIi, hSi⟩ := HQ4.out.at_ (i := i) (by rw [HQL.out]; exact hi)
            obtain ⟨Aj, cj, qj, hqj, hxj, hcj, hmj, hIj, hSj⟩ := HQ4.out.at_ (i := j) (by rw [HQL.out]; exact hj)
            have hq4l := HQ4.out.lt
            have HQI := Lib.hid hqi
            have HQJ := Lib.hid hqj
            have HII := Lib.hid hIi
            have HIJ2 := Lib.hid hIj
            have HSI := Lib.hid hSi
            have HSJ := Lib.hid hSj
            have HBT := Lib.hid hbt
            have HB4 := Lib.hid hb4
            clear hqi hqj hIi hIj hSi hSj hbt hb4 KP
            obtain ⟨n1, hn1⟩ : ∃ n, qi.length = n := ⟨_, rfl⟩
            obtain ⟨n2, hn2⟩ : ∃ n, qj.length = n := ⟨_, rfl⟩
            rw [hn1] at hxi hci
            rw [hn2] at hxj hcj
            have HN1 := Lib.hid hn1
            have HN2 := Lib.hid hn2
            clear hn1 hn2
            have qai : qAt (runW script count ws k).qs ((i : Nat) : Int) = qi := by simp [qAt, List.getD, HQI.out]
            have qaj : qAt (runW script count ws k).qs ((j : Nat) : Int) = qj := by simp [qAt, List.getD, HQJ.out]
            have QAI := Lib.hid qai
            have QAJ := Lib.hid qaj
            clear qai qaj
            rcases Nat.eq_zero_or_pos n1 with h01 | h01
            · have e01 : decide ((0 : Int) < n1) = false := decide_eq_false (by omega)
              have e01n : decide (0 < n1) = false := decide_eq_false (by omega)
              have e01' : ¬ (0 : Int) < n1 := by omega
              have hqe : qi = [] := List.length_eq_zero_iff.1 (by rw [HN1.out]; exact h01)
              have HQE := Lib.hid hqe
              clear hqe h01
              rcases Nat.eq_zero_or_pos n2 with h02 | h02
              · have e02 : decide ((0 : Int) < n2) = false := decide_eq_false (by omega)
                have e02n : decide (0 < n2) = false := decide_eq_false (by omega)
                have e02' : ¬ (0 : Int) < n2 := by omega
                have hqe2 : qj = [] := List.length_eq_zero_iff.1 (by rw [HN2.out]; exact h02)
                have hstep : runW script count ws (k + 1) = ⟨(runW script count ws k).qs, L ++ []⟩ := by
                  rw [step_eq (q := (runW script count ws k).qs) (y := none) HIJ.out (by unfold turnQ; rw [QAI.out, QAJ.out, HQE.out, hqe2]; simp), HLL.out]; rfl
                rw [List.append_nil] at hstep
                have HSE := Lib.hid hstep
                clear hqe2 h02 hstep
                go_wp2_with fail
                go_quiet (fail)
                go_wp2
                go_roundw
                case rel => exact ⟨k + 1, congrArg (Value.int .i64) (by push_cast; omega), by rw [HSE.out]; exact HO.out.below (by have hb4 := HB4.out; (repeat' (first | (with_reducible exact Below.refl _ _) | (with_reducible assumption) | (with_reducible refine Below.alloc ?_ ?_ _) | (with_reducible refine below_drewN ?_ _) | (with_reducible refine Below.drew ?_) | (with_reducible refine Below.setCell ?_ ?_ _) | (with_reducible refine below_call (by assumption) ?_ ?_) | (with_reducible refine below_grown (by assumption) ?_ ?_ ?_) | omega | (simp; done) | (simp; omega)))), by rw [HSE.out]; exact HQ4.out.below (by (repeat' (first | (with_reducible exact Below.refl _ _) | (with_reducible assumption) | (with_reducible refine Below.alloc ?_ ?_ _) | (with_reducible refine below_drewN ?_ _) | (with_reducible refine Below.drew ?_) | (with_reducible refine Below.setCell ?_ ?_ _) | (with_reducible refine below_call (by assumption) ?_ ?_) | (with_reducible refine below_grown (by assumption) ?_ ?_ ?_) | omega | (simp; done) | (simp; omega)))), HR1.out.1, by have hb4 := HB4.out; have hb := HB.out; (repeat' (first | (with_reducible exact Below.refl _ _) | (with_reducible assumption) | (with_reducible refine Below.alloc ?_ ?_ _) | (with_reducible refine below_drewN ?_ _) | (with_reducible refine Below.drew ?_) | (with_reducible refine Below.setCell ?_ ?_ _) | (with_reducible refine below_call (by assumption) ?_ ?_) | (with_reducible refine below_grown (by assumption) ?_ ?_ ?_) | omega | (simp; done) | (simp; omega)))⟩
                case measure => exact HR1.out.2
              · have e02 : decide ((0 : Int) < n2) = true := decide_eq_true (by omega)
                have e02n : decide (0 < n2) = true := decide_eq_true (by omega)
                have e02' : (0 : Int) < n2 := by omega
                obtain ⟨b2, o2, hAj, hbl2, hcl2⟩ := HIJ2.out.2 (by rw [HN2.out]; exact h02)
                have hdq : 0 < qj.length := by rw [HN2.out]; exact h02
                have hy0 := hcl2 0 (.int .i64 (nt qj 0)) (iv_at hdq)
                rw [Nat.add_zero] at hy0
                obtain ⟨y, hy⟩ : ∃ y, nt qj 0 = y := ⟨_, rfl⟩
                rw [hy] at hy0
                have hdl : qj.tail.length = n2 - 1 := by rw [List.length_tail, HN2.out]
                have hlast : qj.head? = some y := by
                  rw [List.head?_eq_getElem?, List.getElem?_eq_getElem hdq, ← hy, nt_eq hdq]
                have hne : qj ≠ [] := List.length_pos_iff.1 hdq
                have hstep : runW script count ws (k + 1) = ⟨(runW script count ws k).qs.set j qj.tail, L ++ [((i : Int), y)]⟩ := by
                  rw [step_eq (q := (runW script count ws k).qs.set j qj.tail) (y := some y) HIJ.out (by unfold turnQ; rw [QAI.out, HQE.out, if_neg (by simp), QAJ.out, if_pos hne, hlast]; simp [qSet]), HLL.out]; rfl
                have HSE := Lib.hid hstep
                have HDL := Lib.hid hdl
                have hdn : (1 : Int) ≤ n2 := by omega
                have hdc : (1 : Int) ≤ cj := by omega
                subst hAj
                clear hdq hy hdl hlast hne hstep hcl2
                go_wp2_with fail
                go_quiet (fail)
                go_wp2_with fail
                obtain ⟨w5, hw5⟩ : ∃ x : World, x = w4.drewN nq := ⟨_, rfl⟩
                have hb45 : Below w4.heap.size w4 w5 := by rw [hw5]; (repeat' (first | (with_reducible exact Below.refl _ _) | (with_reducible assumption) | (with_reducible refine Below.alloc ?_ ?_ _) | (with_reducible refine below_drewN ?_ _) | (with_reducible refine Below.drew ?_) | (with_reducible refine Below.setCell ?_ ?_ _) | (with_reducible refine below_call (by assumption) ?_ ?_) | (with_reducible refine below_grown (by assumption) ?_ ?_ ?_) | omega | (simp; done) | (simp; omega)))
                rw [← hw5]
                clear hw5
                have hz5 := hb45.size
                have hbt5 := blk_below HBT.out hb45
                have hct5 := blk_cell hbt5
                have hft5 := blk_free hbt5
                have hlt5 := blk_lt hbt5
                have HBT5 := Lib.hid hbt5
                have hy5 := (hb45.cell (p := ⟨b2, o2, none⟩) hbl2).trans hy0
                have hbl5 : b2 < w5.heap.size := by omega
                have HQ5 := Lib.hid (HQ4.out.below hb45)
                have HI5 := Lib.hid (HIJ2.out.below hb45)
                have HB5 : Hid (Below wo.heap.size wo w5) := Lib.hid (by have hb4 := HB4.out; (repeat' (first | (with_reducible exact Below.refl _ _) | (with_reducible assumption) | (with_reducible refine Below.alloc ?_ ?_ _) | (with_reducible refine below_drewN ?_ _) | (with_reducible refine Below.drew ?_) | (with_reducible refine Below.setCell ?_ ?_ _) | (with_reducible refine below_call (by assumption) ?_ ?_) | (with_reducible refine below_grown (by assumption) ?_ ?_ ?_) | omega | (simp; done) | (simp; omega))))
                clear hb45 hbt5 hct4 hft4 hy0 hbl2
                apply wp_region_pure (by kernel_rfl) ([] :: [] :: [1] :: [] :: [3] :: [4] :: [2, 5] :: [6] :: []) (RS.det [] _ :: RS.det [] _ :: RS.det [1] _ :: RS.det [] _ :: RS.det [3] _ :: RS.det [4] _ :: RS.det [2, 5] _ :: RS.sl [6] _ _ _ _ :: []) [0] rfl (by kernel_rfl) (by intro _ c a d v w h; cases d <;> exact h) (by kernel_rfl) (by kernel_rfl) (st_det (st_det (st_det (st_det (st_det (st_det (st_det (st_sl st_nil)))))))) _ (fun v => by simp; rfl)
                case hop =>
                  simp only [Obls]
                  refine ⟨?_, ?_, ?_, ?_, ?_, ?_, ?_, ?_, trivial⟩
                  · (intro v w1 K hb hF hK; (try simp at hF); simp at hK; (try simp only [hF] at hK); have hz := hb.size; (try simp at hz))
                    go_simp
                    (try simp only [])
                    exact hK _ _ rfl (by (repeat' (first | (with_reducible exact Below.refl _ _) | (with_reducible assumption) | (with_reducible refine Below.alloc ?_ ?_ _) | (with_reducible refine below_drewN ?_ _) | (with_reducible refine Below.drew ?_) | (with_reducible refine Below.setCell ?_ ?_ _) | (with_reducible refine below_call (by assumption) ?_ ?_) | go_size)))
                  · (intro v w1 K hb hF hK; (try simp at hF); simp at hK; (try simp only [hF] at hK); have hz := hb.size; (try simp at hz))
                    go_simp
                    (try simp only [])
                    exact hK _ _ rfl (by (repeat' (first | (with_reducible exact Below.refl _ _) | (with_reducible assumption) | (with_reducible refine Below.alloc ?_ ?_ _) | (with_reducible refine below_drewN ?_ _) | (with_reducible refine Below.drew ?_) | (with_reducible refine Below.setCell ?_ ?_ _) | (with_reducible refine below_call (by assumption) ?_ ?_) | go_size)))
                  · (intro v w1 K hb hF hK; (try simp at hF); simp at hK; (try simp only [hF] at hK); have hz := hb.size; (try simp at hz); (try (have hk := bcl hb (gt) (by first | omega | (simp; done) | (simp; omega)); have hc := hk.1; have hf := hk.2.1; have hk := hk.2.2)); (try (have hk := bcl hb (b2) (by first | omega | (simp; done) | (simp; omega)); have hc := hk.1; have hf := hk.2.1; have hk := hk.2.2)))
                    go_simp
                    (try simp only [])
                    exact hK _ _ rfl (by (repeat' (first | (with_reducible exact Below.refl _ _) | (with_reducible assumption) | (with_reducible refine Below.alloc ?_ ?_ _) | (with_reducible refine below_drewN ?_ _) | (with_reducible refine Below.drew ?_) | (with_reducible refine Below.setCell ?_ ?_ _) | (with_reducible refine below_call (by assumption) ?_ ?_) | go_size)))
                  · (intro v w1 K hb hF hK; (try simp at hF); simp at hK; (try simp only [hF] at hK); have hz := hb.size; (try simp at hz))
                    go_simp
                    (try simp only [])
                    exact hK _ _ rfl (by (repeat' (first | (with_reducible exact Below.refl _ _) | (with_reducible assumption) | (with_reducible refine Below.alloc ?_ ?_ _) | (with_reducible refine below_drewN ?_ _) | (with_reducible refine Below.drew ?_) | (with_reducible refine Below.setCell ?_ ?_ _) | (with_reducible refine below_call (by assumption) ?_ ?_) | go_size)))
                  · (intro v w1 K hb hF hK; (try simp at hF); simp at hK; (try simp only [hF] at hK); have hz := hb.size; (try simp at hz))
                    go_simp
                    (try simp only [])
                    exact hK _ _ rfl (by (repeat' (first | (with_reducible exact Below.refl _ _) | (with_reducible assumption) | (with_reducible refine Below.alloc ?_ ?_ _) | (with_reducible refine below_drewN ?_ _) | (with_reducible refine Below.drew ?_) | (with_reducible refine Below.setCell ?_ ?_ _) | (with_reducible refine below_call (by assumption) ?_ ?_) | go_size)))
                  · (intro v w1 K hb hF hK; (try simp at hF); simp at hK; (try simp only [hF] at hK); have hz := hb.size; (try simp at hz); (try (have hk := bcl hb (gt) (by first | omega | (simp; done) | (simp; omega)); have hc := hk.1; have hf := hk.2.1; have hk := hk.2.2)); (try (have hk := bcl hb (b2) (by first | omega | (simp; done) | (simp; omega)); have hc := hk.1; have hf := hk.2.1; have hk := hk.2.2)))
                    go_simp
                    (try simp only [])
                    exact hK _ _ rfl (by (repeat' (first | (with_reducible exact Below.refl _ _) | (with_reducible assumption) | (with_reducible refine Below.alloc ?_ ?_ _) | (with_reducible refine below_drewN ?_ _) | (with_reducible refine Below.drew ?_) | (with_reducible refine Below.setCell ?_ ?_ _) | (with_reducible refine below_call (by assumption) ?_ ?_) | go_size)))
                  · (intro v w1 K hb hF hK; (try simp at hF); simp at hK; (try simp only [hF] at hK); have hz := hb.size; (try simp at hz))
                    go_simp
                    (try simp only [])
                    exact hK _ _ rfl (by (repeat' (first | (with_reducible exact Below.refl _ _) | (with_reducible assumption) | (with_reducible refine Below.alloc ?_ ?_ _) | (with_reducible refine below_drewN ?_ _) | (with_reducible refine Below.drew ?_) | (with_reducible refine Below.setCell ?_ ?_ _) | (with_reducible refine below_call (by assumption) ?_ ?_) | go_size)))
                  · (intro v w1 K hb hF hK; (try simp at hF); simp at hK; (try simp only [hF] at hK); have hz := hb.size; (try simp at hz))
                    go_simp
                    (try simp only [])
                    exact hK _ _ (isSl_new _ _ _ hb.size) (by (repeat' (first | (with_reducible exact Below.refl _ _) | (with_reducible assumption) | (with_reducible refine Below.alloc ?_ ?_ _) | (with_reducible refine below_drewN ?_ _) | (with_reducible refine Below.drew ?_) | (with_reducible refine Below.setCell ?_ ?_ _) | (with_reducible refine below_call (by assumption) ?_ ?_) | go_size)))
                case hfo => exact ⟨fun _ => rfl, trivial⟩
                (intro v w1 hb hF; simp [List.range, List.range.loop] at hF; have hz := hb.size; (try simp at hz); (try (have hk := bcl hb (gt) (by first | omega | (simp; done) | (simp; omega)); have hc := hk.1; have hf := hk.2.1; have hk := hk.2.2)); (try (have hk := bcl hb (b2) (by first | omega | (simp; done) | (simp; omega)); have hc := hk.1; have hf := hk.2.1; have hk := hk.2.2)))
                obtain ⟨e0, e1, e2, e3, e4, e5, e6, gs, e7, hgs, hgss, hgsb⟩ := hF
                simp only [List.length_cons, List.length_nil, List.drop_succ_cons, List.drop_zero, e0, e1, e2, e3, e4, e5, e6, e7]
                clear e0 e1 e2 e3 e4 e5 e6 e7 v
                have hcgs := blk_cell hgsb; have hfgs := blk_free hgsb; have Hgs := Lib.hid hgsb; clear hgsb; (try simp at hgs)
                have hz6 := hb.size
                obtain ⟨w6, hw6⟩ : ∃ x : World, x = w1 := ⟨_, rfl⟩
                subst hw6
                have HBT6 := Lib.hid (blk_below HBT5.out hb)
                have HQ6 := Lib.hid (HQ5.out.below hb)
                have HI6 := Lib.hid (HI5.out.below hb)
                have HB6 : Hid (Below wo.heap.size wo w6) := Lib.hid (by have hb5 := HB5.out; (repeat' (first | (with_reducible exact Below.refl _ _) | (with_reducible assumption) | (with_reducible refine Below.alloc ?_ ?_ _) | (with_reducible refine below_drewN ?_ _) | (with_reducible refine Below.drew ?_) | (with_reducible refine Below.setCell ?_ ?_ _) | (with_reducible refine below_call (by assumption) ?_ ?_) | (with_reducible refine below_grown (by assumption) ?_ ?_ ?_) | omega | (simp; done) | (simp; omega))))
                clear hb hct5 hft5 hy5
                go_wp2_with (at_builtin
                             refine append_c rfl (.tmp 96) (.tmp 103) 30 26 Try.underlying26 done_info rfl (w.heap.size + 1) _ L rfl (HO.out.below HB6.out) _ 1 _ _ _ rfl Hgs.out (by rw [HN.out]; omega) (by omega) ?_
                             intro v7 w7 hown7 hg7 hat7
                             obtain ⟨A7, c7, e7, _⟩ := hown7.form
                             rw [List.length_append] at e7
                             subst e7
                             refine Kept.out ?_)
                have hrow : ∀ g, (Value.slice A1 N c1).ownBlock = some g → w.heap.size + 1 ≤ g ∧ g < wo.heap.size := HO.out.row
                have hgt0 : wo.heap.size ≤ gt := by assumption
                have hbt7 := (hg7.block gt (blk_lt HBT6.out) (fun e => by have := (hrow _ e.symm).2; omega)).trans HBT6.out
                have hq7 := HasQI.app HQ6.out hg7 (fun e => by have := (hrow _ e).1; omega) hat7
                have hI7 := isI_grown HI6.out hg7 (fun h0 => (HSJ.out h0).2)
                have hS7 : 0 < qj.length → Sep (blkA (some ⟨b2, o2, none⟩)) (some w.heap.size) ∧ Sep (blkA (some ⟨b2, o2, none⟩)) (Value.slice A7 (L.length + [((i : Int), y)].length) c7).ownBlock := fun h0 => ⟨(HSJ.out h0).1, (HSJ.out h0).2.app hat7 (isI_lt HI6.out h0)⟩
                have hct7 := blk_cell hbt7
                have hft7 := blk_free hbt7
                have hlt7 := blk_lt hbt7
                obtain ⟨A8, c8, q8, _, hx8, _⟩ := hq7.at_ (i := j) (by rw [HQL.out]; exact hj)
                obtain ⟨cur8, hblk8, _⟩ := hq7.ex
                have hf8 := blk_free hblk8
                have hl8 := blk_lt hblk8
                have HQ7 := Lib.hid hq7
                have HI7 := Lib.hid hI7
                have HS7 := Lib.hid hS7
                have HOW7 := Lib.hid hown7
                have HB7 : Hid (Below w.heap.size w w7) := Lib.hid (below_own hg7 (by have hb6 := HB6.out; have hb := HB.out; (repeat' (first | (with_reducible exact Below.refl _ _) | (with_reducible assumption) | (with_reducible refine Below.alloc ?_ ?_ _) | (with_reducible refine below_drewN ?_ _) | (with_reducible refine Below.drew ?_) | (with_reducible refine Below.setCell ?_ ?_ _) | (with_reducible refine below_call (by assumption) ?_ ?_) | (with_reducible refine below_grown (by assumption) ?_ ?_ ?_) | omega | (simp; done) | (simp; omega)))) (by omega) (fun g hg => by have := (hrow g hg).1; omega))
                clear hq7 hI7 hS7 hblk8 hbt7 hg7 hown7 hat7 hrow
                refine Kept.mk ?_
                go_wp2_with fail
                apply wp_region_pure (by kernel_rfl) ([] :: [] :: [1] :: [] :: [3] :: [0, 2] :: []) (RS.det [] _ :: RS.det [] _ :: RS.det [1] _ :: RS.det [] _ :: RS.det [3] _ :: RS.det [0, 2] _ :: []) [] rfl (by kernel_rfl) (fun h => absurd rfl h) (by kernel_rfl) (by kernel_rfl) (st_det (st_det (st_det (st_det (st_det (st_det st_nil)))))) _ (fun v => by simp; rfl)
                case hop =>
                  simp only [Obls]
                  refine ⟨?_, ?_, ?_, ?_, ?_, ?_, trivial⟩
                  · (intro v w1 K hb hF hK; (try simp at hF); simp at hK; (try simp only [hF] at hK); have hz := hb.size; (try simp at hz))
                    go_simp
                    (try simp only [])
                    exact hK _ _ rfl (by (repeat' (first | (with_reducible exact Below.refl _ _) | (with_reducible assumption) | (with_reducible refine Below.alloc ?_ ?_ _) | (with_reducible refine below_drewN ?_ _) | (with_reducible refine Below.drew ?_) | (with_reducible refine Below.setCell ?_ ?_ _) | (with_reducible refine below_call (by assumption) ?_ ?_) | go_size)))
                  · (intro v w1 K hb hF hK; (try simp at hF); simp at hK; (try simp only [hF] at hK); have hz := hb.size; (try simp at hz))
                    go_simp
                    (try simp only [])
                    exact hK _ _ rfl (by (repeat' (first | (with_reducible exact Below.refl _ _) | (with_reducible assumption) | (with_reducible refine Below.alloc ?_ ?_ _) | (with_reducible refine below_drewN ?_ _) | (with_reducible refine Below.drew ?_) | (with_reducible refine Below.setCell ?_ ?_ _) | (with_reducible refine below_call (by assumption) ?_ ?_) | go_size)))
                  · (intro v w1 K hb hF hK; (try simp at hF); simp at hK; (try simp only [hF] at hK); have hz := hb.size; (try simp at hz); (try (have hk := bcl hb (gt) (by first | omega | (simp; done) | (simp; omega)); have hc := hk.1; have hf := hk.2.1; have hk := hk.2.2)); (try (have hk := bcl hb (w.heap.size) (by first | omega | (simp; done) | (simp; omega)); have hc := hk.1; have hf := hk.2.1; have hk := hk.2.2)))
                    go_simp
                    (try simp only [])
                    exact hK _ _ rfl (by (repeat' (first | (with_reducible exact Below.refl _ _) | (with_reducible assumption) | (with_reducible refine Below.alloc ?_ ?_ _) | (with_reducible refine below_drewN ?_ _) | (with_reducible refine Below.drew ?_) | (with_reducible refine Below.setCell ?_ ?_ _) | (with_reducible refine below_call (by assumption) ?_ ?_) | go_size)))
                  · (intro v w1 K hb hF hK; (try simp at hF); simp at hK; (try simp only [hF] at hK); have hz := hb.size; (try simp at hz))
                    go_simp
                    (try simp only [])
                    exact hK _ _ rfl (by (repeat' (first | (with_reducible exact Below.refl _ _) | (with_reducible assumption) | (with_reducible refine Below.alloc ?_ ?_ _) | (with_reducible refine below_drewN ?_ _) | (with_reducible refine Below.drew ?_) | (with_reducible refine Below.setCell ?_ ?_ _) | (with_reducible refine below_call (by assumption) ?_ ?_) | go_size)))
                  · (intro v w1 K hb hF hK; (try simp at hF); simp at hK; (try simp only [hF] at hK); have hz := hb.size; (try simp at hz))
                    go_simp
                    (try simp only [])
                    exact hK _ _ rfl (by (repeat' (first | (with_reducible exact Below.refl _ _) | (with_reducible assumption) | (with_reducible refine Below.alloc ?_ ?_ _) | (with_reducible refine below_drewN ?_ _) | (with_reducible refine Below.drew ?_) | (with_reducible refine Below.setCell ?_ ?_ _) | (with_reducible refine below_call (by assumption) ?_ ?_) | go_size)))
                  · (intro v w1 K hb hF hK; (try simp at hF); simp at hK; (try simp only [hF] at hK); have hz := hb.size; (try simp at hz))
                    go_simp
                    (try simp only [])
                    exact hK _ _ rfl (by (repeat' (first | (with_reducible exact Below.refl _ _) | (with_reducible assumption) | (with_reducible refine Below.alloc ?_ ?_ _) | (with_reducible refine below_drewN ?_ _) | (with_reducible refine Below.drew ?_) | (with_reducible refine Below.setCell ?_ ?_ _) | (with_reducible refine below_call (by assumption) ?_ ?_) | go_size)))
                case hfo => exact trivial
                (intro v w1 hb hF; simp [List.range, List.range.loop] at hF; have hz := hb.size; (try simp at hz); (try (have hk := bcl hb (gt) (by first | omega | (simp; done) | (simp; omega)); have hc := hk.1; have hf := hk.2.1; have hk := hk.2.2)); (try (have hk := bcl hb (w.heap.size) (by first | omega | (simp; done) | (simp; omega)); have hc := hk.1; have hf := hk.2.1; have hk := hk.2.2)))
                obtain ⟨e0, e1, e2, e3, e4, e5⟩ := hF
                simp only [List.length_cons, List.length_nil, List.drop_succ_cons, List.drop_zero, e0, e1, e2, e3, e4, e5]
                clear e0 e1 e2 e3 e4 e5 v
                have HBZ := Lib.hid hb
                have hz9 := hb.size
                clear hb
                go_wp2
                go_roundw
                case rel =>
                  have hA9 : ∃ A9 : Option Addr, (if cj = 1 then (some ⟨b2, o2, none⟩ : Option Addr) else some ⟨b2, o2 + 1, none⟩) = A9 ∧ blkA A9 = some b2 ∧ IsI w1 A9 qj.tail.length qj.tail := by
                    by_cases h9 : cj = 1
                    · have hz : qj.tail = [] := List.length_eq_zero_iff.1 (by rw [HDL.out]; omega)
                      rw [if_pos h9, hz]
                      exact ⟨_, rfl, rfl, IsI.nil _ _⟩
                    · rw [if_neg h9]
                      exact ⟨_, rfl, rfl, isI_tail (HI7.out.below HBZ.out)⟩
                  obtain ⟨A9, hA9, hB9, hI9⟩ := hA9
                  rw [hA9]
                  have hput := HasQI.put (HQ7.out.below HBZ.out) (i := j) (A := A9) (c := cj - 1) (by rw [HQL.out]; exact hj) (by rw [HDL.out]; omega) (by omega) hI9 (fun h0 => by have h := HS7.out (by rw [HN2.out]; exact h02); rw [hB9]; exact h)
                  rw [HDL.out] at hput
                  refine ⟨k + 1, congrArg (Value.int .i64) (by push_cast; omega), ?_, ?_, HR1.out.1, by have hb7 := HB7.out; have hbz := HBZ.out; (repeat' (first | (with_reducible exact Below.refl _ _) | (with_reducible assumption) | (with_reducible refine Below.alloc ?_ ?_ _) | (with_reducible refine below_drewN ?_ _) | (with_reducible refine Below.drew ?_) | (with_reducible refine Below.setCell ?_ ?_ _) | (with_reducible refine below_call (by assumption) ?_ ?_) | (with_reducible refine below_grown (by assumption) ?_ ?_ ?_) | omega | (simp; done) | (simp; omega)))⟩
                  · rw [HSE.out]
                    exact OwnC.grown (HOW7.out.below HBZ.out) (g := w.heap.size) (only_setCell (World.grownBy.refl _ _) (.inl rfl) _) (by omega)
                  · rw [HSE.out]; exact hput
                case measure => exact HR1.out.2
            · have e01 : decide ((0 : Int) < n1) = true := decide_eq_true (by omega)
              have e01n : decide (0 < n1) = true := decide_eq_true (by omega)
              have e01' : (0 : Int) < n1 := by omega
              obtain ⟨d, hd⟩ : ∃ d, n1 - 1 = d := ⟨_, rfl⟩
              obtain ⟨b1, o1, hAi, hbl1, hcl1⟩ := HII.out.2 (by rw [HN1.out]; exact h01)
              have hdq : d < qi.length := by rw [HN1.out]; omega
              have hy0 := hcl1 d (.int .i64 (nt qi d)) (iv_at hdq)
              obtain ⟨y, hy⟩ : ∃ y, nt qi d = y := ⟨_, rfl⟩
              rw [hy] at hy0
              have hdl : qi.dropLast.length = d := by rw [List.length_dropLast, HN1.out]; exact hd
              have hlast : qi.getLast? = some y := by
                rw [List.getLast?_eq_getElem?, HN1.out, hd, List.getElem?_eq_getElem hdq, ← hy, nt_eq hdq]
              have hne : qi ≠ [] := List.length_pos_iff.1 (by rw [HN1.out]; exact h01)
              have hstep : runW script count ws (k + 1) = ⟨(runW script count ws k).qs.set i qi.dropLast, L ++ [((i : Int), y)]⟩ := by
                rw [step_eq (q := (runW script count ws k).qs.set i qi.dropLast) (y := some y) HIJ.out (by unfold turnQ; rw [QAI.out, if_pos hne, hlast]; simp [qSet]), HLL.out]; rfl
              have HSE := Lib.hid hstep
              have HDL := Lib.hid hdl
              have t1 : IntKind.i64.wrap ((n1 : Int) - 1) = ((d : Nat) : Int) := by rw [IntWalk.i64_in _ (by unfold maxLen at hmi; omega)]; omega
              have hdn : (d : Int) < n1 := by omega
              have hdc : (d : Int) ≤ ci := by omega
              subst hAi
              clear hd hdq hy hdl hlast hne hstep hcl1
              go_wp2_with fail
              go_quiet (fail)
              go_wp2_with fail
              obtain ⟨w5, hw5⟩ : ∃ x : World, x = w4.drewN nq := ⟨_, rfl⟩
              have hb45 : Below w4.heap.size w4 w5 := by rw [hw5]; (repeat' (first | (with_reducible exact Below.refl _ _) | (with_reducible assumption) | (with_reducible refine Below.alloc ?_ ?_ _) | (with_reducible refine below_drewN ?_ _) | (with_reducible refine Below.drew ?_) | (with_reducible refine Below.setCell ?_ ?_ _) | (with_reducible refine below_call (by assumption) ?_ ?_) | (with_reducible refine below_grown (by assumption) ?_ ?_ ?_) | omega | (simp; done) | (simp; omega)))
              rw [← hw5]
              clear hw5
              have hz5 := hb45.size
              have hbt5 := blk_below HBT.out hb45
              have hct5 := blk_cell hbt5
              have hft5 := blk_free hbt5
              have hlt5 := blk_lt hbt5
              have HBT5 := Lib.hid hbt5
              have hy5 := (hb45.cell (p := ⟨b1, o1 + d, none⟩) hbl1).trans hy0
              have hbl5 : b1 < w5.heap.size := by omega
              have HQ5 := Lib.hid (HQ4.out.below hb45)
              have HI5 := Lib.hid (HII.out.below hb45)
              have HB5 : Hid (Below wo.heap.size wo w5) := Lib.hid (by have hb4 := HB4.out; (repeat' (first | (with_reducible exact Below.refl _ _) | (with_reducible assumption) | (with_reducible refine Below.alloc ?_ ?_ _) | (with_reducible refine below_drewN ?_ _) | (with_reducible refine Below.drew ?_) | (with_reducible refine Below.setCell ?_ ?_ _) | (with_reducible refine below_call (by assumption) ?_ ?_) | (with_reducible refine below_grown (by assumption) ?_ ?_ ?_) | omega | (simp; done) | (simp; omega))))
              clear hb45 hbt5 hct4 hft4 hy0 hbl1
              apply wp_region_pure (by kernel_rfl) ([] :: [] :: [1] :: [] :: [] :: [4] :: [5] :: [3, 6] :: [7] :: [2, 8] :: [9] :: []) (RS.det [] _ :: RS.det [] _ :: RS.det [1] _ :: RS.det [] _ :: RS.det [] _ :: RS.det [4] _ :: RS.det [5] _ :: RS.det [3, 6] _ :: RS.det [7] _ :: RS.det [2, 8] _ :: RS.sl [9] _ _ _ _ :: []) [0] rfl (by kernel_rfl) (by intro _ c a d v w h; cases d <;> exact h) (by kernel_rfl) (by kernel_rfl) (st_det (st_det (st_det (st_det (st_det (st_det (st_det (st_det (st_det (st_det (st_sl st_nil))))))))))) _ (fun v => by simp; rfl)
              case hop =>
                simp only [Obls]
                refine ⟨?_, ?_, ?_, ?_, ?_, ?_, ?_, ?_, ?_, ?_, ?_, trivial⟩
                · (intro v w1 K hb hF hK; (try simp at hF); simp at hK; (try simp only [hF] at hK); have hz := hb.size; (try simp at hz))
                  go_simp
                  (try simp only [])
                  exact hK _ _ rfl (by (repeat' (first | (with_reducible exact Below.refl _ _) | (with_reducible assumption) | (with_reducible refine Below.alloc ?_ ?_ _) | (with_reducible refine below_drewN ?_ _) | (with_reducible refine Below.drew ?_) | (with_reducible refine Below.setCell ?_ ?_ _) | (with_reducible refine below_call (by assumption) ?_ ?_) | go_size)))
                · (intro v w1 K hb hF hK; (try simp at hF); simp at hK; (try simp only [hF] at hK); have hz := hb.size; (try simp at hz))
                  go_simp
                  (try simp only [])
                  exact hK _ _ rfl (by (repeat' (first | (with_reducible exact Below.refl _ _) | (with_reducible assumption) | (with_reducible refine Below.alloc ?_ ?_ _) | (with_reducible refine below_drewN ?_ _) | (with_reducible refine Below.drew ?_) | (with_reducible refine Below.setCell ?_ ?_ _) | (with_reducible refine below_call (by assumption) ?_ ?_) | go_size)))
                · (intro v w1 K hb hF hK; (try simp at hF); simp at hK; (try simp only [hF] at hK); have hz := hb.size; (try simp at hz); (try (have hk := bcl hb (gt) (by first | omega | (simp; done) | (simp; omega)); have hc := hk.1; have hf := hk.2.1; have hk := hk.2.2)); (try (have hk := bcl hb (b1) (by first | omega | (simp; done) | (simp; omega)); have hc := hk.1; have hf := hk.2.1; have hk := hk.2.2)))
                  go_simp
                  (try simp only [])
                  exact hK _ _ rfl (by (repeat' (first | (with_reducible exact Below.refl _ _) | (with_reducible assumption) | (with_reducible refine Below.alloc ?_ ?_ _) | (with_reducible refine below_drewN ?_ _) | (with_reducible refine Below.drew ?_) | (with_reducible refine Below.setCell ?_ ?_ _) | (with_reducible refine below_call (by assumption) ?_ ?_) | go_size)))
                · (intro v w1 K hb hF hK; (try simp at hF); simp at hK; (try simp only [hF] at hK); have hz := hb.size; (try simp at hz))
                  go_simp
                  (try simp only [])
                  exact hK _ _ rfl (by (repeat' (first | (with_reducible exact Below.refl _ _) | (with_reducible assumption) | (with_reducible refine Below.alloc ?_ ?_ _) | (with_reducible refine below_drewN ?_ _) | (with_reducible refine Below.drew ?_) | (with_reducible refine Below.setCell ?_ ?_ _) | (with_reducible refine below_call (by assumption) ?_ ?_) | go_size)))
                · (intro v w1 K hb hF hK; (try simp at hF); simp at hK; (try simp only [hF] at hK); have hz := hb.size; (try simp at hz))
                  go_simp
                  (try simp only [])
                  exact hK _ _ rfl (by (repeat' (first | (with_reducible exact Below.refl _ _) | (with_reducible assumption) | (with_reducible refine Below.alloc ?_ ?_ _) | (with_reducible refine below_drewN ?_ _) | (with_reducible refine Below.drew ?_) | (with_reducible refine Below.setCell ?_ ?_ _) | (with_reducible refine below_call (by assumption) ?_ ?_) | go_size)))
                · (intro v w1 K hb hF hK; (try simp at hF); simp at hK; (try simp only [hF] at hK); have hz := hb.size; (try simp at hz))
                  go_simp
                  (try simp only [])
                  exact hK _ _ rfl (by (repeat' (first | (with_reducible exact Below.refl _ _) | (with_reducible assumption) | (with_reducible refine Below.alloc ?_ ?_ _) | (with_reducible refine below_drewN ?_ _) | (with_reducible refine Below.drew ?_) | (with_reducible refine Below.setCell ?_ ?_ _) | (with_reducible refine below_call (by assumption) ?_ ?_) | go_size)))
                · (intro v w1 K hb hF hK; (try simp at hF); simp at hK; (try simp only [hF] at hK); have hz := hb.size; (try simp at hz))
                  go_simp
                  (try simp only [])
                  exact hK _ _ rfl (by (repeat' (first | (with_reducible exact Below.refl _ _) | (with_reducible assumption) | (with_reducible refine Below.alloc ?_ ?_ _) | (with_reducible refine below_drewN ?_ _) | (with_reducible refine Below.drew ?_) | (with_reducible refine Below.setCell ?_ ?_ _) | (with_reducible refine below_call (by assumption) ?_ ?_) | go_size)))
                · (intro v w1 K hb hF hK; (try simp at hF); simp at hK; (try simp only [hF] at hK); have hz := hb.size; (try simp at hz))
                  go_simp
                  (try simp only [])
                  exact hK _ _ rfl (by (repeat' (first | (with_reducible exact Below.refl _ _) | (with_reducible assumption) | (with_reducible refine Below.alloc ?_ ?_ _) | (with_reducible refine below_drewN ?_ _) | (with_reducible refine Below.drew ?_) | (with_reducible refine Below.setCell ?_ ?_ _) | (with_reducible refine below_call (by assumption) ?_ ?_) | go_size)))
                · (intro v w1 K hb hF hK; (try simp at hF); simp at hK; (try simp only [hF] at hK); have hz := hb.size; (try simp at hz); (try (have hk := bcl hb (gt) (by first | omega | (simp; done) | (simp; omega)); have hc := hk.1; have hf := hk.2.1; have hk := hk.2.2)); (try (have hk := bcl hb (b1) (by first | omega | (simp; done) | (simp; omega)); have hc := hk.1; have hf := hk.2.1; have hk := hk.2.2)))
                  go_simp
                  (try simp only [])
                  exact hK _ _ rfl (by (repeat' (first | (with_reducible exact Below.refl _ _) | (with_reducible assumption) | (with_reducible refine Below.alloc ?_ ?_ _) | (with_reducible refine below_drewN ?_ _) | (with_reducible refine Below.drew ?_) | (with_reducible refine Below.setCell ?_ ?_ _) | (with_reducible refine below_call (by assumption) ?_ ?_) | go_size)))
                · (intro v w1 K hb hF hK; (try simp at hF); simp at hK; (try simp only [hF] at hK); have hz := hb.size; (try simp at hz))
                  go_simp
                  (try simp only [])
                  exact hK _ _ rfl (by (repeat' (first | (with_reducible exact Below.refl _ _) | (with_reducible assumption) | (with_reducible refine Below.alloc ?_ ?_ _) | (with_reducible refine below_drewN ?_ _) | (with_reducible refine Below.drew ?_) | (with_reducible refine Below.setCell ?_ ?_ _) | (with_reducible refine below_call (by assumption) ?_ ?_) | go_size)))
                · (intro v w1 K hb hF hK; (try simp at hF); simp at hK; (try simp only [hF] at hK); have hz := hb.size; (try simp at hz))
                  go_simp
                  (try simp only [])
                  exact hK _ _ (isSl_new _ _ _ hb.size) (by (repeat' (first | (with_reducible exact Below.refl _ _) | (with_reducible assumption) | (with_reducible refine Below.alloc ?_ ?_ _) | (with_reducible refine below_drewN ?_ _) | (with_reducible refine Below.drew ?_) | (with_reducible refine Below.setCell ?_ ?_ _) | (with_reducible refine below_call (by assumption) ?_ ?_) | go_size)))
              case hfo => exact ⟨fun _ => rfl, trivial⟩
              (intro v w1 hb hF; simp [List.range, List.range.loop] at hF; have hz := hb.size; (try simp at hz); (try (have hk := bcl hb (gt) (by first | omega | (simp; done) | (simp; omega)); have hc := hk.1; have hf := hk.2.1; have hk := hk.2.2)); (try (have hk := bcl hb (b1) (by first | omega | (simp; done) | (simp; omega)); have hc := hk.1; have hf := hk.2.1; have hk := hk.2.2)))
              obtain ⟨e0, e1, e2, e3, e4, e5, e6, e7, e8, e9, gs, e10, hgs, hgss, hgsb⟩ := hF
              simp only [List.length_cons, List.length_nil, List.drop_succ_cons, List.drop_zero, e0, e1, e2, e3, e4, e5, e6, e7, e8, e9, e10]
              clear e0 e1 e2 e3 e4 e5 e6 e7 e8 e9 e10 v
              have hcgs := blk_cell hgsb; have hfgs := blk_free hgsb; have Hgs := Lib.hid hgsb; clear hgsb; (try simp at hgs)
              have hz6 := hb.size
              obtain ⟨w6, hw6⟩ : ∃ x : World, x = w1 := ⟨_, rfl⟩
              subst hw6
              have HBT6 := Lib.hid (blk_below HBT5.out hb)
              have HQ6 := Lib.hid (HQ5.out.below hb)
              have HI6 := Lib.hid (HI5.out.below hb)
              have HB6 : Hid (Below wo.heap.size wo w6) := Lib.hid (by have hb5 := HB5.out; (repeat' (first | (with_reducible exact Below.refl _ _) | (with_reducible assumption) | (with_reducible refine Below.alloc ?_ ?_ _) | (with_reducible refine below_drewN ?_ _) | (with_reducible refine Below.drew ?_) | (with_reducible refine Below.setCell ?_ ?_ _) | (with_reducible refine below_call (by assumption) ?_ ?_) | (with_reducible refine below_grown (by assumption) ?_ ?_ ?_) | omega | (simp; done) | (simp; omega))))
              clear hb hct5 hft5 hy5
              go_wp2_with (at_builtin
                           refine append_c rfl (.tmp 71) (.tmp 81) 30 26 Try.underlying26 done_info rfl (w.heap.size + 1) _ L rfl (HO.out.below HB6.out) _ 1 _ _ _ rfl Hgs.out (by rw [HN.out]; omega) (by omega) ?_
                           intro v7 w7 hown7 hg7 hat7
                           obtain ⟨A7, c7, e7, _⟩ := hown7.form
                           rw [List.length_append] at e7
                           subst e7
                           refine Kept.out ?_)
              have hrow : ∀ g, (Value.slice A1 N c1).ownBlock = some g → w.heap.size + 1 ≤ g ∧ g < wo.heap.size := HO.out.row
              have hgt0 : wo.heap.size ≤ gt := by assumption
              have hbt7 := (hg7.block gt (blk_lt HBT6.out) (fun e => by have := (hrow _ e.symm).2; omega)).trans HBT6.out
              have hq7 := HasQI.app HQ6.out hg7 (fun e => by have := (hrow _ e).1; omega) hat7
              have hI7 := isI_grown HI6.out hg7 (fun h0 => (HSI.out h0).2)
              have hS7 : 0 < qi.length → Sep (blkA (some ⟨b1, o1, none⟩)) (some w.heap.size) ∧ Sep (blkA (some ⟨b1, o1, none⟩)) (Value.slice A7 (L.length + [((i : Int), y)].length) c7).ownBlock := fun h0 => ⟨(HSI.out h0).1, (HSI.out h0).2.app hat7 (isI_lt HI6.out h0)⟩
              have hct7 := blk_cell hbt7
              have hft7 := blk_free hbt7
              have hlt7 := blk_lt hbt7
              obtain ⟨A8, c8, q8, _, hx8, _⟩ := hq7.at_ (i := i) (by rw [HQL.out]; exact hi)
              obtain ⟨cur8, hblk8, _⟩ := hq7.ex
              have hf8 := blk_free hblk8
              have hl8 := blk_lt hblk8
              have HQ7 := Lib.hid hq7
              have HI7 := Lib.hid hI7
              have HS7 := Lib.hid hS7
              have HOW7 := Lib.hid hown7
              have HB7 : Hid (Below w.heap.size w w7) := Lib.hid (below_own hg7 (by have hb6 := HB6.out; have hb := HB.out; (repeat' (first | (with_reducible exact Below.refl _ _) | (with_reducible assumption) | (with_reducible refine Below.alloc ?_ ?_ _) | (with_reducible refine below_drewN ?_ _) | (with_reducible refine Below.drew ?_) | (with_reducible refine Below.setCell ?_ ?_ _) | (with_reducible refine below_call (by assumption) ?_ ?_) | (with_reducible refine below_grown (by assumption) ?_ ?_ ?_) | omega | (simp; done) | (simp; omega)))) (by omega) (fun g hg => by have := (hrow g hg).1; omega))
              clear hq7 hI7 hS7 hblk8 hbt7 hg7 hown7 hat7 hrow
              refine Kept.mk ?_
              go_wp2_with fail
              apply wp_region_pure (by kernel_rfl) ([] :: [] :: [1] :: [] :: [] :: [4] :: [5] :: [3, 6] :: [0, 2] :: []) (RS.det [] _ :: RS.det [] _ :: RS.det [1] _ :: RS.det [] _ :: RS.det [] _ :: RS.det [4] _ :: RS.det [5] _ :: RS.det [3, 6] _ :: RS.det [0, 2] _ :: []) [] rfl (by kernel_rfl) (fun h => absurd rfl h) (by kernel_rfl) (by kernel_rfl) (st_det (st_det (st_det (st_det (st_det (st_det (st_det (st_det (st_det st_nil))))))))) _ (fun v => by simp; rfl)
              case hop =>
                simp only [Obls]
                refine ⟨?_, ?_, ?_, ?_, ?_, ?_, ?_, ?_, ?_, trivial⟩
                · (intro v w1 K hb hF hK; (try simp at hF); simp at hK; (try simp only [hF] at hK); have hz := hb.size; (try simp at hz))
                  go_simp
                  (try simp only [])
                  exact hK _ _ rfl (by (repeat' (first | (with_reducible exact Below.refl _ _) | (with_reducible assumption) | (with_reducible refine Below.alloc ?_ ?_ _) | (with_reducible refine below_drewN ?_ _) | (with_reducible refine Below.drew ?_) | (with_reducible refine Below.setCell ?_ ?_ _) | (with_reducible refine below_call (by assumption) ?_ ?_) | go_size)))
                · (intro v w1 K hb hF hK; (try simp at hF); simp at hK; (try simp only [hF] at hK); have hz := hb.size; (try simp at hz))
                  go_simp
                  (try simp only [])
                  exact hK _ _ rfl (by (repeat' (first | (with_reducible exact Below.refl _ _) | (with_reducible assumption) | (with_reducible refine Below.alloc ?_ ?_ _) | (with_reducible refine below_drewN ?_ _) | (with_reducible refine Below.drew ?_) | (with_reducible refine Below.setCell ?_ ?_ _) | (with_reducible refine below_call (by assumption) ?_ ?_) | go_size)))
                · (intro v w1 K hb hF hK; (try simp at hF); simp at hK; (try simp only [hF] at hK); have hz := hb.size; (try simp at hz); (try (have hk := bcl hb (gt) (by first | omega | (simp; done) | (simp; omega)); have hc := hk.1; have hf := hk.2.1; have hk := hk.2.2)); (try (have hk := bcl hb (w.heap.size) (by first | omega | (simp; done) | (simp; omega)); have hc := hk.1; have hf := hk.2.1; have hk := hk.2.2)))
                  go_simp
                  (try simp only [])
                  exact hK _ _ rfl (by (repeat' (first | (with_reducible exact Below.refl _ _) | (with_reducible assumption) | (with_reducible refine Below.alloc ?_ ?_ _) | (with_reducible refine below_drewN ?_ _) | (with_reducible refine Below.drew ?_) | (with_reducible refine Below.setCell ?_ ?_ _) | (with_reducible refine below_call (by assumption) ?_ ?_) | go_size)))
                · (intro v w1 K hb hF hK; (try simp at hF); simp at hK; (try simp only [hF] at hK); have hz := hb.size; (try simp at hz))
                  go_simp
                  (try simp only [])
                  exact hK _ _ rfl (by (repeat' (first | (with_reducible exact Below.refl _ _) | (with_reducible assumption) | (with_reducible refine Below.alloc ?_ ?_ _) | (with_reducible refine below_drewN ?_ _) | (with_reducible refine Below.drew ?_) | (with_reducible refine Below.setCell ?_ ?_ _) | (with_reducible refine below_call (by assumption) ?_ ?_) | go_size)))
                · (intro v w1 K hb hF hK; (try simp at hF); simp at hK; (try simp only [hF] at hK); have hz := hb.size; (try simp at hz))
                  go_simp
                  (try simp only [])
                  exact hK _ _ rfl (by (repeat' (first | (with_reducible exact Below.refl _ _) | (with_reducible assumption) | (with_reducible refine Below.alloc ?_ ?_ _) | (with_reducible refine below_drewN ?_ _) | (with_reducible refine Below.drew ?_) | (with_reducible refine Below.setCell ?_ ?_ _) | (with_reducible refine below_call (by assumption) ?_ ?_) | go_size)))
                · (intro v w1 K hb hF hK; (try simp at hF); simp at hK; (try simp only [hF] at hK); have hz := hb.size; (try simp at hz))
                  go_simp
                  (try simp only [])
                  exact hK _ _ rfl (by (repeat' (first | (with_reducible exact Below.refl _ _) | (with_reducible assumption) | (with_reducible refine Below.alloc ?_ ?_ _) | (with_reducible refine below_drewN ?_ _) | (with_reducible refine Below.drew ?_) | (with_reducible refine Below.setCell ?_ ?_ _) | (with_reducible refine below_call (by assumption) ?_ ?_) | go_size)))
                · (intro v w1 K hb hF hK; (try simp at hF); simp at hK; (try simp only [hF] at hK); have hz := hb.size; (try simp at hz))
                  go_simp
                  (try simp only [])
                  exact hK _ _ rfl (by (repeat' (first | (with_reducible exact Below.refl _ _) | (with_reducible assumption) | (with_reducible refine Below.alloc ?_ ?_ _) | (with_reducible refine below_drewN ?_ _) | (with_reducible refine Below.drew ?_) | (with_reducible refine Below.setCell ?_ ?_ _) | (with_reducible refine below_call (by assumption) ?_ ?_) | go_size)))
                · (intro v w1 K hb hF hK; (try simp at hF); simp at hK; (try simp only [hF] at hK); have hz := hb.size; (try simp at hz))
                  go_simp
                  (try simp only [])
                  exact hK _ _ rfl (by (repeat' (first | (with_reducible exact Below.refl _ _) | (with_reducible assumption) | (with_reducible refine Below.alloc ?_ ?_ _) | (with_reducible refine below_drewN ?_ _) | (with_reducible refine Below.drew ?_) | (with_reducible refine Below.setCell ?_ ?_ _) | (with_reducible refine below_call (by assumption) ?_ ?_) | go_size)))
                · (intro v w1 K hb hF hK; (try simp at hF); simp at hK; (try simp only [hF] at hK); have hz := hb.size; (try simp at hz))
                  go_simp
                  (try simp only [])
                  exact hK _ _ rfl (by (repeat' (first | (with_reducible exact Below.refl _ _) | (with_reducible assumption) | (with_reducible refine Below.alloc ?_ ?_ _) | (with_reducible refine below_drewN ?_ _) | (with_reducible refine Below.drew ?_) | (with_reducible refine Below.setCell ?_ ?_ _) | (with_reducible refine below_call (by assumption) ?_ ?_) | go_size)))
              case hfo => exact trivial
              (intro v w1 hb hF; simp [List.range, List.range.loop] at hF; have hz := hb.size; (try simp at hz); (try (have hk := bcl hb (gt) (by first | omega | (simp; done) | (simp; omega)); have hc := hk.1; have hf := hk.2.1; have hk := hk.2.2)); (try (have hk := bcl hb (w.heap.size) (by first | omega | (simp; done) | (simp; omega)); have hc := hk.1; have hf := hk.2.1; have hk := hk.2.2)))
              obtain ⟨e0, e1, e2, e3, e4, e5, e6, e7, e8⟩ := hF
              simp only [List.length_cons, List.length_nil, List.drop_succ_cons, List.drop_zero, e0, e1, e2, e3, e4, e5, e6, e7, e8]
              clear e0 e1 e2 e3 e4 e5 e6 e7 e8 v
              have HBZ := Lib.hid hb
              have hz9 := hb.size
              clear hb
              go_wp2
              go_roundw
              case rel =>
                have hput := HasQI.put (HQ7.out.below HBZ.out) (i := i) (c := ci) (by rw [HQL.out]; exact hi) (by rw [HDL.out]; omega) (by omega) (isI_init (HI7.out.below HBZ.out)) (fun h0 => HS7.out (by rw [HN1.out]; exact h01))
                rw [HDL.out] at hput
                refine ⟨k + 1, congrArg (Value.int .i64) (by push_cast; omega), ?_, ?_, HR1.out.1, by have hb7 := HB7.out; have hbz := HBZ.out; (repeat' (first | (with_reducible exact Below.refl _ _) | (with_reducible assumption) | (with_reducible refine Below.alloc ?_ ?_ _) | (with_reducible refine below_drewN ?_ _) | (with_reducible refine Below.drew ?_) | (with_reducible refine Below.setCell ?_ ?_ _) | (with_reducible refine below_call (by assumption) ?_ ?_) | (with_reducible refine below_grown (by assumption) ?_ ?_ ?_) | omega | (simp; done) | (simp; omega)))⟩
                · rw [HSE.out]
                  exact OwnC.grown (HOW7.out.below HBZ.out) (g := w.heap.size) (only_setCell (World.grownBy.refl _ _) (.inl rfl) _) (by omega)
                · rw [HSE.out]; exact hput
              case measure => exact HR1.out.2

        · have eb : decide ((N : Int) < count) = false := decide_eq_false (by omega)
          have HE : Hid (WorkIs script count ws L) := Lib.hid (by
            have hb : workB script count ws = true := by simp only [workB, HW.out, Bool.and_true, decide_eq_true_eq]; omega
            unfold WorkIs
            rw [if_pos hb]
            exact ⟨k, HR.out.ends (by rw [HLL.out, HN.out]; exact hlt), HLL.out.symm⟩)
          go_wp2_with ((go_at_call 21; (with_reducible refine (ClipD_eq hc11 hc12 _).mono ?_); rintro e w1 ⟨rfl, rfl⟩))
          go_ret
          exact ⟨A1, N, L, by rw [HN.out]; rfl, by rw [HN.out]; exact HI1.out, HE.out, by rw [HN.out]; exact Nat.le_refl _, by omega, HB.out⟩

set_option maxHeartbeats 1000000 in
theorem WorkOrder_any {AS : Option Addr} {m : Nat} {script : List Tn} {w : World} {count ws : Int} (c : Nat) (h : IsPts w AS m script) (hm : m ≤ 1000000000) (hw1 : -1000000 ≤ ws) (hw2 : ws ≤ 1000000) :
    Calls Try.prog 6 #[.int .i64 count, .int .i64 ws, .slice AS m c] w (RetW script count ws w) := by
  have HP := Lib.hid h
  obtain ⟨b, hb⟩ : ∃ v, workB script count ws = v := ⟨_, rfl⟩
  have H1 := Lib.hid hb
  clear h hb
  cases b with
  | false =>
    go_enter Try.func6, Try.ntmps6
    go_wp2_with fail
    refine (workValid_eq c HP.out hm hw1 hw2 H1.out).mono ?_
    rintro e w1 ⟨rfl, hb⟩
    go_wp2
    go_ret
    exact RetW.no H1.out (by (repeat' (first | (with_reducible exact Below.refl _ _) | (with_reducible assumption) | (with_reducible refine Below.alloc ?_ ?_ _) | (with_reducible refine below_drewN ?_ _) | (with_reducible refine Below.drew ?_) | (with_reducible refine Below.setCell ?_ ?_ _) | (with_reducible refine below_call (by assumption) ?_ ?_) | (with_reducible refine below_grown (by assumption) ?_ ?_ ?_) | omega | (simp; done) | (simp; omega))))
  | true =>
    obtain ⟨p1, p2⟩ := workB_parts H1.out
    obtain ⟨q1, _⟩ := wOk_parts p2
    obtain ⟨n, rfl⟩ : ∃ n : Nat, count = n := ⟨count.toNat, by omega⟩
    obtain ⟨s, rfl⟩ : ∃ n : Nat, ws = n := ⟨ws.toNat, by omega⟩
    have hn16 : n ≤ 16 := by omega
    have H2 := Lib.hid p2
    clear p1 p2 q1
    go_enter Try.func6, Try.ntmps6
    go_wp2_with fail
    refine (workValid_eq c HP.out hm hw1 hw2 H1.out).mono ?_
    rintro e w1 ⟨rfl, hb⟩
    have hz := hb.size
    go_wp2_with fail
    refine (work_any c (HP.out.below hb) H2.out hn16).mono ?_
    rintro e w2 ⟨A, c2, L, rfl, hI, hWk, hc1, hc2, hb2⟩
    go_wp2
    go_ret
    exact ⟨A, c2, L, rfl, hI, hWk, hc1, hc2, by (repeat' (first | (with_reducible exact Below.refl _ _) | (with_reducible assumption) | (with_reducible refine Below.alloc ?_ ?_ _) | (with_reducible refine below_drewN ?_ _) | (with_reducible refine Below.drew ?_) | (with_reducible refine Below.setCell ?_ ?_ _) | (with_reducible refine below_call (by assumption) ?_ ?_) | (with_reducible refine below_grown (by assumption) ?_ ?_ ?_) | omega | (simp; done) | (simp; omega)))⟩

end Go.Proofs.Ytadpmigppjjmhaa
