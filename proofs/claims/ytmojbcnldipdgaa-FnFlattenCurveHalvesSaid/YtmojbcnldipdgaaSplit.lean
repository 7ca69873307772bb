/-
  Halves of curves.
-/
import Derived.Test.YtmojbcnldipdgaaBend
import Derived.Test.YtmojbcnldipdgaaSplM
import Derived.Test.YtmojbcnldipdgaaRdr
namespace Go.Proofs.Ytmojbcnldipdgaa
open Go.RowKit Pl

set_option linter.unusedSimpArgs false
set_option linter.unusedVariables false

def slen : Value → Nat
  | .slice _ n _ => n
  | _ => 0

set_option maxHeartbeats 2000000 in
theorem Reverse_any {base : Nat} {A : Option Addr} {n c : Nat} {l : List Pt} {w : World} (h : OwnP base w (.slice A n c) l) (hn : n ≤ 1000000) :
    Calls Try.prog 32 #[.slice A n c] w fun e w' => e = .returned (.tuple #[]) ∧ OwnP base w' (.slice A n c) l.reverse ∧ w.grownBy w' (blkA A) := by
  obtain ⟨A', c', e0, k1, k2, k3, k4⟩ := h
  cases e0
  rcases Nat.eq_zero_or_pos l.length with hz | hz
  · have e2 := List.length_eq_zero_iff.1 hz
    subst e2
    clear k4 hz
    go_enter Try.func32, Try.ntmps32
    go_wp2
    go_loop [2, 3] (fun i j => i = .int .i64 0 ∧ j = .int .i64 (-1)) (fun _ _ => 0)
    case atStart => exact ⟨rfl, rfl⟩
    case round =>
      obtain ⟨rfl, rfl⟩ := hrel
      go_wp2
      go_end0
      exact ⟨rfl, ⟨A, c, rfl, k1, k2, k3, fun h => absurd h (Nat.lt_irrefl _)⟩, World.grownBy.refl _ _⟩
  · obtain ⟨g, cur, rfl, hg, hh⟩ := k4 hz
    have hbg := k3 _ rfl
    simp only at hbg
    obtain ⟨n, hnl⟩ : ∃ n, l.length = n := ⟨_, rfl⟩
    have HL := Lib.hid hnl
    have H0 : Hid (Has cur (revI l 0)) := Lib.hid (by rw [revI_zero]; exact hh)
    clear k4 k3 hh
    rw [hnl] at hn hz k1 ⊢
    clear hnl
    go_enter Try.func32, Try.ntmps32
    go_wp2
    go_loopw [2, 3] (fun vi vj wr => ∃ (k j : Nat) (cur : Array Value), j + k + 1 = n ∧ vi = .int .i64 k ∧ vj = .int .i64 j ∧ 2 * k ≤ n ∧ wr.heap[g]? = some (.cells cur 41 (0, 0)) ∧ Has cur (revI l k) ∧ w.grownBy wr (some g)) (fun _ j _ => (intOf j).toNat)
    case atStart => exact ⟨0, n - 1, cur, by omega, rfl, by go_num, by omega, hg, H0.out, World.grownBy.refl _ _⟩
    case round =>
      obtain ⟨k, j, cur, hjk, rfl, rfl, hk2, hb1, hm, hgr⟩ := hrel
      have hl1 := blk_lt hb1
      have hc1 := blk_cell hb1
      have hf1 := blk_free hb1
      have HB := Lib.hid hb1
      have HM := Lib.hid hm
      have HG := Lib.hid hgr
      clear hb1 hm hg H0 hgr
      by_cases hlt : k < j
      · have eb : decide ((k : Int) < j) = true := by simp; omega
        have hki : (k : Int) < n := by omega
        have hji : (j : Int) < n := by omega
        have e1 := revI_at (l := l) (i := k) (t := k) (by rw [HL.out]; omega)
        have e2 := revI_at (l := l) (i := k) (t := j) (by rw [HL.out]; omega)
        rw [if_neg (by rw [HL.out]; omega)] at e1 e2
        obtain ⟨d0, d1⟩ := HM.out.2 k (by rw [revI_len, HL.out]; omega)
        obtain ⟨d2, d3⟩ := HM.out.2 j (by rw [revI_len, HL.out]; omega)
        rw [show px (revI l k) k = px l k from congrArg Prod.fst e1] at d0
        rw [show py (revI l k) k = py l k from congrArg Prod.snd e1] at d1
        rw [show px (revI l k) j = px l j from congrArg Prod.fst e2] at d2
        rw [show py (revI l k) j = py l j from congrArg Prod.snd e2] at d3
        have c0 := (hc1 _).trans d0
        have c1 := (hc1 _).trans d1
        have c2 := (hc1 _).trans d2
        have c3 := (hc1 _).trans d3
        clear hc1 e1 e2 d0 d1 d2 d3
        go_wp2_with fail
        go_region
        all_goals go_wp2
        all_goals
          go_roundw
          case rel =>
            have hput := Has.put (Has.put HM.out (i := k) (p := pt l j) (by rw [revI_len, HL.out]; omega)) (i := j) (p := pt l k) (by rw [List.length_set, revI_len, HL.out]; omega)
            rw [revI_step (by rw [HL.out]; exact hjk) hlt] at hput
            exact ⟨k + 1, j - 1, _, by omega, by simp, by go_num, by omega, blk_set (blk_set (blk_set (blk_set (blk_drewN HB.out 1) _ _) _ _) _ _) _ _, hput, only_setCell (only_setCell (only_setCell (only_setCell (only_drewN HG.out 1) (.inl rfl) _) (.inl rfl) _) (.inl rfl) _) (.inl rfl) _⟩
          case measure => simp [intOf]; omega
      · have eb : decide ((k : Int) < j) = false := by simp; omega
        have HD : Hid (Has cur l.reverse) := Lib.hid (by have := HM.out; rwa [revI_end (by rw [HL.out]; omega)] at this)
        go_wp2
        go_end0
        exact ⟨rfl, ⟨_, c, by rw [List.length_reverse, HL.out], by rw [List.length_reverse, HL.out]; exact k1, k2, fun a e => (by cases e; exact hbg), fun _ => ⟨g, cur, rfl, HB.out, HD.out⟩⟩, HG.out⟩

set_option maxHeartbeats 4000000 in
theorem split_any {A : Option Addr} {n : Nat} {l : List Pt} {w : World} (c : Nat) (h : IsPts w A n l) (hc : curveB l = true) :
    Calls Try.prog 21 #[.slice A n c] w (RetP2 (leftL l) (rightL l) w) := by
  obtain ⟨p1, p2, p3⟩ := curveB_parts hc
  have hl := h.1
  rw [hl] at p1 p2
  have HP := Lib.hid h
  have HL := Lib.hid hl
  have HV := Lib.hid p3
  clear h hc hl p3
  go_enter Try.func21, Try.ntmps21
  go_wp2
  go_loopw [4, 5, 6] (fun f s now wr => ∃ (k : Nat) (A' : Option Addr) (c' : Nat), k ≤ n ∧ now = .slice A' (n - k) c' ∧ IsPts wr A' (n - k) (rowL l k) ∧ Sep (blkA A') f.ownBlock ∧ Sep (blkA A') s.ownBlock ∧ Sep f.ownBlock s.ownBlock ∧
      OwnPts w.heap.size wr f (tab k fun j => dc l j 0) ∧ OwnPts w.heap.size wr s (lastL l k) ∧ Below w.heap.size w wr) (fun _ _ now _ => slen now)
  case atStart => exact ⟨0, A, c, by omega, rfl, by rw [rowL_zero]; exact HP.out, fun g _ e => (by cases e), fun g _ e => (by cases e), Sep.none _, OwnPts.nil _ _, OwnPts.nil _ _, Below.refl _ _⟩
  case round =>
    obtain ⟨wo, rfl⟩ : ∃ wo : World, wo = wr := ⟨_, rfl⟩
    obtain ⟨k, A', c', hk, rfl, hP, s1, s2, s3, o1, o2, hbel⟩ := hrel
    have hsz := hbel.size
    by_cases hlt : k < n
    · obtain ⟨r, hr⟩ : ∃ r, n - k = r := ⟨_, rfl⟩
      obtain ⟨q, hq⟩ : ∃ q, q + 1 = r := ⟨r - 1, by omega⟩
      rw [hr] at hP ⊢
      have HR := Lib.hid hr
      have hrn : r ≤ 4 := by omega
      have hkr : k + r = n := by omega
      clear hr hk hlt
      obtain ⟨b, o, rfl, hbl, c0, c1⟩ := hP.at_ (k := 0) (by omega)
      obtain ⟨b', o', e, _, c2, c3⟩ := hP.at_ (k := q) (by omega)
      cases e
      have hr1 := rowL_at (l := l) (k := k) (i := 0) (by rw [HL.out]; omega)
      have hr2 := rowL_at (l := l) (k := k) (i := q) (by rw [HL.out]; omega)
      rw [hr1.1] at c0
      rw [hr1.2] at c1
      rw [hr2.1] at c2
      rw [hr2.2] at c3
      obtain ⟨x0, hx0⟩ : ∃ a, (dc l k 0).1 = a := ⟨_, rfl⟩
      obtain ⟨y0, hy0⟩ : ∃ a, (dc l k 0).2 = a := ⟨_, rfl⟩
      obtain ⟨x1, hx1⟩ : ∃ a, (dc l k q).1 = a := ⟨_, rfl⟩
      obtain ⟨y1, hy1⟩ : ∃ a, (dc l k q).2 = a := ⟨_, rfl⟩
      rw [hx0] at c0
      rw [hy0] at c1
      rw [hx1] at c2
      rw [hy1] at c3
      simp only [Nat.zero_mul, Nat.add_zero] at c0 c1
      have T1 : Hid ((tab k fun j => dc l j 0) ++ [(x0, y0)] = tab (k + 1) fun j => dc l j 0) := Lib.hid (by rw [tab_succ, ← hx0, ← hy0])
      have T2 : Hid (lastL l k ++ [(x1, y1)] = lastL l (k + 1)) := Lib.hid (by rw [lastL, lastL, tab_succ, HL.out, ← hx1, ← hy1, show n - 1 - k = q by omega])
      have HPr := Lib.hid hP
      have O1 := Lib.hid o1
      have O2 := Lib.hid o2
      have S1 := Lib.hid s1
      have S2 := Lib.hid s2
      have S3 := Lib.hid s3
      have hki : (0 : Int) < r := by omega
      have hqi : (q : Int) < r := by omega
      have eb : decide ((0 : Int) < (r : Int)) = true := by simp; omega
      have t1 : IntKind.i64.wrap ((r : Int) - 1) = (q : Int) := (IntWalk.i64_in _ (by omega)).trans (by omega)
      have X1 := Lib.hid hx1
      have Y1 := Lib.hid hy1
      clear hr1 hr2 hx0 hy0 hx1 hy1 hP o1 o2 s1 s2 s3
      go_wp2_with (at_builtin
                   refine append_ptsA rfl (.tmp 13) (.tmp 17) rfl w.heap.size _ _ rfl (O1.out.below (by (repeat' (first | (with_reducible exact Below.refl _ _) | (with_reducible assumption) | (with_reducible refine Below.alloc ?_ ?_ _) | (with_reducible refine below_drewN ?_ _) | (with_reducible refine Below.drew ?_) | (with_reducible refine Below.setCell ?_ ?_ _) | (with_reducible refine below_call (by assumption) ?_ ?_) | (with_reducible refine below_grown (by assumption) ?_ ?_ ?_) | omega | (simp; done) | (simp; omega))))) wo.heap.size 1 _ _ _ rfl (blk_new wo _) (by rw [tab_len]; omega) (by simp; omega) ?_
                   intro v1 w1 hv1 hg1 ha1
                   refine Kept.out ?_)
      rw [T1.out] at hv1
      have hz1 := hg1.size
      simp at hz1
      have hPa := IsPts.grown (HPr.out.below (show Below wo.heap.size wo (wo.alloc _) by (repeat' (first | (with_reducible exact Below.refl _ _) | (with_reducible assumption) | (with_reducible refine Below.alloc ?_ ?_ _) | (with_reducible refine below_drewN ?_ _) | (with_reducible refine Below.drew ?_) | (with_reducible refine Below.setCell ?_ ?_ _) | (with_reducible refine below_call (by assumption) ?_ ?_) | (with_reducible refine below_grown (by assumption) ?_ ?_ ?_) | omega | (simp; done) | (simp; omega))))) hg1 S1.out
      obtain ⟨b', o', e, hbl1, d2, d3⟩ := hPa.at_ (k := q) (by omega)
      cases e
      have hr2 := rowL_at (l := l) (k := k) (i := q) (by rw [HL.out]; omega)
      rw [hr2.1, X1.out] at d2
      rw [hr2.2, Y1.out] at d3
      clear hr2
      have HPa := Lib.hid hPa
      have O1a := Lib.hid hv1
      have O2a := Lib.hid (OwnPts.other (O2.out.below (show Below wo.heap.size wo (wo.alloc _) by (repeat' (first | (with_reducible exact Below.refl _ _) | (with_reducible assumption) | (with_reducible refine Below.alloc ?_ ?_ _) | (with_reducible refine below_drewN ?_ _) | (with_reducible refine Below.drew ?_) | (with_reducible refine Below.setCell ?_ ?_ _) | (with_reducible refine below_call (by assumption) ?_ ?_) | (with_reducible refine below_grown (by assumption) ?_ ?_ ?_) | omega | (simp; done) | (simp; omega))))) hg1 S3.out.symm)
      have B1 : Hid (Below w.heap.size w w1) := Lib.hid (below_ownP hg1 (by (repeat' (first | (with_reducible exact Below.refl _ _) | (with_reducible assumption) | (with_reducible refine Below.alloc ?_ ?_ _) | (with_reducible refine below_drewN ?_ _) | (with_reducible refine Below.drew ?_) | (with_reducible refine Below.setCell ?_ ?_ _) | (with_reducible refine below_call (by assumption) ?_ ?_) | (with_reducible refine below_grown (by assumption) ?_ ?_ ?_) | omega | (simp; done) | (simp; omega)))) (by simp; omega) O1.out.row)
      have S3a : Hid (Sep v1.ownBlock u5.ownBlock) := Lib.hid (Sep.symm (S3.out.symm.app ha1 (fun g hg => by have := O2.out.lt g hg; simp; omega)))
      have S1a : Hid (Sep (blkA (some ⟨b, o, none⟩)) v1.ownBlock) := Lib.hid (S1.out.app ha1 (fun g hg => by simp only [blkA, Option.map, Option.some.injEq] at hg; subst hg; simp; omega))
      clear hv1 hg1 ha1 hPa
      refine Kept.mk ?_
      go_wp2_with (at_builtin
                   refine append_ptsA rfl (.tmp 19) (.tmp 26) rfl w.heap.size _ _ rfl (O2a.out.below (by (repeat' (first | (with_reducible exact Below.refl _ _) | (with_reducible assumption) | (with_reducible refine Below.alloc ?_ ?_ _) | (with_reducible refine below_drewN ?_ _) | (with_reducible refine Below.drew ?_) | (with_reducible refine Below.setCell ?_ ?_ _) | (with_reducible refine below_call (by assumption) ?_ ?_) | (with_reducible refine below_grown (by assumption) ?_ ?_ ?_) | omega | (simp; done) | (simp; omega))))) w1.heap.size 1 _ _ _ rfl (blk_new w1 _) (by rw [lastL, tab_len]; omega) (by simp; omega) ?_
                   intro v2 w2 hv2 hg2 ha2
                   refine Kept.out ?_)
      rw [T2.out] at hv2
      have hz2 := hg2.size
      simp at hz2
      have HPb := Lib.hid (IsPts.grown (HPa.out.below (show Below w1.heap.size w1 (w1.alloc _) by (repeat' (first | (with_reducible exact Below.refl _ _) | (with_reducible assumption) | (with_reducible refine Below.alloc ?_ ?_ _) | (with_reducible refine below_drewN ?_ _) | (with_reducible refine Below.drew ?_) | (with_reducible refine Below.setCell ?_ ?_ _) | (with_reducible refine below_call (by assumption) ?_ ?_) | (with_reducible refine below_grown (by assumption) ?_ ?_ ?_) | omega | (simp; done) | (simp; omega))))) hg2 S2.out)
      have O1b := Lib.hid (OwnPts.other (O1a.out.below (show Below w1.heap.size w1 (w1.alloc _) by (repeat' (first | (with_reducible exact Below.refl _ _) | (with_reducible assumption) | (with_reducible refine Below.alloc ?_ ?_ _) | (with_reducible refine below_drewN ?_ _) | (with_reducible refine Below.drew ?_) | (with_reducible refine Below.setCell ?_ ?_ _) | (with_reducible refine below_call (by assumption) ?_ ?_) | (with_reducible refine below_grown (by assumption) ?_ ?_ ?_) | omega | (simp; done) | (simp; omega))))) hg2 S3a.out)
      have O2b := Lib.hid hv2
      have B2 : Hid (Below w.heap.size w w2) := Lib.hid (below_ownP hg2 (B1.out.alloc (by omega) _) (by simp; omega) O2a.out.row)
      have S3b : Hid (Sep v1.ownBlock v2.ownBlock) := Lib.hid (S3a.out.app ha2 (fun g hg => by have := O1a.out.lt g hg; simp; omega))
      clear hv2 hg2 ha2
      refine Kept.mk ?_
      go_wp2
      go_loopw [7, 8] (fun nx vi wr => ∃ j : Nat, 1 ≤ j ∧ j ≤ r ∧ vi = .int .i64 j ∧ OwnPts w2.heap.size wr nx (tab (j - 1) (dc l (k + 1))) ∧ Below w2.heap.size w2 wr) (fun _ i _ => r - (intOf i).toNat)
      case atStart => exact ⟨1, by omega, by omega, rfl, OwnPts.nil _ _, Below.refl _ _⟩
      case round =>
        obtain ⟨j, hj1, hjr, rfl, hown, hbel2⟩ := hrel
        have hsz2 := hbel2.size
        have HO := Lib.hid hown
        clear hown c0 c1 c2 c3 d2 d3
        by_cases hlt : j < r
        · have eb : decide ((j : Int) < r) = true := by simp; omega
          have hji : (j : Int) < r := by omega
          obtain ⟨i0, hi0⟩ : ∃ i0, i0 + 1 = j := ⟨j - 1, by omega⟩
          rw [show j - 1 = i0 by omega] at HO
          have hPc := HPb.out.below hbel2
          obtain ⟨b', o', e, hblc, c0, c1⟩ := hPc.at_ (k := i0) (by omega)
          cases e
          obtain ⟨b', o', e, _, c2, c3⟩ := hPc.at_ (k := j) (by omega)
          cases e
          have hr1 := rowL_at (l := l) (k := k) (i := i0) (by rw [HL.out]; omega)
          have hr2 := rowL_at (l := l) (k := k) (i := j) (by rw [HL.out]; omega)
          have q1 := dc_valid HV.out (k := k) (i := i0) (by rw [HL.out]; omega)
          have q2 := dc_valid HV.out (k := k) (i := j) (by rw [HL.out]; omega)
          have hd := dc_step l k i0
          rw [hi0] at hd
          obtain ⟨a0, ha0⟩ : ∃ a, (dc l k i0).1 = a := ⟨_, rfl⟩
          obtain ⟨b0, hb0⟩ : ∃ a, (dc l k i0).2 = a := ⟨_, rfl⟩
          obtain ⟨a1, ha1⟩ : ∃ a, (dc l k j).1 = a := ⟨_, rfl⟩
          obtain ⟨b1, hb1⟩ : ∃ a, (dc l k j).2 = a := ⟨_, rfl⟩
          obtain ⟨X, hX⟩ : ∃ a, (a0 + a1) / 2 = a := ⟨_, rfl⟩
          obtain ⟨Y, hY⟩ : ∃ a, (b0 + b1) / 2 = a := ⟨_, rfl⟩
          rw [hr1.1, ha0] at c0
          rw [hr1.2, hb0] at c1
          rw [hr2.1, ha1] at c2
          rw [hr2.2, hb1] at c3
          rw [ha0, hb0] at q1
          rw [ha1, hb1] at q2
          rw [ha0, hb0, ha1, hb1, hX, hY] at hd
          have HD := Lib.hid hd
          have H1 := Lib.hid hX
          have H2 := Lib.hid hY
          have t1 : IntKind.i64.wrap ((j : Int) - 1) = (i0 : Int) := (IntWalk.i64_in _ (by omega)).trans (by omega)
          have k1 : IntKind.i64.wrap (a0 + a1) = a0 + a1 := IntWalk.i64_in _ (by omega)
          have k2 : IntKind.i64.wrap (b0 + b1) = b0 + b1 := IntWalk.i64_in _ (by omega)
          have l0 : (i0 : Int) < r := by omega
          clear hr1 hr2 ha0 hb0 ha1 hb1 hX hY hd hPc
          go_wp2_with fail
          apply wp_region_pure (by kernel_rfl) ([] :: [] :: [] :: [2] :: [1, 3] :: [4] :: [5] :: [] :: [] :: [7, 8] :: [9] :: [10] :: [6, 11] :: [12] :: [] :: [] :: [15] :: [14, 16] :: [17] :: [18] :: [] :: [] :: [20, 21] :: [22] :: [23] :: [19, 24] :: [25] :: [13, 26] :: [27] :: []) (RS.det [] _ :: RS.det [] _ :: RS.det [] _ :: RS.det [2] _ :: RS.det [1, 3] _ :: RS.det [4] _ :: RS.det [5] _ :: RS.det [] _ :: RS.det [] _ :: RS.det [7, 8] _ :: RS.det [9] _ :: RS.det [10] _ :: RS.det [6, 11] _ :: RS.det [12] _ :: RS.det [] _ :: RS.det [] _ :: RS.det [15] _ :: RS.det [14, 16] _ :: RS.det [17] _ :: RS.det [18] _ :: RS.det [] _ :: RS.det [] _ :: RS.det [20, 21] _ :: RS.det [22] _ :: RS.det [23] _ :: RS.det [19, 24] _ :: RS.det [25] _ :: RS.det [13, 26] _ :: RS.sl [27] _ _ _ _ :: []) [0] rfl (by kernel_rfl) (by intro _ c a d v w h; cases d <;> exact h) (by kernel_rfl) (by kernel_rfl) (st_det (st_det (st_det (st_det (st_det (st_det (st_det (st_det (st_det (st_det (st_det (st_det (st_det (st_det (st_det (st_det (st_det (st_det (st_det (st_det (st_det (st_det (st_det (st_det (st_det (st_det (st_det (st_det (st_sl st_nil))))))))))))))))))))))))))))) _ (fun v => by simp; rfl)
          case hop =>
            simp only [Obls]
            refine ⟨?_, ?_, ?_, ?_, ?_, ?_, ?_, ?_, ?_, ?_, ?_, ?_, ?_, ?_, ?_, ?_, ?_, ?_, ?_, ?_, ?_, ?_, ?_, ?_, ?_, ?_, ?_, ?_, ?_, trivial⟩
            · (intro v w1 K hb hF hK; (try simp at hF); simp at hK; (try simp only [hF] at hK); have hz := hb.size; (try simp at hz))
              go_simp
              (try simp only [])
              exact hK _ _ rfl (by (repeat' (first | (with_reducible exact Below.refl _ _) | (with_reducible assumption) | (with_reducible refine Below.alloc ?_ ?_ _) | (with_reducible refine below_drewN ?_ _) | (with_reducible refine Below.drew ?_) | (with_reducible refine Below.setCell ?_ ?_ _) | (with_reducible refine below_call (by assumption) ?_ ?_) | go_size)))
            · (intro v w1 K hb hF hK; (try simp at hF); simp at hK; (try simp only [hF] at hK); have hz := hb.size; (try simp at hz))
              go_simp
              (try simp only [])
              exact hK _ _ rfl (by (repeat' (first | (with_reducible exact Below.refl _ _) | (with_reducible assumption) | (with_reducible refine Below.alloc ?_ ?_ _) | (with_reducible refine below_drewN ?_ _) | (with_reducible refine Below.drew ?_) | (with_reducible refine Below.setCell ?_ ?_ _) | (with_reducible refine below_call (by assumption) ?_ ?_) | go_size)))
            · (intro v w1 K hb hF hK; (try simp at hF); simp at hK; (try simp only [hF] at hK); have hz := hb.size; (try simp at hz))
              go_simp
              (try simp only [])
              exact hK _ _ rfl (by (repeat' (first | (with_reducible exact Below.refl _ _) | (with_reducible assumption) | (with_reducible refine Below.alloc ?_ ?_ _) | (with_reducible refine below_drewN ?_ _) | (with_reducible refine Below.drew ?_) | (with_reducible refine Below.setCell ?_ ?_ _) | (with_reducible refine below_call (by assumption) ?_ ?_) | go_size)))
            · (intro v w1 K hb hF hK; (try simp at hF); simp at hK; (try simp only [hF] at hK); have hz := hb.size; (try simp at hz))
              go_simp
              (try simp only [])
              exact hK _ _ rfl (by (repeat' (first | (with_reducible exact Below.refl _ _) | (with_reducible assumption) | (with_reducible refine Below.alloc ?_ ?_ _) | (with_reducible refine below_drewN ?_ _) | (with_reducible refine Below.drew ?_) | (with_reducible refine Below.setCell ?_ ?_ _) | (with_reducible refine below_call (by assumption) ?_ ?_) | go_size)))
            · (intro v w1 K hb hF hK; (try simp at hF); simp at hK; (try simp only [hF] at hK); have hz := hb.size; (try simp at hz))
              go_simp
              (try simp only [])
              exact hK _ _ rfl (by (repeat' (first | (with_reducible exact Below.refl _ _) | (with_reducible assumption) | (with_reducible refine Below.alloc ?_ ?_ _) | (with_reducible refine below_drewN ?_ _) | (with_reducible refine Below.drew ?_) | (with_reducible refine Below.setCell ?_ ?_ _) | (with_reducible refine below_call (by assumption) ?_ ?_) | go_size)))
            · (intro v w1 K hb hF hK; (try simp at hF); simp at hK; (try simp only [hF] at hK); have hz := hb.size; (try simp at hz))
              go_simp
              (try simp only [])
              exact hK _ _ rfl (by (repeat' (first | (with_reducible exact Below.refl _ _) | (with_reducible assumption) | (with_reducible refine Below.alloc ?_ ?_ _) | (with_reducible refine below_drewN ?_ _) | (with_reducible refine Below.drew ?_) | (with_reducible refine Below.setCell ?_ ?_ _) | (with_reducible refine below_call (by assumption) ?_ ?_) | go_size)))
            · (intro v w1 K hb hF hK; (try simp at hF); simp at hK; (try simp only [hF] at hK); have hz := hb.size; (try simp at hz); (try (have hk := bcl hb (b) (by first | omega | (simp; done) | (simp; omega)); have hc := hk.1; have hf := hk.2.1; have hk := hk.2.2)))
              go_simp
              (try simp only [])
              exact hK _ _ rfl (by (repeat' (first | (with_reducible exact Below.refl _ _) | (with_reducible assumption) | (with_reducible refine Below.alloc ?_ ?_ _) | (with_reducible refine below_drewN ?_ _) | (with_reducible refine Below.drew ?_) | (with_reducible refine Below.setCell ?_ ?_ _) | (with_reducible refine below_call (by assumption) ?_ ?_) | go_size)))
            · (intro v w1 K hb hF hK; (try simp at hF); simp at hK; (try simp only [hF] at hK); have hz := hb.size; (try simp at hz))
              go_simp
              (try simp only [])
              exact hK _ _ rfl (by (repeat' (first | (with_reducible exact Below.refl _ _) | (with_reducible assumption) | (with_reducible refine Below.alloc ?_ ?_ _) | (with_reducible refine below_drewN ?_ _) | (with_reducible refine Below.drew ?_) | (with_reducible refine Below.setCell ?_ ?_ _) | (with_reducible refine below_call (by assumption) ?_ ?_) | go_size)))
            · (intro v w1 K hb hF hK; (try simp at hF); simp at hK; (try simp only [hF] at hK); have hz := hb.size; (try simp at hz))
              go_simp
              (try simp only [])
              exact hK _ _ rfl (by (repeat' (first | (with_reducible exact Below.refl _ _) | (with_reducible assumption) | (with_reducible refine Below.alloc ?_ ?_ _) | (with_reducible refine below_drewN ?_ _) | (with_reducible refine Below.drew ?_) | (with_reducible refine Below.setCell ?_ ?_ _) | (with_reducible refine below_call (by assumption) ?_ ?_) | go_size)))
            · (intro v w1 K hb hF hK; (try simp at hF); simp at hK; (try simp only [hF] at hK); have hz := hb.size; (try simp at hz))
              go_simp
              (try simp only [])
              exact hK _ _ rfl (by (repeat' (first | (with_reducible exact Below.refl _ _) | (with_reducible assumption) | (with_reducible refine Below.alloc ?_ ?_ _) | (with_reducible refine below_drewN ?_ _) | (with_reducible refine Below.drew ?_) | (with_reducible refine Below.setCell ?_ ?_ _) | (with_reducible refine below_call (by assumption) ?_ ?_) | go_size)))
            · (intro v w1 K hb hF hK; (try simp at hF); simp at hK; (try simp only [hF] at hK); have hz := hb.size; (try simp at hz))
              go_simp
              (try simp only [])
              exact hK _ _ rfl (by (repeat' (first | (with_reducible exact Below.refl _ _) | (with_reducible assumption) | (with_reducible refine Below.alloc ?_ ?_ _) | (with_reducible refine below_drewN ?_ _) | (with_reducible refine Below.drew ?_) | (with_reducible refine Below.setCell ?_ ?_ _) | (with_reducible refine below_call (by assumption) ?_ ?_) | go_size)))
            · (intro v w1 K hb hF hK; (try simp at hF); simp at hK; (try simp only [hF] at hK); have hz := hb.size; (try simp at hz); (try (have hk := bcl hb (b) (by first | omega | (simp; done) | (simp; omega)); have hc := hk.1; have hf := hk.2.1; have hk := hk.2.2)))
              go_simp
              (try simp only [])
              exact hK _ _ rfl (by (repeat' (first | (with_reducible exact Below.refl _ _) | (with_reducible assumption) | (with_reducible refine Below.alloc ?_ ?_ _) | (with_reducible refine below_drewN ?_ _) | (with_reducible refine Below.drew ?_) | (with_reducible refine Below.setCell ?_ ?_ _) | (with_reducible refine below_call (by assumption) ?_ ?_) | go_size)))
            · (intro v w1 K hb hF hK; (try simp at hF); simp at hK; (try simp only [hF] at hK); have hz := hb.size; (try simp at hz))
              go_simp
              (try simp only [])
              exact hK _ _ rfl (by (repeat' (first | (with_reducible exact Below.refl _ _) | (with_reducible assumption) | (with_reducible refine Below.alloc ?_ ?_ _) | (with_reducible refine below_drewN ?_ _) | (with_reducible refine Below.drew ?_) | (with_reducible refine Below.setCell ?_ ?_ _) | (with_reducible refine below_call (by assumption) ?_ ?_) | go_size)))
            · (intro v w1 K hb hF hK; (try simp at hF); simp at hK; (try simp only [hF] at hK); have hz := hb.size; (try simp at hz); (try (have hk := bcl hb (b) (by first | omega | (simp; done) | (simp; omega)); have hc := hk.1; have hf := hk.2.1; have hk := hk.2.2)))
              go_simp
              (first | (go_at_call 31; (with_reducible refine (floor_eq (by omega) (by omega) (by omega) (by omega) (Hid.out (by with_reducible assumption)) _).mono ?_); rintro e w1 ⟨rfl, rfl⟩) | skip)
              (try simp only [])
              exact hK _ _ rfl (by (repeat' (first | (with_reducible exact Below.refl _ _) | (with_reducible assumption) | (with_reducible refine Below.alloc ?_ ?_ _) | (with_reducible refine below_drewN ?_ _) | (with_reducible refine Below.drew ?_) | (with_reducible refine Below.setCell ?_ ?_ _) | (with_reducible refine below_call (by assumption) ?_ ?_) | go_size)))
            · (intro v w1 K hb hF hK; (try simp at hF); simp at hK; (try simp only [hF] at hK); have hz := hb.size; (try simp at hz))
              go_simp
              (try simp only [])
              exact hK _ _ rfl (by (repeat' (first | (with_reducible exact Below.refl _ _) | (with_reducible assumption) | (with_reducible refine Below.alloc ?_ ?_ _) | (with_reducible refine below_drewN ?_ _) | (with_reducible refine Below.drew ?_) | (with_reducible refine Below.setCell ?_ ?_ _) | (with_reducible refine below_call (by assumption) ?_ ?_) | go_size)))
            · (intro v w1 K hb hF hK; (try simp at hF); simp at hK; (try simp only [hF] at hK); have hz := hb.size; (try simp at hz))
              go_simp
              (try simp only [])
              exact hK _ _ rfl (by (repeat' (first | (with_reducible exact Below.refl _ _) | (with_reducible assumption) | (with_reducible refine Below.alloc ?_ ?_ _) | (with_reducible refine below_drewN ?_ _) | (with_reducible refine Below.drew ?_) | (with_reducible refine Below.setCell ?_ ?_ _) | (with_reducible refine below_call (by assumption) ?_ ?_) | go_size)))
            · (intro v w1 K hb hF hK; (try simp at hF); simp at hK; (try simp only [hF] at hK); have hz := hb.size; (try simp at hz))
              go_simp
              (try simp only [])
              exact hK _ _ rfl (by (repeat' (first | (with_reducible exact Below.refl _ _) | (with_reducible assumption) | (with_reducible refine Below.alloc ?_ ?_ _) | (with_reducible refine below_drewN ?_ _) | (with_reducible refine Below.drew ?_) | (with_reducible refine Below.setCell ?_ ?_ _) | (with_reducible refine below_call (by assumption) ?_ ?_) | go_size)))
            · (intro v w1 K hb hF hK; (try simp at hF); simp at hK; (try simp only [hF] at hK); have hz := hb.size; (try simp at hz))
              go_simp
              (try simp only [])
              exact hK _ _ rfl (by (repeat' (first | (with_reducible exact Below.refl _ _) | (with_reducible assumption) | (with_reducible refine Below.alloc ?_ ?_ _) | (with_reducible refine below_drewN ?_ _) | (with_reducible refine Below.drew ?_) | (with_reducible refine Below.setCell ?_ ?_ _) | (with_reducible refine below_call (by assumption) ?_ ?_) | go_size)))
            · (intro v w1 K hb hF hK; (try simp at hF); simp at hK; (try simp only [hF] at hK); have hz := hb.size; (try simp at hz))
              go_simp
              (try simp only [])
              exact hK _ _ rfl (by (repeat' (first | (with_reducible exact Below.refl _ _) | (with_reducible assumption) | (with_reducible refine Below.alloc ?_ ?_ _) | (with_reducible refine below_drewN ?_ _) | (with_reducible refine Below.drew ?_) | (with_reducible refine Below.setCell ?_ ?_ _) | (with_reducible refine below_call (by assumption) ?_ ?_) | go_size)))
            · (intro v w1 K hb hF hK; (try simp at hF); simp at hK; (try simp only [hF] at hK); have hz := hb.size; (try simp at hz); (try (have hk := bcl hb (b) (by first | omega | (simp; done) | (simp; omega)); have hc := hk.1; have hf := hk.2.1; have hk := hk.2.2)))
              go_simp
              (try simp only [])
              exact hK _ _ rfl (by (repeat' (first | (with_reducible exact Below.refl _ _) | (with_reducible assumption) | (with_reducible refine Below.alloc ?_ ?_ _) | (with_reducible refine below_drewN ?_ _) | (with_reducible refine Below.drew ?_) | (with_reducible refine Below.setCell ?_ ?_ _) | (with_reducible refine below_call (by assumption) ?_ ?_) | go_size)))
            · (intro v w1 K hb hF hK; (try simp at hF); simp at hK; (try simp only [hF] at hK); have hz := hb.size; (try simp at hz))
              go_simp
              (try simp only [])
              exact hK _ _ rfl (by (repeat' (first | (with_reducible exact Below.refl _ _) | (with_reducible assumption) | (with_reducible refine Below.alloc ?_ ?_ _) | (with_reducible refine below_drewN ?_ _) | (with_reducible refine Below.drew ?_) | (with_reducible refine Below.setCell ?_ ?_ _) | (with_reducible refine below_call (by assumption) ?_ ?_) | go_size)))
            · (intro v w1 K hb hF hK; (try simp at hF); simp at hK; (try simp only [hF] at hK); have hz := hb.size; (try simp at hz))
              go_simp
              (try simp only [])
              exact hK _ _ rfl (by (repeat' (first | (with_reducible exact Below.refl _ _) | (with_reducible assumption) | (with_reducible refine Below.alloc ?_ ?_ _) | (with_reducible refine below_drewN ?_ _) | (with_reducible refine Below.drew ?_) | (with_reducible refine Below.setCell ?_ ?_ _) | (with_reducible refine below_call (by assumption) ?_ ?_) | go_size)))
            · (intro v w1 K hb hF hK; (try simp at hF); simp at hK; (try simp only [hF] at hK); have hz := hb.size; (try simp at hz))
              go_simp
              (try simp only [])
              exact hK _ _ rfl (by (repeat' (first | (with_reducible exact Below.refl _ _) | (with_reducible assumption) | (with_reducible refine Below.alloc ?_ ?_ _) | (with_reducible refine below_drewN ?_ _) | (with_reducible refine Below.drew ?_) | (with_reducible refine Below.setCell ?_ ?_ _) | (with_reducible refine below_call (by assumption) ?_ ?_) | go_size)))
            · (intro v w1 K hb hF hK; (try simp at hF); simp at hK; (try simp only [hF] at hK); have hz := hb.size; (try simp at hz))
              go_simp
              (try simp only [])
              exact hK _ _ rfl (by (repeat' (first | (with_reducible exact Below.refl _ _) | (with_reducible assumption) | (with_reducible refine Below.alloc ?_ ?_ _) | (with_reducible refine below_drewN ?_ _) | (with_reducible refine Below.drew ?_) | (with_reducible refine Below.setCell ?_ ?_ _) | (with_reducible refine below_call (by assumption) ?_ ?_) | go_size)))
            · (intro v w1 K hb hF hK; (try simp at hF); simp at hK; (try simp only [hF] at hK); have hz := hb.size; (try simp at hz); (try (have hk := bcl hb (b) (by first | omega | (simp; done) | (simp; omega)); have hc := hk.1; have hf := hk.2.1; have hk := hk.2.2)))
              go_simp
              (try simp only [])
              exact hK _ _ rfl (by (repeat' (first | (with_reducible exact Below.refl _ _) | (with_reducible assumption) | (with_reducible refine Below.alloc ?_ ?_ _) | (with_reducible refine below_drewN ?_ _) | (with_reducible refine Below.drew ?_) | (with_reducible refine Below.setCell ?_ ?_ _) | (with_reducible refine below_call (by assumption) ?_ ?_) | go_size)))
            · (intro v w1 K hb hF hK; (try simp at hF); simp at hK; (try simp only [hF] at hK); have hz := hb.size; (try simp at hz))
              go_simp
              (try simp only [])
              exact hK _ _ rfl (by (repeat' (first | (with_reducible exact Below.refl _ _) | (with_reducible assumption) | (with_reducible refine Below.alloc ?_ ?_ _) | (with_reducible refine below_drewN ?_ _) | (with_reducible refine Below.drew ?_) | (with_reducible refine Below.setCell ?_ ?_ _) | (with_reducible refine below_call (by assumption) ?_ ?_) | go_size)))
            · (intro v w1 K hb hF hK; (try simp at hF); simp at hK; (try simp only [hF] at hK); have hz := hb.size; (try simp at hz); (try (have hk := bcl hb (b) (by first | omega | (simp; done) | (simp; omega)); have hc := hk.1; have hf := hk.2.1; have hk := hk.2.2)))
              go_simp
              (first | (go_at_call 31; (with_reducible refine (floor_eq (by omega) (by omega) (by omega) (by omega) (Hid.out (by with_reducible assumption)) _).mono ?_); rintro e w1 ⟨rfl, rfl⟩) | skip)
              (try simp only [])
              exact hK _ _ rfl (by (repeat' (first | (with_reducible exact Below.refl _ _) | (with_reducible assumption) | (with_reducible refine Below.alloc ?_ ?_ _) | (with_reducible refine below_drewN ?_ _) | (with_reducible refine Below.drew ?_) | (with_reducible refine Below.setCell ?_ ?_ _) | (with_reducible refine below_call (by assumption) ?_ ?_) | go_size)))
            · (intro v w1 K hb hF hK; (try simp at hF); simp at hK; (try simp only [hF] at hK); have hz := hb.size; (try simp at hz))
              go_simp
              (try simp only [])
              exact hK _ _ rfl (by (repeat' (first | (with_reducible exact Below.refl _ _) | (with_reducible assumption) | (with_reducible refine Below.alloc ?_ ?_ _) | (with_reducible refine below_drewN ?_ _) | (with_reducible refine Below.drew ?_) | (with_reducible refine Below.setCell ?_ ?_ _) | (with_reducible refine below_call (by assumption) ?_ ?_) | go_size)))
            · (intro v w1 K hb hF hK; (try simp at hF); simp at hK; (try simp only [hF] at hK); have hz := hb.size; (try simp at hz))
              go_simp
              (try simp only [])
              exact hK _ _ (isSl_new _ _ _ hb.size) (by (repeat' (first | (with_reducible exact Below.refl _ _) | (with_reducible assumption) | (with_reducible refine Below.alloc ?_ ?_ _) | (with_reducible refine below_drewN ?_ _) | (with_reducible refine Below.drew ?_) | (with_reducible refine Below.setCell ?_ ?_ _) | (with_reducible refine below_call (by assumption) ?_ ?_) | go_size)))
          case hfo => exact ⟨fun _ => rfl, trivial⟩
          (intro v w1 hb hF; simp [List.range, List.range.loop] at hF; have hz := hb.size; (try simp at hz); (try (have hk := bcl hb (b) (by first | omega | (simp; done) | (simp; omega)); have hc := hk.1; have hf := hk.2.1; have hk := hk.2.2)))
          obtain ⟨e0, e1, e2, e3, e4, e5, e6, e7, e8, e9, e10, e11, e12, e13, e14, e15, e16, e17, e18, e19, e20, e21, e22, e23, e24, e25, e26, e27, g, e28, hg, hgs, hgb⟩ := hF
          simp only [List.length_cons, List.length_nil, List.drop_succ_cons, List.drop_zero, e0, e1, e2, e3, e4, e5, e6, e7, e8, e9, e10, e11, e12, e13, e14, e15, e16, e17, e18, e19, e20, e21, e22, e23, e24, e25, e26, e27, e28]
          clear e0 e1 e2 e3 e4 e5 e6 e7 e8 e9 e10 e11 e12 e13 e14 e15 e16 e17 e18 e19 e20 e21 e22 e23 e24 e25 e26 e27 e28 v
          have hcg := blk_cell hgb; have hfg := blk_free hgb; have Hg := Lib.hid hgb; clear hgb; (try simp at hg)
          go_wp2_with (at_builtin
                       refine append_pts rfl (.tmp 34) (.tmp 62) rfl w2.heap.size _ _ rfl (HO.out.below hb) g 1 _ _ _ rfl Hg.out (by rw [tab_len]; omega) (by omega) ?_
                       intro v3 w3 hown3 hg3)
          go_roundw
          case rel => exact ⟨j + 1, by omega, by omega, by go_num, by rw [show j + 1 - 1 = i0 + 1 by omega, tab_succ, HD.out]; exact hown3, Below.grown (by (repeat' (first | (with_reducible exact Below.refl _ _) | (with_reducible assumption) | (with_reducible refine Below.alloc ?_ ?_ _) | (with_reducible refine below_drewN ?_ _) | (with_reducible refine Below.drew ?_) | (with_reducible refine Below.setCell ?_ ?_ _) | (with_reducible refine below_call (by assumption) ?_ ?_) | (with_reducible refine below_grown (by assumption) ?_ ?_ ?_) | omega | (simp; done) | (simp; omega)))) hg3 (by omega) (fun r hr => by have := HO.out.row r hr; omega)⟩
          case measure => simp [intOf]; omega
        · obtain rfl : j = r := by omega
          have eb2 : decide ((j : Int) < j) = false := by simp
          rw [show j - 1 = q by omega] at HO
          obtain ⟨A2, c2, e2, hP2, _, _, h5⟩ := HO.out.form
          rw [tab_len] at e2 hP2
          subst e2
          have HP2 := Lib.hid hP2
          have HA2 := Lib.hid (blkA_ge (fun a ha => (h5 a ha).1))
          clear hP2 h5 eb
          go_wp2
          go_roundw
          case rel => exact ⟨k + 1, A2, c2, by omega, by rw [show n - (k + 1) = q by omega], by rw [show n - (k + 1) = q by omega, rowL, HL.out, show n - (k + 1) = q by omega]; exact HP2.out, (Sep.far O1b.out.lt HA2.out).symm, (Sep.far O2b.out.lt HA2.out).symm, S3b.out, O1b.out.below hbel2, O2b.out.below hbel2, by have := B2.out; (repeat' (first | (with_reducible exact Below.refl _ _) | (with_reducible assumption) | (with_reducible refine Below.alloc ?_ ?_ _) | (with_reducible refine below_drewN ?_ _) | (with_reducible refine Below.drew ?_) | (with_reducible refine Below.setCell ?_ ?_ _) | (with_reducible refine below_call (by assumption) ?_ ?_) | (with_reducible refine below_grown (by assumption) ?_ ?_ ?_) | omega | (simp; done) | (simp; omega)))⟩
          case measure => simp [slen]; omega
    · obtain rfl : k = n := by omega
      obtain ⟨r, hr⟩ : ∃ r, k - k = r := ⟨_, rfl⟩
      rw [hr] at hP ⊢
      obtain rfl : r = 0 := by omega
      obtain ⟨A2, c2, e2, hP2, h3, h4, h5⟩ := o2.form
      have el2 : (lastL l k).length = k := tab_len _ _
      have er : (lastL l k).reverse = rightL l := by have := lastL_rev l; rwa [HL.out] at this
      have el : (tab k fun j => dc l j 0) = leftL l := by rw [leftL, HL.out]
      rw [el2] at e2 hP2 h3
      subst e2
      rw [el] at o1
      obtain ⟨A1, c1, e1, hP1, _, _, _⟩ := o1.form
      have el1 : (leftL l).length = k := by rw [leftL_len, HL.out]
      rw [el1] at e1 hP1
      subst e1
      have O1 := Lib.hid hP1
      have O2 := Lib.hid (o2.weak)
      have S3 := Lib.hid s3
      have ER := Lib.hid er
      have RR := Lib.hid (rightL_len l)
      have ROW := Lib.hid o2.row
      clear o1 o2 hP1 hP2 hP s1 s2 s3 er el el1 el2 h3 h4 h5 hr
      go_wp2_with fail
      refine (Reverse_any O2.out (by omega)).mono ?_
      rintro e wR ⟨rfl, hOR, hgR⟩
      rw [ER.out] at hOR
      have hbR : Below w.heap.size w wR := below_ownP hgR hbel (by omega) (fun g hg => ROW.out g (by rw [blkA_own]; exact hg))
      have hzR := hgR.size
      have OR := Lib.hid hOR
      have O1R := Lib.hid (O1.out.grown hgR (by have := S3.out; rwa [blkA_own, blkA_own] at this))
      clear hOR hgR
      go_wp2_with fail
      refine (clone_any c1 O1R.out (by omega)).mono ?_
      rintro e wC ⟨v1, rfl, hv1, hbC⟩
      have hzC := hbC.size
      have V1 := Lib.hid hv1
      clear hv1
      go_wp2_with fail
      refine (clone_any c2 (l := rightL l) ((OwnP.pts' OR.out).below hbC) (by omega)).mono ?_
      rintro e wD ⟨v2, rfl, hv2, hbD⟩
      have hzD := hbD.size
      have V2 := Lib.hid hv2
      clear hv2
      go_wp2
      go_ret2
      exact ⟨v1, v2, wC.heap.size, rfl, (V1.out.below hbD).lower (by omega), OwnP.lt' V1.out (by rw [leftL_len, HL.out]; omega), by omega, V2.out, by (repeat' (first | (with_reducible exact Below.refl _ _) | (with_reducible assumption) | (with_reducible refine Below.alloc ?_ ?_ _) | (with_reducible refine below_drewN ?_ _) | (with_reducible refine Below.drew ?_) | (with_reducible refine Below.setCell ?_ ?_ _) | (with_reducible refine below_call (by assumption) ?_ ?_) | (with_reducible refine below_grown (by assumption) ?_ ?_ ?_) | omega | (simp; done) | (simp; omega)))⟩

end Go.Proofs.Ytmojbcnldipdgaa
