/-
  TilesIn, of the program and of the reference.
-/
import Derived.Test.YtikpaebemiobpaaPlT
import Derived.Test.YtikpaebemiobpaaExI
namespace Go.Proofs.Ytikpaebemiobpaa
open Go.RowKit Pl

set_option linter.unusedSimpArgs false
set_option linter.unusedVariables false

set_option maxHeartbeats 2000000 in
theorem tilesIn_eq {l t r b W H : Int} (hs : sizedB W H = true) (w : World) :
    Calls Try.prog 23 #[.agg #[.int .i64 l, .int .i64 t, .int .i64 r, .int .i64 b], .int .i64 W, .int .i64 H] w (RetJ (tilesL ⟨l, t, r, b⟩ W H (tileN W H).toNat) w) := by
  obtain ⟨N, hN⟩ : ∃ N : Nat, tileN W H = (N : Int) := ⟨(tileN W H).toNat, by have := tileN_le hs; omega⟩
  have hN9 : N ≤ 9 := by have := tileN_le hs; omega
  have HN := Lib.hid hN
  have HS := Lib.hid hs
  have HC : Hid (tcount W H = N) := Lib.hid (by rw [tcount, if_pos hs, hN])
  rw [hN, Int.toNat_natCast]
  clear hN hs
  go_enter Try.func23, Try.ntmps23
  go_wp2_with fail
  refine (TileCount_eq HC.out _).mono ?_
  rintro e w0 ⟨rfl, hb0⟩
  have hz0 := hb0.size
  (try simp at hz0)
  have hd0 := blk_below (blk_new w (.cells #[.int .i64 l, .int .i64 t, .int .i64 r, .int .i64 b] 26)) hb0
  have HD0 := Lib.hid hd0
  have B0 : Hid (Below w.heap.size w w0) := Lib.hid (by (repeat' (first | (with_reducible exact Below.refl _ _) | (with_reducible assumption) | (with_reducible refine Below.alloc ?_ ?_ _) | (with_reducible refine below_drewN ?_ _) | (with_reducible refine Below.drew ?_) | (with_reducible refine Below.setCell ?_ ?_ _) | (with_reducible refine below_call (by assumption) ?_ ?_) | (with_reducible refine below_grown (by assumption) ?_ ?_ ?_) | omega | (simp; done) | (simp; omega))))
  have E0 : Hid (OwnI w.heap.size w0 (.slice none 0 0) []) := Lib.hid (OwnI.nil _ _)
  clear hd0 hb0
  go_wp2
  go_loopw [7, 14] (fun vo vk wr => ∃ m : Nat, m ≤ N ∧ vk = .int .i64 m ∧ OwnI w.heap.size wr vo (tilesL ⟨l, t, r, b⟩ W H m) ∧ wr.heap[w.heap.size]? = some (.cells #[.int .i64 l, .int .i64 t, .int .i64 r, .int .i64 b] 26 (0, 0)) ∧ (∀ g, vo.ownBlock = some g → g ≠ w.heap.size) ∧ Below w.heap.size w wr) (fun _ vk _ => N - (intOf vk).toNat)
  case atStart => exact ⟨0, by omega, rfl, E0.out, HD0.out, fun g hg => (by simp [Value.ownBlock] at hg), B0.out⟩
  case round =>
    obtain ⟨m, hm, rfl, hown, hd, hne, hbel⟩ := hrel
    obtain ⟨wo, rfl⟩ : ∃ wo : World, wo = wr := ⟨_, rfl⟩
    have hsz := hbel.size
    have hgl := blk_lt hd
    have HO := Lib.hid hown
    have HD := Lib.hid hd
    have HN2 := Lib.hid hne
    clear hown hd hne
    by_cases hlt : m < N
    · have eb : decide ((m : Int) < N) = true := decide_eq_true (by omega)
      have hl9 : (tilesL ⟨l, t, r, b⟩ W H m).length ≤ 900000 := by have := tilesL_len ⟨l, t, r, b⟩ W H m; omega
      have HK : Hid ((m : Int) < tileN W H) := Lib.hid (by rw [HN.out]; omega)
      have HOK : Hid (tileOk W H m = true) := Lib.hid (tileOk_true.2 ⟨HS.out, by omega, HK.out⟩)
      obtain ⟨⟨l', t', r', b'⟩, hx⟩ : ∃ x, tileB W H m = x := ⟨_, rfl⟩
      have HX : Hid (tileR W H m = ⟨l', t', r', b'⟩) := Lib.hid (by rw [tileR, if_pos HOK.out, hx])
      obtain ⟨u, hu⟩ : ∃ u, tIn ⟨l, t, r, b⟩ W H m = u := ⟨_, rfl⟩
      have HU := Lib.hid hu
      obtain ⟨⟨p, q, y, z⟩, hme⟩ : ∃ x, meet ⟨l', t', r', b'⟩ ⟨l, t, r, b⟩ = x := ⟨_, rfl⟩
      have HM := Lib.hid hme
      have HE : Hid (emptyB ⟨p, q, y, z⟩ = !u) := Lib.hid (by rw [← hme, meet_empty, ← hu, tIn, hx])
      clear hme
      clear hu hx
      ·
        go_wp2_with fail
        refine (TileBox_eq HOK.out HX.out _).mono ?_
        rintro e w1 ⟨rfl, hb1⟩
        have hz1 := hb1.size
        have hd1 := blk_below HD.out hb1
        have hcd1 := blk_cell hd1
        have hld1 := blk_lt hd1
        go_wp2_with fail
        refine (cut_eq HM.out _).mono ?_
        rintro e w2 ⟨rfl, hb2⟩
        have hz2 := hb2.size
        (try simp at hz2)
        have hd2 := blk_below (blk_alloc hd1 (.cells #[.int .i64 l', .int .i64 t', .int .i64 r', .int .i64 b'] 26)) hb2
        clear hcd1 hld1
        go_wp2_with fail
        refine (empty_eq HE.out _).mono ?_
        rintro e w3 ⟨rfl, hb3⟩
        have hz3 := hb3.size
        have hd3 := blk_below hd2 hb3
        have HD3 := Lib.hid hd3
        have B3 : Hid (Below w.heap.size w w3) := Lib.hid (by (repeat' (first | (with_reducible exact Below.refl _ _) | (with_reducible assumption) | (with_reducible refine Below.alloc ?_ ?_ _) | (with_reducible refine below_drewN ?_ _) | (with_reducible refine Below.drew ?_) | (with_reducible refine Below.setCell ?_ ?_ _) | (with_reducible refine below_call (by assumption) ?_ ?_) | (with_reducible refine below_grown (by assumption) ?_ ?_ ?_) | omega | (simp; done) | (simp; omega))))
        have O3 := Lib.hid (HO.out.below (show Below wo.heap.size wo w3 by (repeat' (first | (with_reducible exact Below.refl _ _) | (with_reducible assumption) | (with_reducible refine Below.alloc ?_ ?_ _) | (with_reducible refine below_drewN ?_ _) | (with_reducible refine Below.drew ?_) | (with_reducible refine Below.setCell ?_ ?_ _) | (with_reducible refine below_call (by assumption) ?_ ?_) | (with_reducible refine below_grown (by assumption) ?_ ?_ ?_) | omega | (simp; done) | (simp; omega)))))
        clear hd1 hd2 hd3
        cases u with
        | true =>
          have HS2 := Lib.hid (tilesL_yes HU.out)
          go_wp2_with (at_builtin
                       refine append_i rfl (.tmp 29) (.tmp 31) rfl w.heap.size _ _ rfl (O3.out.alloc _) w3.heap.size 1 m _ rfl (blk_new w3 _) hl9 (by simp; omega) ?_
                       intro v3 w4 hown3 hg3 ha3)
          go_roundw
          case rel => exact ⟨m + 1, by omega, by go_num, by rw [HS2.out]; exact hown3, (hg3.block w.heap.size (by simp; omega) (fun e => HN2.out _ e.symm rfl)).trans (blk_alloc HD3.out _), fun g hg => (by rcases ha3 with e | e <;> rw [e] at hg; exact HN2.out g hg; simp at hg; omega), below_own hg3 (by (repeat' (first | (with_reducible exact Below.refl _ _) | (with_reducible assumption) | (with_reducible refine Below.alloc ?_ ?_ _) | (with_reducible refine below_drewN ?_ _) | (with_reducible refine Below.drew ?_) | (with_reducible refine Below.setCell ?_ ?_ _) | (with_reducible refine below_call (by assumption) ?_ ?_) | (with_reducible refine below_grown (by assumption) ?_ ?_ ?_) | omega | (simp; done) | (simp; omega)))) (by simp; omega) (fun g hg => (O3.out.row g hg).1)⟩
          case measure => simp [intOf]; omega
        | false =>
          have HS2 := Lib.hid (tilesL_no HU.out)
          go_wp2
          go_roundw
          case rel => exact ⟨m + 1, by omega, by go_num, by rw [HS2.out]; exact O3.out, HD3.out, HN2.out, B3.out⟩
          case measure => simp [intOf]; omega

    · obtain rfl : m = N := by omega
      have eb : decide ((m : Int) < m) = false := by simp
      ·
        obtain ⟨A2, c2, e2, k1, k2, _⟩ := HO.out.weak.form
        subst e2
        have HC2 := Lib.hid HO.out.weak.clip
        clear k1 k2
        go_wp2_with ((go_at_call 37; (with_reducible refine (ClipI_eq HC2.out.2.2.1 HC2.out.2.2.2 _).mono ?_); rintro e w1 ⟨rfl, rfl⟩))
        go_ret
        exact ⟨_, rfl, HC2.out.2.1, by (repeat' (first | (with_reducible exact Below.refl _ _) | (with_reducible assumption) | (with_reducible refine Below.alloc ?_ ?_ _) | (with_reducible refine below_drewN ?_ _) | (with_reducible refine Below.drew ?_) | (with_reducible refine Below.setCell ?_ ?_ _) | (with_reducible refine below_call (by assumption) ?_ ?_) | (with_reducible refine below_grown (by assumption) ?_ ?_ ?_) | omega | (simp; done) | (simp; omega)))⟩

set_option maxHeartbeats 2000000 in
theorem boxTiles_eq {l t r b W H : Int} (hs : sizedB W H = true) (w : World) :
    Calls Try.prog 20 #[.agg #[.int .i64 l, .int .i64 t, .int .i64 r, .int .i64 b], .int .i64 W, .int .i64 H] w (RetJ (tilesL ⟨l, t, r, b⟩ W H (tileN W H).toNat) w) := by
  obtain ⟨N, hN⟩ : ∃ N : Nat, tileN W H = (N : Int) := ⟨(tileN W H).toNat, by have := tileN_le hs; omega⟩
  have hN9 : N ≤ 9 := by have := tileN_le hs; omega
  have HN := Lib.hid hN
  have HS := Lib.hid hs
  have HC : Hid (tcount W H = N) := Lib.hid (by rw [tcount, if_pos hs, hN])
  rw [hN, Int.toNat_natCast]
  clear hN hs
  go_enter Try.func20, Try.ntmps20
  go_wp2
  go_loopw [7, 8] (fun vo vk wr => ∃ m : Nat, m ≤ N ∧ vk = .int .i64 m ∧ OwnI w.heap.size wr vo (tilesL ⟨l, t, r, b⟩ W H m) ∧ wr.heap[w.heap.size]? = some (.cells #[.int .i64 l, .int .i64 t, .int .i64 r, .int .i64 b] 26 (0, 0)) ∧ (∀ g, vo.ownBlock = some g → g ≠ w.heap.size) ∧ Below w.heap.size w wr) (fun _ vk _ => N - (intOf vk).toNat)
  case atStart => exact ⟨0, by omega, rfl, OwnI.empty rfl (by omega) (blk_new1 w _ _), blk_alloc (blk_new w _) _, fun g hg => (by simp [Value.ownBlock] at hg; omega), by (repeat' (first | (with_reducible exact Below.refl _ _) | (with_reducible assumption) | (with_reducible refine Below.alloc ?_ ?_ _) | (with_reducible refine below_drewN ?_ _) | (with_reducible refine Below.drew ?_) | (with_reducible refine Below.setCell ?_ ?_ _) | (with_reducible refine below_call (by assumption) ?_ ?_) | (with_reducible refine below_grown (by assumption) ?_ ?_ ?_) | omega | (simp; done) | (simp; omega)))⟩
  case round =>
    obtain ⟨m, hm, rfl, hown, hd, hne, hbel⟩ := hrel
    obtain ⟨wo, rfl⟩ : ∃ wo : World, wo = wr := ⟨_, rfl⟩
    have hsz := hbel.size
    have hgl := blk_lt hd
    have HO := Lib.hid hown
    have HD := Lib.hid hd
    have HN2 := Lib.hid hne
    clear hown hd hne
    by_cases hlt : m < N
    · have eb : decide ((m : Int) < N) = true := decide_eq_true (by omega)
      have hl9 : (tilesL ⟨l, t, r, b⟩ W H m).length ≤ 900000 := by have := tilesL_len ⟨l, t, r, b⟩ W H m; omega
      have HK : Hid ((m : Int) < tileN W H) := Lib.hid (by rw [HN.out]; omega)
      have HOK : Hid (tileOk W H m = true) := Lib.hid (tileOk_true.2 ⟨HS.out, by omega, HK.out⟩)
      obtain ⟨⟨l', t', r', b'⟩, hx⟩ : ∃ x, tileB W H m = x := ⟨_, rfl⟩
      have HX := Lib.hid hx
      obtain ⟨u, hu⟩ : ∃ u, tIn ⟨l, t, r, b⟩ W H m = u := ⟨_, rfl⟩
      have HU := Lib.hid hu
      skip
      clear hu hx
      ·
        go_wp2_with fail
        refine (tiles_eq HS.out HN.out _).mono ?_
        rintro e wt ⟨rfl, hbt⟩
        have hzt := hbt.size
        have hdt := blk_below HD.out hbt
        have HDt := Lib.hid hdt
        have hbelt : Hid (Below w.heap.size w wt) := Lib.hid (by (repeat' (first | (with_reducible exact Below.refl _ _) | (with_reducible assumption) | (with_reducible refine Below.alloc ?_ ?_ _) | (with_reducible refine below_drewN ?_ _) | (with_reducible refine Below.drew ?_) | (with_reducible refine Below.setCell ?_ ?_ _) | (with_reducible refine below_call (by assumption) ?_ ?_) | (with_reducible refine below_grown (by assumption) ?_ ?_ ?_) | omega | (simp; done) | (simp; omega))))
        clear hdt
        go_wp2_with fail
        refine (tileBox_eq HS.out (by omega) HK.out HX.out _).mono ?_
        rintro e w1 ⟨rfl, hb1⟩
        have hz1 := hb1.size
        have hd1 := blk_below HDt.out hb1
        have hcd1 := blk_cell hd1
        have hld1 := blk_lt hd1
        have HD1 := Lib.hid hd1
        have B1 : Hid (Below w.heap.size w w1) := Lib.hid (by (repeat' (first | (with_reducible exact Below.refl _ _) | (with_reducible assumption) | (with_reducible refine Below.alloc ?_ ?_ _) | (with_reducible refine below_drewN ?_ _) | (with_reducible refine Below.drew ?_) | (with_reducible refine Below.setCell ?_ ?_ _) | (with_reducible refine below_call (by assumption) ?_ ?_) | (with_reducible refine below_grown (by assumption) ?_ ?_ ?_) | omega | (simp; done) | (simp; omega))))
        have O1 := Lib.hid (HO.out.below (show Below wo.heap.size wo w1 by (repeat' (first | (with_reducible exact Below.refl _ _) | (with_reducible assumption) | (with_reducible refine Below.alloc ?_ ?_ _) | (with_reducible refine below_drewN ?_ _) | (with_reducible refine Below.drew ?_) | (with_reducible refine Below.setCell ?_ ?_ _) | (with_reducible refine below_call (by assumption) ?_ ?_) | (with_reducible refine below_grown (by assumption) ?_ ?_ ?_) | omega | (simp; done) | (simp; omega)))))
        obtain ⟨c1, hc1⟩ : ∃ c, decide (max l l' < min r r') = c := ⟨_, rfl⟩
        obtain ⟨c2, hc2⟩ : ∃ c, decide (max t t' < min b b') = c := ⟨_, rfl⟩
        have hu2 : u = (c1 && c2) := by rw [← HU.out, tIn, HX.out, touch, Bool.decide_and, ← hc1, ← hc2]
        have HU2 := Lib.hid hu2
        clear hd1 hu2
        cases c1 <;> cases c2
        case true.true =>
          have HS2 := Lib.hid (tilesL_yes (HU.out.trans HU2.out))
          go_wp2_with (at_builtin
                       refine append_i rfl (.tmp 46) (.tmp 48) rfl w.heap.size _ _ rfl ((O1.out.alloc _).alloc _) (w1.heap.size + 1) 1 m _ rfl (blk_new1 w1 _ _) hl9 (by simp; omega) ?_
                       intro v3 w4 hown3 hg3 ha3)
          go_roundw
          case rel => exact ⟨m + 1, by omega, by go_num, by rw [HS2.out]; exact hown3, (hg3.block w.heap.size (by simp; omega) (fun e => HN2.out _ e.symm rfl)).trans (blk_alloc (blk_alloc HD1.out _) _), fun g hg => (by rcases ha3 with e | e <;> rw [e] at hg; exact HN2.out g hg; simp at hg; omega), below_own hg3 (by (repeat' (first | (with_reducible exact Below.refl _ _) | (with_reducible assumption) | (with_reducible refine Below.alloc ?_ ?_ _) | (with_reducible refine below_drewN ?_ _) | (with_reducible refine Below.drew ?_) | (with_reducible refine Below.setCell ?_ ?_ _) | (with_reducible refine below_call (by assumption) ?_ ?_) | (with_reducible refine below_grown (by assumption) ?_ ?_ ?_) | omega | (simp; done) | (simp; omega)))) (by simp; omega) (fun g hg => (O1.out.row g hg).1)⟩
          case measure => simp [intOf]; omega
        all_goals
          have HS2 := Lib.hid (tilesL_no (HU.out.trans HU2.out))
          go_wp2
          go_roundw
          case rel => exact ⟨m + 1, by omega, by go_num, by rw [HS2.out]; exact O1.out.alloc _, blk_alloc HD1.out _, HN2.out, by (repeat' (first | (with_reducible exact Below.refl _ _) | (with_reducible assumption) | (with_reducible refine Below.alloc ?_ ?_ _) | (with_reducible refine below_drewN ?_ _) | (with_reducible refine Below.drew ?_) | (with_reducible refine Below.setCell ?_ ?_ _) | (with_reducible refine below_call (by assumption) ?_ ?_) | (with_reducible refine below_grown (by assumption) ?_ ?_ ?_) | omega | (simp; done) | (simp; omega)))⟩
          case measure => simp [intOf]; omega

    · obtain rfl : m = N := by omega
      have eb : decide ((m : Int) < m) = false := by simp
      ·
        go_wp2_with fail
        refine (tiles_eq HS.out HN.out _).mono ?_
        rintro e wt ⟨rfl, hbt⟩
        have hzt := hbt.size
        go_wp2
        go_ret
        exact ⟨_, rfl, OwnI.weak (HO.out.below (by (repeat' (first | (with_reducible exact Below.refl _ _) | (with_reducible assumption) | (with_reducible refine Below.alloc ?_ ?_ _) | (with_reducible refine below_drewN ?_ _) | (with_reducible refine Below.drew ?_) | (with_reducible refine Below.setCell ?_ ?_ _) | (with_reducible refine below_call (by assumption) ?_ ?_) | (with_reducible refine below_grown (by assumption) ?_ ?_ ?_) | omega | (simp; done) | (simp; omega))))), by (repeat' (first | (with_reducible exact Below.refl _ _) | (with_reducible assumption) | (with_reducible refine Below.alloc ?_ ?_ _) | (with_reducible refine below_drewN ?_ _) | (with_reducible refine Below.drew ?_) | (with_reducible refine Below.setCell ?_ ?_ _) | (with_reducible refine below_call (by assumption) ?_ ?_) | (with_reducible refine below_grown (by assumption) ?_ ?_ ?_) | omega | (simp; done) | (simp; omega)))⟩

set_option maxHeartbeats 1000000 in
theorem TilesIn_eq {l t r b W H : Int} {T : List Int} (hT : tilesR ⟨l, t, r, b⟩ W H = T) (w : World) :
    Calls Try.prog 8 #[.agg #[.int .i64 l, .int .i64 t, .int .i64 r, .int .i64 b], .int .i64 W, .int .i64 H] w (RetJ T w) := by
  subst hT
  obtain ⟨v, hv⟩ : ∃ v, validB ⟨l, t, r, b⟩ = v := ⟨_, rfl⟩
  have HV := Lib.hid hv
  obtain ⟨s, hs⟩ : ∃ s, sizedB W H = s := ⟨_, rfl⟩
  have HS := Lib.hid hs
  clear hv hs
  go_enter Try.func8, Try.ntmps8
  go_wp2_with fail
  refine (valid_eq HV.out _).mono ?_
  rintro e w1 ⟨rfl, hb1⟩
  have hz1 := hb1.size
  (try simp at hz1)
  have hd1 := blk_below (blk_new w (.cells #[.int .i64 l, .int .i64 t, .int .i64 r, .int .i64 b] 26)) hb1
  cases v with
  | false =>
    go_wp2
    go_ret
    exact ⟨_, rfl, by rw [tilesR_out1 HV.out]; exact OwnJ.nil _ _, by (repeat' (first | (with_reducible exact Below.refl _ _) | (with_reducible assumption) | (with_reducible refine Below.alloc ?_ ?_ _) | (with_reducible refine below_drewN ?_ _) | (with_reducible refine Below.drew ?_) | (with_reducible refine Below.setCell ?_ ?_ _) | (with_reducible refine below_call (by assumption) ?_ ?_) | (with_reducible refine below_grown (by assumption) ?_ ?_ ?_) | omega | (simp; done) | (simp; omega)))⟩
  | true =>
    go_wp2_with fail
    refine (sized_eq HS.out _).mono ?_
    rintro e w2 ⟨rfl, hb2⟩
    have hz2 := hb2.size
    have hd2 := blk_below hd1 hb2
    have hcd2 := blk_cell hd2
    have hld2 := blk_lt hd2
    cases s with
    | false =>
      go_wp2
      go_ret
      exact ⟨_, rfl, by rw [tilesR_out2 HS.out]; exact OwnJ.nil _ _, by (repeat' (first | (with_reducible exact Below.refl _ _) | (with_reducible assumption) | (with_reducible refine Below.alloc ?_ ?_ _) | (with_reducible refine below_drewN ?_ _) | (with_reducible refine Below.drew ?_) | (with_reducible refine Below.setCell ?_ ?_ _) | (with_reducible refine below_call (by assumption) ?_ ?_) | (with_reducible refine below_grown (by assumption) ?_ ?_ ?_) | omega | (simp; done) | (simp; omega)))⟩
    | true =>
      go_wp2_with fail
      refine (tilesIn_eq HS.out _).mono ?_
      rintro e w3 ⟨v3, rfl, ho, hb3⟩
      have HO := Lib.hid ho
      clear ho
      go_wp2
      go_ret
      exact ⟨_, rfl, by rw [tilesR_in HV.out HS.out]; exact HO.out.lower (by omega), by (repeat' (first | (with_reducible exact Below.refl _ _) | (with_reducible assumption) | (with_reducible refine Below.alloc ?_ ?_ _) | (with_reducible refine below_drewN ?_ _) | (with_reducible refine Below.drew ?_) | (with_reducible refine Below.setCell ?_ ?_ _) | (with_reducible refine below_call (by assumption) ?_ ?_) | (with_reducible refine below_grown (by assumption) ?_ ?_ ?_) | omega | (simp; done) | (simp; omega)))⟩

set_option maxHeartbeats 1000000 in
theorem sTilesIn_eq {l t r b W H : Int} {T : List Int} (hT : tilesR ⟨l, t, r, b⟩ W H = T) (w : World) :
    Calls Try.prog 6 #[.agg #[.int .i64 l, .int .i64 t, .int .i64 r, .int .i64 b], .int .i64 W, .int .i64 H] w (RetJ T w) := by
  subst hT
  obtain ⟨v, hv⟩ : ∃ v, validB ⟨l, t, r, b⟩ = v := ⟨_, rfl⟩
  have HV := Lib.hid hv
  obtain ⟨s, hs⟩ : ∃ s, sizedB W H = s := ⟨_, rfl⟩
  have HS := Lib.hid hs
  clear hv hs
  go_enter Try.func6, Try.ntmps6
  go_wp2_with fail
  refine (validBox_eq HV.out _).mono ?_
  rintro e w1 ⟨rfl, hb1⟩
  have hz1 := hb1.size
  (try simp at hz1)
  have hd1 := blk_below (blk_new w (.cells #[.int .i64 l, .int .i64 t, .int .i64 r, .int .i64 b] 26)) hb1
  cases v with
  | false =>
    go_wp2
    go_ret
    exact ⟨_, rfl, by rw [tilesR_out1 HV.out]; exact OwnJ.nil _ _, by (repeat' (first | (with_reducible exact Below.refl _ _) | (with_reducible assumption) | (with_reducible refine Below.alloc ?_ ?_ _) | (with_reducible refine below_drewN ?_ _) | (with_reducible refine Below.drew ?_) | (with_reducible refine Below.setCell ?_ ?_ _) | (with_reducible refine below_call (by assumption) ?_ ?_) | (with_reducible refine below_grown (by assumption) ?_ ?_ ?_) | omega | (simp; done) | (simp; omega)))⟩
  | true =>
    go_wp2_with fail
    refine (validSize_eq HS.out _).mono ?_
    rintro e w2 ⟨rfl, hb2⟩
    have hz2 := hb2.size
    have hd2 := blk_below hd1 hb2
    have hcd2 := blk_cell hd2
    have hld2 := blk_lt hd2
    cases s with
    | false =>
      go_wp2
      go_ret
      exact ⟨_, rfl, by rw [tilesR_out2 HS.out]; exact OwnJ.nil _ _, by (repeat' (first | (with_reducible exact Below.refl _ _) | (with_reducible assumption) | (with_reducible refine Below.alloc ?_ ?_ _) | (with_reducible refine below_drewN ?_ _) | (with_reducible refine Below.drew ?_) | (with_reducible refine Below.setCell ?_ ?_ _) | (with_reducible refine below_call (by assumption) ?_ ?_) | (with_reducible refine below_grown (by assumption) ?_ ?_ ?_) | omega | (simp; done) | (simp; omega)))⟩
    | true =>
      go_wp2_with fail
      refine (boxTiles_eq HS.out _).mono ?_
      rintro e w3 ⟨v3, rfl, ho, hb3⟩
      have HO := Lib.hid ho
      clear ho
      go_wp2
      go_ret
      exact ⟨_, rfl, by rw [tilesR_in HV.out HS.out]; exact HO.out.lower (by omega), by (repeat' (first | (with_reducible exact Below.refl _ _) | (with_reducible assumption) | (with_reducible refine Below.alloc ?_ ?_ _) | (with_reducible refine below_drewN ?_ _) | (with_reducible refine Below.drew ?_) | (with_reducible refine Below.setCell ?_ ?_ _) | (with_reducible refine below_call (by assumption) ?_ ?_) | (with_reducible refine below_grown (by assumption) ?_ ?_ ?_) | omega | (simp; done) | (simp; omega)))⟩

end Go.Proofs.Ytikpaebemiobpaa
