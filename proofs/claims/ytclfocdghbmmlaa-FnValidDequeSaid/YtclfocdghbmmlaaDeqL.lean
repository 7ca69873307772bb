/-
  Queues: their tiles; new queues; queues compared.
-/
import Derived.Test.YtclfocdghbmmlaaDeqP
namespace Go.Proofs.Ytclfocdghbmmlaa
open Go.RowKit Pl

set_option linter.unusedSimpArgs false
set_option linter.unusedVariables false

set_option maxHeartbeats 2000000 in
theorem DequeTiles_eq {A : Option Addr} {n : Nat} {l m : List Int} {t b : Int} {w : World} (c : Nat) (h : IsI w A n l) (hn : n ≤ 1000000000000) (hm : tilesD ⟨l, t, b⟩ = m) :
    Calls Try.prog 21 #[.agg #[.slice A n c, .int .i64 t, .int .i64 b]] w (RetJ m w) := by
  subst hm
  have HP := Lib.hid h
  have HL := Lib.hid h.len
  clear h
  obtain ⟨v, hv⟩ : ∃ v, validD ⟨l, t, b⟩ = v := ⟨_, rfl⟩
  have HV := Lib.hid hv
  cases v with
  | false =>
    have HT : Hid (tilesD ⟨l, t, b⟩ = []) := Lib.hid (by rw [tilesD, hv]; rfl)
    clear hv
    go_enter Try.func21, Try.ntmps21
    go_wp2_with ((go_at_call 28; (with_reducible refine (ValidDeque_eq c (HP.out.below (by (repeat' (first | (with_reducible exact Below.refl _ _) | (with_reducible assumption) | (with_reducible refine Below.alloc ?_ ?_ _) | (with_reducible refine below_drewN ?_ _) | (with_reducible refine Below.drew ?_) | (with_reducible refine Below.setCell ?_ ?_ _) | (with_reducible refine below_call (by assumption) ?_ ?_) | (with_reducible refine below_grown (by assumption) ?_ ?_ ?_) | omega | (simp; done) | (simp; omega))))) hn (Hid.out (by with_reducible assumption))).mono ?_); rintro e w1 ⟨rfl, hb⟩; have hz := hb.size; (try simp at hz); (try (have hk := bcl hb (w.heap.size) (by first | omega | (simp; done) | (simp; omega)); have hc := hk.1; have hf := hk.2.1; have hk := hk.2.2))))
    go_ret
    rw [HT.out]
    exact ⟨_, rfl, OwnJ.nil _ _, by (repeat' (first | (with_reducible exact Below.refl _ _) | (with_reducible assumption) | (with_reducible refine Below.alloc ?_ ?_ _) | (with_reducible refine below_drewN ?_ _) | (with_reducible refine Below.drew ?_) | (with_reducible refine Below.setCell ?_ ?_ _) | (with_reducible refine below_call (by assumption) ?_ ?_) | (with_reducible refine below_grown (by assumption) ?_ ?_ ?_) | omega | (simp; done) | (simp; omega)))⟩
  | true =>
    obtain ⟨q1, q2, _⟩ := validD_iff.1 hv
    simp only at q1 q2
    obtain rfl : n = 16 := by rw [← HL.out]; exact q1
    obtain ⟨T, rfl⟩ := Int.eq_ofNat_of_zero_le (show 0 ≤ t by omega)
    obtain ⟨B, rfl⟩ := Int.eq_ofNat_of_zero_le (show 0 ≤ b by omega)
    obtain ⟨htb, hb5, hb16⟩ : T ≤ B ∧ B ≤ 500 ∧ B ≤ T + 16 := by omega
    have HT : Hid (tilesD ⟨l, T, B⟩ = seqD l T (B - T)) := Lib.hid (by rw [tilesD, if_pos hv]; simp only; rw [show ((B : Int) - T).toNat = B - T by omega])
    clear hv q1 q2
    go_enter Try.func21, Try.ntmps21
    go_wp2_with ((go_at_call 28; (with_reducible refine (ValidDeque_eq c (HP.out.below (by (repeat' (first | (with_reducible exact Below.refl _ _) | (with_reducible assumption) | (with_reducible refine Below.alloc ?_ ?_ _) | (with_reducible refine below_drewN ?_ _) | (with_reducible refine Below.drew ?_) | (with_reducible refine Below.setCell ?_ ?_ _) | (with_reducible refine below_call (by assumption) ?_ ?_) | (with_reducible refine below_grown (by assumption) ?_ ?_ ?_) | omega | (simp; done) | (simp; omega))))) hn (Hid.out (by with_reducible assumption))).mono ?_); rintro e wv ⟨rfl, hb⟩; have hz := hb.size; (try simp at hz); (try (have hk := bcl hb (w.heap.size) (by first | omega | (simp; done) | (simp; omega)); have hc := hk.1; have hf := hk.2.1; have hk := hk.2.2))))
    have hd0 : wv.heap[w.heap.size]? = some (.cells #[.slice A 16 c, .int .i64 T, .int .i64 B] 24 (0, 0)) := blk_below (by (repeat' (first | (with_reducible assumption) | (with_reducible exact blk_new _ _) | (with_reducible exact blk_new1 _ _ _) | (with_reducible exact blk_new2 _ _ _ _) | (with_reducible refine blk_alloc ?_ _) | (with_reducible refine blk_drewN ?_ _) | (with_reducible refine blk_down (by assumption) ?_) | (with_reducible refine blk_up (by assumption) (by omega) ?_) | (with_reducible refine blk_far ?_ _ (by simp; omega))))) hb
    have HD0 := Lib.hid hd0
    have B0 : Hid (Below w.heap.size w wv) := Lib.hid (by (repeat' (first | (with_reducible exact Below.refl _ _) | (with_reducible assumption) | (with_reducible refine Below.alloc ?_ ?_ _) | (with_reducible refine below_drewN ?_ _) | (with_reducible refine Below.drew ?_) | (with_reducible refine Below.setCell ?_ ?_ _) | (with_reducible refine below_call (by assumption) ?_ ?_) | (with_reducible refine below_grown (by assumption) ?_ ?_ ?_) | omega | (simp; done) | (simp; omega))))
    have E0 : Hid (OwnI w.heap.size wv (.slice none 0 0) []) := Lib.hid (OwnI.nil _ _)
    clear hd0
    go_loopw [3, 4] (fun vo vm wr => ∃ m : Nat, T ≤ m ∧ m ≤ B ∧ vm = .int .i64 m ∧ OwnI w.heap.size wr vo (seqD l T (m - T)) ∧ wr.heap[w.heap.size]? = some (.cells #[.slice A 16 c, .int .i64 T, .int .i64 B] 24 (0, 0)) ∧ (∀ g, vo.ownBlock = some g → g ≠ w.heap.size) ∧ Below w.heap.size w wr) (fun _ vm _ => B - (intOf vm).toNat)
    case atStart => exact ⟨T, by omega, htb, rfl, by rw [Nat.sub_self]; exact E0.out, HD0.out, fun g hg => (by simp [Value.ownBlock] at hg; try omega), B0.out⟩
    case round =>
      obtain ⟨m, hm0, hm1, rfl, hown, hd, hne, hbel⟩ := hrel
      have hsz := hbel.size
      have hcd := blk_cell hd
      have hld := blk_lt hd
      have HD := Lib.hid hd
      have HO := Lib.hid hown
      have HN := Lib.hid hne
      clear hd hown E0 HD0 hne hb
      by_cases hlt : m < B
      · obtain ⟨i1, hi1, hi16⟩ : ∃ i1 : Nat, (m : Int).tmod 16 = (i1 : Int) ∧ i1 < 16 := ⟨m % 16, by rw [Int.tmod_eq_emod_of_nonneg (by omega)]; simp, Nat.mod_lt _ (by omega)⟩
        have hpi : ((m : Int) % 16).toNat = i1 := by rw [← Int.tmod_eq_emod_of_nonneg (by omega), hi1]; omega
        have eb : decide ((m : Int) < B) = true := by simp; omega
        have hii : (i1 : Int) < 16 := by omega
        obtain ⟨b0, o0, rfl, hbl0, x0⟩ := (HP.out.below hbel).at_ hi16
        obtain ⟨y, hy⟩ : ∃ y, nt l i1 = y := ⟨_, rfl⟩
        rw [hy] at x0
        have HS : Hid (seqD l T (m - T) ++ [y] = seqD l T (m + 1 - T)) := Lib.hid (by rw [show m + 1 - T = m - T + 1 by omega, seqD_succ, show (T : Int) + ((m - T : Nat) : Int) = m by omega, at16, hpi, ← hy]; rfl)
        have hl16 : (seqD l T (m - T)).length ≤ 900000 := by rw [seqD_len]; omega
        clear hpi hy
        go_wp2_with (at_builtin
                     refine append_i rfl (.tmp 16) (.tmp 23) rfl w.heap.size _ _ rfl (HO.out.alloc _) wr.heap.size 1 y _ rfl (blk_new wr _) hl16 (by simp; omega) ?_
                     intro v3 w3 hown3 hg3 ha3)
        go_roundw
        case rel => exact ⟨m + 1, by omega, by omega, by go_num, by rw [← HS.out]; exact hown3, (hg3.block w.heap.size (by simp; omega) (fun e => HN.out _ e.symm rfl)).trans (blk_alloc HD.out _), fun g hg => (by rcases ha3 with e | e <;> rw [e] at hg; exact HN.out g hg; simp at hg; omega), below_own hg3 (by (repeat' (first | (with_reducible exact Below.refl _ _) | (with_reducible assumption) | (with_reducible refine Below.alloc ?_ ?_ _) | (with_reducible refine below_drewN ?_ _) | (with_reducible refine Below.drew ?_) | (with_reducible refine Below.setCell ?_ ?_ _) | (with_reducible refine below_call (by assumption) ?_ ?_) | (with_reducible refine below_grown (by assumption) ?_ ?_ ?_) | omega | (simp; done) | (simp; omega)))) (by simp; omega) (fun g hg => (HO.out.row g hg).1)⟩
        case measure => simp [intOf]; omega
      · obtain rfl : m = B := by omega
        have eb : decide ((m : Int) < m) = false := by simp
        obtain ⟨A2, c2, e2, k1, k2, _⟩ := HO.out.weak.form
        subst e2
        have HC := Lib.hid HO.out.weak.clip
        clear k1 k2
        go_wp2_with ((go_at_call 48; (with_reducible refine (ClipI_eq HC.out.2.2.1 HC.out.2.2.2 _).mono ?_); rintro e w1 ⟨rfl, rfl⟩))
        go_ret
        exact ⟨_, rfl, by have := HC.out.2.1; rw [HT.out]; exact this, by (repeat' (first | (with_reducible exact Below.refl _ _) | (with_reducible assumption) | (with_reducible refine Below.alloc ?_ ?_ _) | (with_reducible refine below_drewN ?_ _) | (with_reducible refine Below.drew ?_) | (with_reducible refine Below.setCell ?_ ?_ _) | (with_reducible refine below_call (by assumption) ?_ ?_) | (with_reducible refine below_grown (by assumption) ?_ ?_ ?_) | omega | (simp; done) | (simp; omega)))⟩

set_option maxHeartbeats 2000000 in
theorem sDequeTiles_eq {A : Option Addr} {n : Nat} {l m : List Int} {t b : Int} {w : World} (c : Nat) (h : IsI w A n l) (hn : n ≤ 1000000000000) (hm : tilesD ⟨l, t, b⟩ = m) :
    Calls Try.prog 23 #[.agg #[.slice A n c, .int .i64 t, .int .i64 b]] w (RetJ m w) := by
  subst hm
  have HP := Lib.hid h
  have HL := Lib.hid h.len
  clear h
  obtain ⟨v, hv⟩ : ∃ v, validD ⟨l, t, b⟩ = v := ⟨_, rfl⟩
  have HV := Lib.hid hv
  cases v with
  | false =>
    have HT : Hid (tilesD ⟨l, t, b⟩ = []) := Lib.hid (by rw [tilesD, hv]; rfl)
    clear hv
    go_enter Try.func23, Try.ntmps23
    go_wp2_with ((go_at_call 49; (with_reducible refine (validDeque_eq c (HP.out.below (by (repeat' (first | (with_reducible exact Below.refl _ _) | (with_reducible assumption) | (with_reducible refine Below.alloc ?_ ?_ _) | (with_reducible refine below_drewN ?_ _) | (with_reducible refine Below.drew ?_) | (with_reducible refine Below.setCell ?_ ?_ _) | (with_reducible refine below_call (by assumption) ?_ ?_) | (with_reducible refine below_grown (by assumption) ?_ ?_ ?_) | omega | (simp; done) | (simp; omega))))) hn (Hid.out (by with_reducible assumption))).mono ?_); rintro e w1 ⟨rfl, hb⟩; have hz := hb.size; (try simp at hz); (try (have hk := bcl hb (w.heap.size) (by first | omega | (simp; done) | (simp; omega)); have hc := hk.1; have hf := hk.2.1; have hk := hk.2.2))))
    go_ret
    rw [HT.out]
    exact ⟨_, rfl, OwnJ.nil _ _, by (repeat' (first | (with_reducible exact Below.refl _ _) | (with_reducible assumption) | (with_reducible refine Below.alloc ?_ ?_ _) | (with_reducible refine below_drewN ?_ _) | (with_reducible refine Below.drew ?_) | (with_reducible refine Below.setCell ?_ ?_ _) | (with_reducible refine below_call (by assumption) ?_ ?_) | (with_reducible refine below_grown (by assumption) ?_ ?_ ?_) | omega | (simp; done) | (simp; omega)))⟩
  | true =>
    obtain ⟨q1, q2, _⟩ := validD_iff.1 hv
    simp only at q1 q2
    obtain rfl : n = 16 := by rw [← HL.out]; exact q1
    obtain ⟨T, rfl⟩ := Int.eq_ofNat_of_zero_le (show 0 ≤ t by omega)
    obtain ⟨B, rfl⟩ := Int.eq_ofNat_of_zero_le (show 0 ≤ b by omega)
    obtain ⟨htb, hb5, hb16⟩ : T ≤ B ∧ B ≤ 500 ∧ B ≤ T + 16 := by omega
    have HT : Hid (tilesD ⟨l, T, B⟩ = seqD l T (B - T)) := Lib.hid (by rw [tilesD, if_pos hv]; simp only; rw [show ((B : Int) - T).toNat = B - T by omega])
    clear hv q1 q2
    go_enter Try.func23, Try.ntmps23
    go_wp2_with ((go_at_call 49; (with_reducible refine (validDeque_eq c (HP.out.below (by (repeat' (first | (with_reducible exact Below.refl _ _) | (with_reducible assumption) | (with_reducible refine Below.alloc ?_ ?_ _) | (with_reducible refine below_drewN ?_ _) | (with_reducible refine Below.drew ?_) | (with_reducible refine Below.setCell ?_ ?_ _) | (with_reducible refine below_call (by assumption) ?_ ?_) | (with_reducible refine below_grown (by assumption) ?_ ?_ ?_) | omega | (simp; done) | (simp; omega))))) hn (Hid.out (by with_reducible assumption))).mono ?_); rintro e wv ⟨rfl, hb⟩; have hz := hb.size; (try simp at hz); (try (have hk := bcl hb (w.heap.size) (by first | omega | (simp; done) | (simp; omega)); have hc := hk.1; have hf := hk.2.1; have hk := hk.2.2))))
    have hd0 : wv.heap[w.heap.size]? = some (.cells #[.slice A 16 c, .int .i64 T, .int .i64 B] 24 (0, 0)) := blk_below (by (repeat' (first | (with_reducible assumption) | (with_reducible exact blk_new _ _) | (with_reducible exact blk_new1 _ _ _) | (with_reducible exact blk_new2 _ _ _ _) | (with_reducible refine blk_alloc ?_ _) | (with_reducible refine blk_drewN ?_ _) | (with_reducible refine blk_down (by assumption) ?_) | (with_reducible refine blk_up (by assumption) (by omega) ?_) | (with_reducible refine blk_far ?_ _ (by simp; omega))))) hb
    have HD0 := Lib.hid hd0
    have B0 : Hid (Below w.heap.size w wv) := Lib.hid (by (repeat' (first | (with_reducible exact Below.refl _ _) | (with_reducible assumption) | (with_reducible refine Below.alloc ?_ ?_ _) | (with_reducible refine below_drewN ?_ _) | (with_reducible refine Below.drew ?_) | (with_reducible refine Below.setCell ?_ ?_ _) | (with_reducible refine below_call (by assumption) ?_ ?_) | (with_reducible refine below_grown (by assumption) ?_ ?_ ?_) | omega | (simp; done) | (simp; omega))))
    have E0 : Hid (OwnI w.heap.size wv (.slice (some ⟨w.heap.size + 1, 0, none⟩) 0 0) []) := Lib.hid (OwnI.below (OwnI.empty rfl (by omega) (blk_new1 w _ _)) hb)
    clear hd0
    go_loopw [3, 4] (fun vo vm wr => ∃ m : Nat, T ≤ m ∧ m ≤ B ∧ vm = .int .i64 m ∧ OwnI w.heap.size wr vo (seqD l T (m - T)) ∧ wr.heap[w.heap.size]? = some (.cells #[.slice A 16 c, .int .i64 T, .int .i64 B] 24 (0, 0)) ∧ (∀ g, vo.ownBlock = some g → g ≠ w.heap.size) ∧ Below w.heap.size w wr) (fun _ vm _ => B - (intOf vm).toNat)
    case atStart => exact ⟨T, by omega, htb, rfl, by rw [Nat.sub_self]; exact E0.out, HD0.out, fun g hg => (by simp [Value.ownBlock] at hg; try omega), B0.out⟩
    case round =>
      obtain ⟨m, hm0, hm1, rfl, hown, hd, hne, hbel⟩ := hrel
      have hsz := hbel.size
      have hcd := blk_cell hd
      have hld := blk_lt hd
      have HD := Lib.hid hd
      have HO := Lib.hid hown
      have HN := Lib.hid hne
      clear hd hown E0 HD0 hne hb
      by_cases hlt : m < B
      · obtain ⟨i1, hi1, hi16⟩ : ∃ i1 : Nat, (m : Int).tmod 16 = (i1 : Int) ∧ i1 < 16 := ⟨m % 16, by rw [Int.tmod_eq_emod_of_nonneg (by omega)]; simp, Nat.mod_lt _ (by omega)⟩
        have hpi : ((m : Int) % 16).toNat = i1 := by rw [← Int.tmod_eq_emod_of_nonneg (by omega), hi1]; omega
        have eb : decide ((m : Int) < B) = true := by simp; omega
        have hii : (i1 : Int) < 16 := by omega
        obtain ⟨b0, o0, rfl, hbl0, x0⟩ := (HP.out.below hbel).at_ hi16
        obtain ⟨y, hy⟩ : ∃ y, nt l i1 = y := ⟨_, rfl⟩
        rw [hy] at x0
        have HS : Hid (seqD l T (m - T) ++ [y] = seqD l T (m + 1 - T)) := Lib.hid (by rw [show m + 1 - T = m - T + 1 by omega, seqD_succ, show (T : Int) + ((m - T : Nat) : Int) = m by omega, at16, hpi, ← hy]; rfl)
        have hl16 : (seqD l T (m - T)).length ≤ 900000 := by rw [seqD_len]; omega
        clear hpi hy
        go_wp2_with (at_builtin
                     refine append_i rfl (.tmp 17) (.tmp 24) rfl w.heap.size _ _ rfl (HO.out.alloc _) wr.heap.size 1 y _ rfl (blk_new wr _) hl16 (by simp; omega) ?_
                     intro v3 w3 hown3 hg3 ha3)
        go_roundw
        case rel => exact ⟨m + 1, by omega, by omega, by go_num, by rw [← HS.out]; exact hown3, (hg3.block w.heap.size (by simp; omega) (fun e => HN.out _ e.symm rfl)).trans (blk_alloc HD.out _), fun g hg => (by rcases ha3 with e | e <;> rw [e] at hg; exact HN.out g hg; simp at hg; omega), below_own hg3 (by (repeat' (first | (with_reducible exact Below.refl _ _) | (with_reducible assumption) | (with_reducible refine Below.alloc ?_ ?_ _) | (with_reducible refine below_drewN ?_ _) | (with_reducible refine Below.drew ?_) | (with_reducible refine Below.setCell ?_ ?_ _) | (with_reducible refine below_call (by assumption) ?_ ?_) | (with_reducible refine below_grown (by assumption) ?_ ?_ ?_) | omega | (simp; done) | (simp; omega)))) (by simp; omega) (fun g hg => (HO.out.row g hg).1)⟩
        case measure => simp [intOf]; omega
      · obtain rfl : m = B := by omega
        have eb : decide ((m : Int) < m) = false := by simp
        go_wp2
        go_ret
        exact ⟨_, rfl, by rw [HT.out]; exact HO.out.weak, by (repeat' (first | (with_reducible exact Below.refl _ _) | (with_reducible assumption) | (with_reducible refine Below.alloc ?_ ?_ _) | (with_reducible refine below_drewN ?_ _) | (with_reducible refine Below.drew ?_) | (with_reducible refine Below.setCell ?_ ?_ _) | (with_reducible refine below_call (by assumption) ?_ ?_) | (with_reducible refine below_grown (by assumption) ?_ ?_ ?_) | omega | (simp; done) | (simp; omega)))⟩

set_option maxHeartbeats 1000000 in
theorem empty16_any (w : World) : Calls Try.prog 41 #[] w (fun e w' => ∃ A c, e = .returned (.slice A 16 c) ∧ OwnI w.heap.size w' (.slice A 16 c) (List.replicate 16 (-1)) ∧ Below w.heap.size w w') := by
  go_enter Try.func41, Try.ntmps41
  go_wp2
  go_loopw [1, 2] (fun v i wr => ∃ k : Nat, k ≤ 16 ∧ i = .int .i64 k ∧ OwnI w.heap.size wr v (List.replicate k (-1)) ∧ Below w.heap.size w wr) (fun _ i _ => 16 - (intOf i).toNat)
  case atStart => exact ⟨0, by omega, rfl, OwnI.empty rfl (Nat.le_refl _) (blk_new w _), by (repeat' (first | (with_reducible exact Below.refl _ _) | (with_reducible assumption) | (with_reducible refine Below.alloc ?_ ?_ _) | (with_reducible refine below_drewN ?_ _) | (with_reducible refine Below.drew ?_) | (with_reducible refine Below.setCell ?_ ?_ _) | (with_reducible refine below_call (by assumption) ?_ ?_) | (with_reducible refine below_grown (by assumption) ?_ ?_ ?_) | omega | (simp; done) | (simp; omega)))⟩
  case round =>
    obtain ⟨k, hk, rfl, hown, hbel⟩ := hrel
    have hsz := hbel.size
    have HO := Lib.hid hown
    clear hown
    by_cases hlt : k < 16
    · have eb : decide ((k : Int) < 16) = true := by simp; omega
      have HS : Hid (List.replicate k (-1 : Int) ++ [-1] = List.replicate (k + 1) (-1)) := Lib.hid (by rw [List.replicate_succ'])
      go_wp2_with (at_builtin
                   refine append_i rfl (.tmp 8) (.tmp 9) rfl w.heap.size _ _ rfl (HO.out.alloc _) wr.heap.size 1 (-1) _ rfl (blk_new wr _) (by rw [List.length_replicate]; omega) (by simp; omega) ?_
                   intro v3 w3 hown3 hg3 ha3)
      go_roundw
      case rel => exact ⟨k + 1, by omega, by go_num, by rw [← HS.out]; exact hown3, below_own hg3 (by (repeat' (first | (with_reducible exact Below.refl _ _) | (with_reducible assumption) | (with_reducible refine Below.alloc ?_ ?_ _) | (with_reducible refine below_drewN ?_ _) | (with_reducible refine Below.drew ?_) | (with_reducible refine Below.setCell ?_ ?_ _) | (with_reducible refine below_call (by assumption) ?_ ?_) | (with_reducible refine below_grown (by assumption) ?_ ?_ ?_) | omega | (simp; done) | (simp; omega)))) (by simp; omega) (fun g hg => (HO.out.row g hg).1)⟩
      case measure => simp [intOf]; omega
    · obtain rfl : k = 16 := by omega
      have HO2 := HO
      obtain ⟨A2, c2, e2, k1, k2, _⟩ := HO.out.weak.form
      rw [List.length_replicate] at e2
      subst e2
      clear k1 k2
      go_wp2
      go_ret
      exact ⟨A2, c2, rfl, HO.out, by (repeat' (first | (with_reducible exact Below.refl _ _) | (with_reducible assumption) | (with_reducible refine Below.alloc ?_ ?_ _) | (with_reducible refine below_drewN ?_ _) | (with_reducible refine Below.drew ?_) | (with_reducible refine Below.setCell ?_ ?_ _) | (with_reducible refine below_call (by assumption) ?_ ?_) | (with_reducible refine below_grown (by assumption) ?_ ?_ ?_) | omega | (simp; done) | (simp; omega)))⟩

set_option maxHeartbeats 1000000 in
theorem sNewDeque_any (w : World) : Calls Try.prog 15 #[] w (RetD newD w) := by
  go_enter Try.func15, Try.ntmps15
  go_wp2_with fail
  refine (empty16_any _).mono ?_
  rintro e w1 ⟨A, c, rfl, hown, hb⟩
  have hz := hb.size
  simp at hz
  have HO := Lib.hid hown
  have hgb := blk_below (blk_new w (.cells #[.slice none 0 0, .int .i64 0, .int .i64 0] 24)) hb
  have hcg := blk_cell hgb
  have hfg := blk_free hgb
  have hlg := blk_lt hgb
  clear hgb hown
  go_wp2
  ((try simp only [Exit.inBlock, Exit.then]); refine bodyPost_ret (by simp [results, Try.results15, go_sem, *]; try rfl) rfl ?_)
  exact ⟨A, c, rfl, (HO.out.weak.heap (fun g hg => by
    have hg' : w.heap.size + 1 ≤ g := by simpa using hg
    repeat (first | rfl | (with_reducible refine blk_far ?_ _ (by first | omega | (simp; omega)))))).lower (by simp), by (repeat' (first | (with_reducible exact Below.refl _ _) | (with_reducible assumption) | (with_reducible refine Below.alloc ?_ ?_ _) | (with_reducible refine below_drewN ?_ _) | (with_reducible refine Below.drew ?_) | (with_reducible refine Below.setCell ?_ ?_ _) | (with_reducible refine below_call (by assumption) ?_ ?_) | (with_reducible refine below_grown (by assumption) ?_ ?_ ?_) | omega | (simp; done) | (simp; omega)))⟩

set_option maxHeartbeats 1000000 in
theorem equalDeque_same {A A' : Option Addr} {n : Nat} {l : List Int} {t b : Int} {w : World} (c c' : Nat) (h : IsI w A n l) (h' : IsI w A' n l) (hn : n ≤ 1000000000000) :
    Calls Try.prog 27 #[.agg #[.slice A n c, .int .i64 t, .int .i64 b], .agg #[.slice A' n c', .int .i64 t, .int .i64 b]] w fun e w' => e = .returned (.bool true) ∧ Below w.heap.size w w' := by
  have HP := Lib.hid h
  have HP' := Lib.hid h'
  clear h h'
  go_enter Try.func27, Try.ntmps27
  go_wp2_with ((go_at_call 22; (with_reducible refine (equalInts_same c c' (HP.out.below (by (repeat' (first | (with_reducible exact Below.refl _ _) | (with_reducible assumption) | (with_reducible refine Below.alloc ?_ ?_ _) | (with_reducible refine below_drewN ?_ _) | (with_reducible refine Below.drew ?_) | (with_reducible refine Below.setCell ?_ ?_ _) | (with_reducible refine below_call (by assumption) ?_ ?_) | (with_reducible refine below_grown (by assumption) ?_ ?_ ?_) | omega | (simp; done) | (simp; omega))))) (HP'.out.below (by (repeat' (first | (with_reducible exact Below.refl _ _) | (with_reducible assumption) | (with_reducible refine Below.alloc ?_ ?_ _) | (with_reducible refine below_drewN ?_ _) | (with_reducible refine Below.drew ?_) | (with_reducible refine Below.setCell ?_ ?_ _) | (with_reducible refine below_call (by assumption) ?_ ?_) | (with_reducible refine below_grown (by assumption) ?_ ?_ ?_) | omega | (simp; done) | (simp; omega))))) hn).mono ?_); rintro e w1 ⟨rfl, hb⟩; have hz := hb.size; (try simp at hz); (try (have hk := bcl hb (w.heap.size) (by first | omega | (simp; done) | (simp; omega)); have hc := hk.1; have hf := hk.2.1; have hk := hk.2.2)); (try (have hk := bcl hb (w.heap.size + 1) (by first | omega | (simp; done) | (simp; omega)); have hc := hk.1; have hf := hk.2.1; have hk := hk.2.2))))
  go_ret
  exact ⟨rfl, by (repeat' (first | (with_reducible exact Below.refl _ _) | (with_reducible assumption) | (with_reducible refine Below.alloc ?_ ?_ _) | (with_reducible refine below_drewN ?_ _) | (with_reducible refine Below.drew ?_) | (with_reducible refine Below.setCell ?_ ?_ _) | (with_reducible refine below_call (by assumption) ?_ ?_) | (with_reducible refine below_grown (by assumption) ?_ ?_ ?_) | omega | (simp; done) | (simp; omega)))⟩

end Go.Proofs.Ytclfocdghbmmlaa
