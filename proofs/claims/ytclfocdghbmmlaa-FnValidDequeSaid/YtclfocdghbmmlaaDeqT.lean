/-
  Queues: a tile is popped, or stolen.
-/
import Derived.Test.YtclfocdghbmmlaaDeqP
import Derived.RegionTactic
namespace Go.Proofs.Ytclfocdghbmmlaa
open Go.RowKit Pl

set_option linter.unusedSimpArgs false
set_option linter.unusedVariables false

theorem blk_drew {w : World} {g : Nat} {o : Option Obj} (h : w.heap[g]? = o) : w.drew.heap[g]? = o := h
theorem takeR_no {d : Dq} (h : takeOkD d = false) : popR d = ⟨[], 0, 0⟩ ∧ popV d = -1 ∧ stealR d = ⟨[], 0, 0⟩ ∧ stealV d = -1 := by
  rw [popR, popV, stealR, stealV, h]; exact ⟨rfl, rfl, rfl, rfl⟩
theorem popR_ok {d : Dq} (h : takeOkD d = true) : popR d = ⟨set16 d.s (d.b - 1) (-1), d.t, d.b - 1⟩ ∧ popV d = at16 d.s (d.b - 1) := by rw [popR, popV, if_pos h, if_pos h]; exact ⟨rfl, rfl⟩
theorem stealR_ok {d : Dq} (h : takeOkD d = true) : stealR d = ⟨set16 d.s d.t (-1), d.t + 1, d.b⟩ ∧ stealV d = at16 d.s d.t := by rw [stealR, stealV, if_pos h, if_pos h]; exact ⟨rfl, rfl⟩

set_option maxHeartbeats 2000000 in
theorem PopTile_eq {A : Option Addr} {n : Nat} {l : List Int} {t b x : Int} {w : World} {q : Dq} {ok : Bool} (c : Nat) (h : IsI w A n l) (hn : n ≤ 1000000000000) (ht : -1000000 ≤ t ∧ t ≤ 1000000) (hbb : -1000000 ≤ b ∧ b ≤ 1000000) (hok : takeOkD ⟨l, t, b⟩ = ok) (hq : popR ⟨l, t, b⟩ = q) (hx : popV ⟨l, t, b⟩ = x) :
    Calls Try.prog 25 #[.agg #[.slice A n c, .int .i64 t, .int .i64 b]] w (RetDTOk q x ok w) := by
  subst hq hx
  have HP := Lib.hid h
  have hl := h.len
  have HL := Lib.hid hl
  clear h hl
  obtain ⟨ht0, ht1⟩ := ht
  obtain ⟨hb0, hb1⟩ := hbb
  obtain ⟨v, hv⟩ : ∃ v, validD ⟨l, t, b⟩ = v := ⟨_, rfl⟩
  have HV := Lib.hid hv
  have hok' : ok = (v && decide (t ≠ b)) := by rw [← hok, takeOkD, hv]
  cases v with
  | false =>
    have e2 : ok = false := by rw [hok']; rfl
    obtain ⟨r1, r2, r3, r4⟩ := takeR_no (hok.trans e2)
    have R1 := Lib.hid r1
    have R2 := Lib.hid r2
    subst e2
    clear hok hok' hv r1 r2 r3 r4
    go_enter Try.func25, Try.ntmps25
    go_wp2_with (go_at_call 28; (with_reducible refine (ValidDeque_eq c (HP.out.below (by (repeat' (first | (with_reducible exact Below.refl _ _) | (with_reducible assumption) | (with_reducible refine Below.alloc ?_ ?_ _) | (with_reducible refine below_drewN ?_ _) | (with_reducible refine Below.drew ?_) | (with_reducible refine Below.setCell ?_ ?_ _) | (with_reducible refine below_call (by assumption) ?_ ?_) | (with_reducible refine below_grown (by assumption) ?_ ?_ ?_) | omega | (simp; done) | (simp; omega))))) hn (Hid.out (by with_reducible assumption))).mono ?_); rintro e wv ⟨rfl, hb⟩; have hz := hb.size; (try simp at hz); (try (have hk := bcl hb (w.heap.size) (by first | omega | (simp; done) | (simp; omega)); have hc := hk.1; have hf := hk.2.1; have hk := hk.2.2)); (try (have hk := bcl hb (w.heap.size + 1) (by first | omega | (simp; done) | (simp; omega)); have hc := hk.1; have hf := hk.2.1; have hk := hk.2.2)))
    ((try simp only [Exit.inBlock, Exit.then]); refine bodyPost_ret (by simp [results, Try.results25, go_sem, *]; try rfl) rfl ?_)
    rw [R1.out, R2.out]
    exact ⟨_, _, rfl, OwnJ.nil _ _, by (repeat' (first | (with_reducible exact Below.refl _ _) | (with_reducible assumption) | (with_reducible refine Below.alloc ?_ ?_ _) | (with_reducible refine below_drewN ?_ _) | (with_reducible refine Below.drew ?_) | (with_reducible refine Below.setCell ?_ ?_ _) | (with_reducible refine below_call (by assumption) ?_ ?_) | (with_reducible refine below_grown (by assumption) ?_ ?_ ?_) | omega | (simp; done) | (simp; omega)))⟩
  | true =>
    by_cases htb : t = b
    · have e2 : ok = false := by rw [hok', htb]; simp
      obtain ⟨r1, r2, r3, r4⟩ := takeR_no (hok.trans e2)
      have R1 := Lib.hid r1
      have R2 := Lib.hid r2
      subst e2
      subst htb
      clear hok hok' hv r1 r2 r3 r4
      go_enter Try.func25, Try.ntmps25
      go_wp2_with (go_at_call 28; (with_reducible refine (ValidDeque_eq c (HP.out.below (by (repeat' (first | (with_reducible exact Below.refl _ _) | (with_reducible assumption) | (with_reducible refine Below.alloc ?_ ?_ _) | (with_reducible refine below_drewN ?_ _) | (with_reducible refine Below.drew ?_) | (with_reducible refine Below.setCell ?_ ?_ _) | (with_reducible refine below_call (by assumption) ?_ ?_) | (with_reducible refine below_grown (by assumption) ?_ ?_ ?_) | omega | (simp; done) | (simp; omega))))) hn (Hid.out (by with_reducible assumption))).mono ?_); rintro e wv ⟨rfl, hb⟩; have hz := hb.size; (try simp at hz); (try (have hk := bcl hb (w.heap.size) (by first | omega | (simp; done) | (simp; omega)); have hc := hk.1; have hf := hk.2.1; have hk := hk.2.2)); (try (have hk := bcl hb (w.heap.size + 1) (by first | omega | (simp; done) | (simp; omega)); have hc := hk.1; have hf := hk.2.1; have hk := hk.2.2)))
      ((try simp only [Exit.inBlock, Exit.then]); refine bodyPost_ret (by simp [results, Try.results25, go_sem, *]; try rfl) rfl ?_)
      rw [R1.out, R2.out]
      exact ⟨_, _, rfl, OwnJ.nil _ _, by (repeat' (first | (with_reducible exact Below.refl _ _) | (with_reducible assumption) | (with_reducible refine Below.alloc ?_ ?_ _) | (with_reducible refine below_drewN ?_ _) | (with_reducible refine Below.drew ?_) | (with_reducible refine Below.setCell ?_ ?_ _) | (with_reducible refine below_call (by assumption) ?_ ?_) | (with_reducible refine below_grown (by assumption) ?_ ?_ ?_) | omega | (simp; done) | (simp; omega)))⟩
    · have e2 : ok = true := by rw [hok']; simpa using htb
      obtain ⟨r1, r2⟩ := popR_ok (hok.trans e2)
      simp only at r1 r2
      subst e2
      have g3 : decide (t = b) = false := decide_eq_false htb
      have g4 : (t == b) = false := by simpa using htb
      obtain ⟨q1, q2, _⟩ := validD_iff.1 hv
      simp only at q1 q2
      obtain rfl : n = 16 := by rw [← HL.out]; exact q1
      obtain ⟨P, hP⟩ := Int.eq_ofNat_of_zero_le (show 0 ≤ b - 1 by omega)
      obtain ⟨i1, hi1, hi16⟩ : ∃ i1 : Nat, (P : Int).tmod 16 = (i1 : Int) ∧ i1 < 16 := ⟨P % 16, by rw [Int.tmod_eq_emod_of_nonneg (by omega)]; simp, Nat.mod_lt _ (by omega)⟩
      have hpi : ((P : Int) % 16).toNat = i1 := by rw [← Int.tmod_eq_emod_of_nonneg (by omega), hi1]; omega
      rw [hP] at r1 r2
      have HI : Hid (set16 l P (-1) = l.set i1 (-1)) := Lib.hid (by rw [set16, hpi])
      have HA : Hid (at16 l P = nt l i1) := Lib.hid (by rw [at16, hpi]; rfl)
      have R1 := Lib.hid r1
      have R2 := Lib.hid r2
      have hii : (i1 : Int) < 16 := by omega
      obtain ⟨b0, o0, rfl, hbl0, x0⟩ := HP.out.at_ hi16
      obtain ⟨y, hy⟩ : ∃ y, nt l i1 = y := ⟨_, rfl⟩
      have HY := Lib.hid hy
      rw [hy] at x0
      have hsub : IntKind.i64.wrap (b - 1) = (P : Int) := (IntWalk.i64_in _ (by omega)).trans hP
      have hB1 : (P : Int) ≤ 1000000 := by omega
      clear hok hok' hv q1 q2 r1 r2 hy hpi
      go_enter Try.func25, Try.ntmps25
      go_wp2_with (go_at_call 28; (with_reducible refine (ValidDeque_eq c (HP.out.below (by (repeat' (first | (with_reducible exact Below.refl _ _) | (with_reducible assumption) | (with_reducible refine Below.alloc ?_ ?_ _) | (with_reducible refine below_drewN ?_ _) | (with_reducible refine Below.drew ?_) | (with_reducible refine Below.setCell ?_ ?_ _) | (with_reducible refine below_call (by assumption) ?_ ?_) | (with_reducible refine below_grown (by assumption) ?_ ?_ ?_) | omega | (simp; done) | (simp; omega))))) hn (Hid.out (by with_reducible assumption))).mono ?_); rintro e wv ⟨rfl, hb⟩; have hz := hb.size; (try simp at hz); (try (have hk := bcl hb (w.heap.size) (by first | omega | (simp; done) | (simp; omega)); have hc := hk.1; have hf := hk.2.1; have hk := hk.2.2)); (try (have hk := bcl hb (w.heap.size + 1) (by first | omega | (simp; done) | (simp; omega)); have hc := hk.1; have hf := hk.2.1; have hk := hk.2.2)))
      refine (copyOf_any c (HP.out.below (by (repeat' (first | (with_reducible exact Below.refl _ _) | (with_reducible assumption) | (with_reducible refine Below.alloc ?_ ?_ _) | (with_reducible refine below_drewN ?_ _) | (with_reducible refine Below.drew ?_) | (with_reducible refine Below.setCell ?_ ?_ _) | (with_reducible refine below_call (by assumption) ?_ ?_) | (with_reducible refine below_grown (by assumption) ?_ ?_ ?_) | omega | (simp; done) | (simp; omega))))) (by omega)).mono ?_
      rintro e w2 ⟨A2, c2, rfl, hown, hb2⟩
      have hz2 := hb2.size
      rw [HL.out] at hown ⊢
      obtain ⟨g, cur, rfl, hgb, hc1, hc2, _, hg, hs, hat⟩ := hown.open (by omega)
      have hcg := (blk_cell hg i1).trans (hat i1 hi16)
      have hfg := blk_free hg
      have hlg := blk_lt hg
      have HG := Lib.hid hg
      have HH := Lib.hid (set_has (-1) HL.out hs hat hi16)
      have hx2 : w2.cell? ⟨b0, o0 + i1, none⟩ = some (.int .i64 y) := ((show Below w.heap.size w w2 by (repeat' (first | (with_reducible exact Below.refl _ _) | (with_reducible assumption) | (with_reducible refine Below.alloc ?_ ?_ _) | (with_reducible refine below_drewN ?_ _) | (with_reducible refine Below.drew ?_) | (with_reducible refine Below.setCell ?_ ?_ _) | (with_reducible refine below_call (by assumption) ?_ ?_) | (with_reducible refine below_grown (by assumption) ?_ ?_ ?_) | omega | (simp; done) | (simp; omega)))).cell (p := ⟨b0, o0 + i1, none⟩) hbl0).trans x0
      have hbl2 : b0 < w2.heap.size := by omega
      have hk0 := blk_below (blk_below (blk_alloc (blk_new w (.cells #[.slice (some ⟨b0, o0, none⟩) 16 c, .int .i64 t, .int .i64 b] 24)) (.cells #[.slice none 0 0, .int .i64 0, .int .i64 0] 24)) hb) hb2
      have hk1 := blk_below (blk_below (blk_new1 w (.cells #[.slice (some ⟨b0, o0, none⟩) 16 c, .int .i64 t, .int .i64 b] 24) (.cells #[.slice none 0 0, .int .i64 0, .int .i64 0] 24)) hb) hb2
      have hkc0 := blk_cell hk0
      have hkl0 := blk_lt hk0
      have hkc1 := blk_cell hk1
      have hkf1 := blk_free hk1
      have hkl1 := blk_lt hk1
      have hgne : g ≠ w.heap.size + 1 := by omega
      have hgne0 : g ≠ w.heap.size := by omega
      have hbne : b0 ≠ g := by omega
      clear hg hat hs hown hk0 hk1 x0
      go_wp2_with fail
      go_region
      all_goals go_wp2
      all_goals
        ((try simp only [Exit.inBlock, Exit.then]); refine bodyPost_ret (by simp [results, Try.results25, go_sem, *]; try rfl) rfl ?_)
        rw [R1.out, R2.out, HA.out, HY.out]
        have hlen : (set16 l P (-1)).length = 16 := by rw [set16_len, HL.out]
        refine ⟨some ⟨g, 0, none⟩, c2, by rw [hlen], ?_, by (repeat' (first | (with_reducible exact Below.refl _ _) | (with_reducible assumption) | (with_reducible refine Below.alloc ?_ ?_ _) | (with_reducible refine below_drewN ?_ _) | (with_reducible refine Below.drew ?_) | (with_reducible refine Below.setCell ?_ ?_ _) | (with_reducible refine below_call (by assumption) ?_ ?_) | (with_reducible refine below_grown (by assumption) ?_ ?_ ?_) | omega | (simp; done) | (simp; omega)))⟩
        rw [hlen, HI.out]
        exact OwnJ.mk (by omega) (by rw [List.length_set, HL.out]) hc1 hc2 (by repeat' (first | (with_reducible exact blk_set HG.out _ _) | (with_reducible refine blk_alloc ?_ _) | (with_reducible refine blk_drewN ?_ _) | (with_reducible refine blk_drew ?_) | (with_reducible refine blk_far ?_ _ (by first | omega | (simp; omega))))) HH.out.1 HH.out.2

set_option maxHeartbeats 2000000 in
theorem StealTile_eq {A : Option Addr} {n : Nat} {l : List Int} {t b x : Int} {w : World} {q : Dq} {ok : Bool} (c : Nat) (h : IsI w A n l) (hn : n ≤ 1000000000000) (ht : -1000000 ≤ t ∧ t ≤ 1000000) (hbb : -1000000 ≤ b ∧ b ≤ 1000000) (hok : takeOkD ⟨l, t, b⟩ = ok) (hq : stealR ⟨l, t, b⟩ = q) (hx : stealV ⟨l, t, b⟩ = x) :
    Calls Try.prog 30 #[.agg #[.slice A n c, .int .i64 t, .int .i64 b]] w (RetDTOk q x ok w) := by
  subst hq hx
  have HP := Lib.hid h
  have hl := h.len
  have HL := Lib.hid hl
  clear h hl
  obtain ⟨ht0, ht1⟩ := ht
  obtain ⟨hb0, hb1⟩ := hbb
  obtain ⟨v, hv⟩ : ∃ v, validD ⟨l, t, b⟩ = v := ⟨_, rfl⟩
  have HV := Lib.hid hv
  have hok' : ok = (v && decide (t ≠ b)) := by rw [← hok, takeOkD, hv]
  cases v with
  | false =>
    have e2 : ok = false := by rw [hok']; rfl
    obtain ⟨r1, r2, r3, r4⟩ := takeR_no (hok.trans e2)
    have R1 := Lib.hid r3
    have R2 := Lib.hid r4
    subst e2
    clear hok hok' hv r1 r2 r3 r4
    go_enter Try.func30, Try.ntmps30
    go_wp2_with (go_at_call 28; (with_reducible refine (ValidDeque_eq c (HP.out.below (by (repeat' (first | (with_reducible exact Below.refl _ _) | (with_reducible assumption) | (with_reducible refine Below.alloc ?_ ?_ _) | (with_reducible refine below_drewN ?_ _) | (with_reducible refine Below.drew ?_) | (with_reducible refine Below.setCell ?_ ?_ _) | (with_reducible refine below_call (by assumption) ?_ ?_) | (with_reducible refine below_grown (by assumption) ?_ ?_ ?_) | omega | (simp; done) | (simp; omega))))) hn (Hid.out (by with_reducible assumption))).mono ?_); rintro e wv ⟨rfl, hb⟩; have hz := hb.size; (try simp at hz); (try (have hk := bcl hb (w.heap.size) (by first | omega | (simp; done) | (simp; omega)); have hc := hk.1; have hf := hk.2.1; have hk := hk.2.2)); (try (have hk := bcl hb (w.heap.size + 1) (by first | omega | (simp; done) | (simp; omega)); have hc := hk.1; have hf := hk.2.1; have hk := hk.2.2)))
    ((try simp only [Exit.inBlock, Exit.then]); refine bodyPost_ret (by simp [results, Try.results30, go_sem, *]; try rfl) rfl ?_)
    rw [R1.out, R2.out]
    exact ⟨_, _, rfl, OwnJ.nil _ _, by (repeat' (first | (with_reducible exact Below.refl _ _) | (with_reducible assumption) | (with_reducible refine Below.alloc ?_ ?_ _) | (with_reducible refine below_drewN ?_ _) | (with_reducible refine Below.drew ?_) | (with_reducible refine Below.setCell ?_ ?_ _) | (with_reducible refine below_call (by assumption) ?_ ?_) | (with_reducible refine below_grown (by assumption) ?_ ?_ ?_) | omega | (simp; done) | (simp; omega)))⟩
  | true =>
    by_cases htb : t = b
    · have e2 : ok = false := by rw [hok', htb]; simp
      obtain ⟨r1, r2, r3, r4⟩ := takeR_no (hok.trans e2)
      have R1 := Lib.hid r3
      have R2 := Lib.hid r4
      subst e2
      subst htb
      clear hok hok' hv r1 r2 r3 r4
      go_enter Try.func30, Try.ntmps30
      go_wp2_with (go_at_call 28; (with_reducible refine (ValidDeque_eq c (HP.out.below (by (repeat' (first | (with_reducible exact Below.refl _ _) | (with_reducible assumption) | (with_reducible refine Below.alloc ?_ ?_ _) | (with_reducible refine below_drewN ?_ _) | (with_reducible refine Below.drew ?_) | (with_reducible refine Below.setCell ?_ ?_ _) | (with_reducible refine below_call (by assumption) ?_ ?_) | (with_reducible refine below_grown (by assumption) ?_ ?_ ?_) | omega | (simp; done) | (simp; omega))))) hn (Hid.out (by with_reducible assumption))).mono ?_); rintro e wv ⟨rfl, hb⟩; have hz := hb.size; (try simp at hz); (try (have hk := bcl hb (w.heap.size) (by first | omega | (simp; done) | (simp; omega)); have hc := hk.1; have hf := hk.2.1; have hk := hk.2.2)); (try (have hk := bcl hb (w.heap.size + 1) (by first | omega | (simp; done) | (simp; omega)); have hc := hk.1; have hf := hk.2.1; have hk := hk.2.2)))
      ((try simp only [Exit.inBlock, Exit.then]); refine bodyPost_ret (by simp [results, Try.results30, go_sem, *]; try rfl) rfl ?_)
      rw [R1.out, R2.out]
      exact ⟨_, _, rfl, OwnJ.nil _ _, by (repeat' (first | (with_reducible exact Below.refl _ _) | (with_reducible assumption) | (with_reducible refine Below.alloc ?_ ?_ _) | (with_reducible refine below_drewN ?_ _) | (with_reducible refine Below.drew ?_) | (with_reducible refine Below.setCell ?_ ?_ _) | (with_reducible refine below_call (by assumption) ?_ ?_) | (with_reducible refine below_grown (by assumption) ?_ ?_ ?_) | omega | (simp; done) | (simp; omega)))⟩
    · have e2 : ok = true := by rw [hok']; simpa using htb
      obtain ⟨r1, r2⟩ := stealR_ok (hok.trans e2)
      simp only at r1 r2
      subst e2
      have g3 : decide (t = b) = false := decide_eq_false htb
      have g4 : (t == b) = false := by simpa using htb
      obtain ⟨q1, q2, _⟩ := validD_iff.1 hv
      simp only at q1 q2
      obtain rfl : n = 16 := by rw [← HL.out]; exact q1
      obtain ⟨P, hP⟩ := Int.eq_ofNat_of_zero_le (show 0 ≤ t by omega)
      obtain ⟨i1, hi1, hi16⟩ : ∃ i1 : Nat, (P : Int).tmod 16 = (i1 : Int) ∧ i1 < 16 := ⟨P % 16, by rw [Int.tmod_eq_emod_of_nonneg (by omega)]; simp, Nat.mod_lt _ (by omega)⟩
      have hpi : ((P : Int) % 16).toNat = i1 := by rw [← Int.tmod_eq_emod_of_nonneg (by omega), hi1]; omega
      subst hP
      have HI : Hid (set16 l P (-1) = l.set i1 (-1)) := Lib.hid (by rw [set16, hpi])
      have HA : Hid (at16 l P = nt l i1) := Lib.hid (by rw [at16, hpi]; rfl)
      have R1 := Lib.hid r1
      have R2 := Lib.hid r2
      have hii : (i1 : Int) < 16 := by omega
      obtain ⟨b0, o0, rfl, hbl0, x0⟩ := HP.out.at_ hi16
      obtain ⟨y, hy⟩ : ∃ y, nt l i1 = y := ⟨_, rfl⟩
      have HY := Lib.hid hy
      rw [hy] at x0
      have hadd : IntKind.i64.wrap ((P : Int) + 1) = (P : Int) + 1 := IntWalk.i64_in _ (by omega)
      have hB1 : (P : Int) ≤ 1000000 := by omega
      clear hok hok' hv q1 q2 r1 r2 hy hpi
      go_enter Try.func30, Try.ntmps30
      go_wp2_with (go_at_call 28; (with_reducible refine (ValidDeque_eq c (HP.out.below (by (repeat' (first | (with_reducible exact Below.refl _ _) | (with_reducible assumption) | (with_reducible refine Below.alloc ?_ ?_ _) | (with_reducible refine below_drewN ?_ _) | (with_reducible refine Below.drew ?_) | (with_reducible refine Below.setCell ?_ ?_ _) | (with_reducible refine below_call (by assumption) ?_ ?_) | (with_reducible refine below_grown (by assumption) ?_ ?_ ?_) | omega | (simp; done) | (simp; omega))))) hn (Hid.out (by with_reducible assumption))).mono ?_); rintro e wv ⟨rfl, hb⟩; have hz := hb.size; (try simp at hz); (try (have hk := bcl hb (w.heap.size) (by first | omega | (simp; done) | (simp; omega)); have hc := hk.1; have hf := hk.2.1; have hk := hk.2.2)); (try (have hk := bcl hb (w.heap.size + 1) (by first | omega | (simp; done) | (simp; omega)); have hc := hk.1; have hf := hk.2.1; have hk := hk.2.2)))
      refine (copyOf_any c (HP.out.below (by (repeat' (first | (with_reducible exact Below.refl _ _) | (with_reducible assumption) | (with_reducible refine Below.alloc ?_ ?_ _) | (with_reducible refine below_drewN ?_ _) | (with_reducible refine Below.drew ?_) | (with_reducible refine Below.setCell ?_ ?_ _) | (with_reducible refine below_call (by assumption) ?_ ?_) | (with_reducible refine below_grown (by assumption) ?_ ?_ ?_) | omega | (simp; done) | (simp; omega))))) (by omega)).mono ?_
      rintro e w2 ⟨A2, c2, rfl, hown, hb2⟩
      have hz2 := hb2.size
      rw [HL.out] at hown ⊢
      obtain ⟨g, cur, rfl, hgb, hc1, hc2, _, hg, hs, hat⟩ := hown.open (by omega)
      have hcg := (blk_cell hg i1).trans (hat i1 hi16)
      have hfg := blk_free hg
      have hlg := blk_lt hg
      have HG := Lib.hid hg
      have HH := Lib.hid (set_has (-1) HL.out hs hat hi16)
      have hx2 : w2.cell? ⟨b0, o0 + i1, none⟩ = some (.int .i64 y) := ((show Below w.heap.size w w2 by (repeat' (first | (with_reducible exact Below.refl _ _) | (with_reducible assumption) | (with_reducible refine Below.alloc ?_ ?_ _) | (with_reducible refine below_drewN ?_ _) | (with_reducible refine Below.drew ?_) | (with_reducible refine Below.setCell ?_ ?_ _) | (with_reducible refine below_call (by assumption) ?_ ?_) | (with_reducible refine below_grown (by assumption) ?_ ?_ ?_) | omega | (simp; done) | (simp; omega)))).cell (p := ⟨b0, o0 + i1, none⟩) hbl0).trans x0
      have hbl2 : b0 < w2.heap.size := by omega
      have hk0 := blk_below (blk_below (blk_alloc (blk_new w (.cells #[.slice (some ⟨b0, o0, none⟩) 16 c, .int .i64 P, .int .i64 b] 24)) (.cells #[.slice none 0 0, .int .i64 0, .int .i64 0] 24)) hb) hb2
      have hk1 := blk_below (blk_below (blk_new1 w (.cells #[.slice (some ⟨b0, o0, none⟩) 16 c, .int .i64 P, .int .i64 b] 24) (.cells #[.slice none 0 0, .int .i64 0, .int .i64 0] 24)) hb) hb2
      have hkc0 := blk_cell hk0
      have hkl0 := blk_lt hk0
      have hkc1 := blk_cell hk1
      have hkf1 := blk_free hk1
      have hkl1 := blk_lt hk1
      have hgne : g ≠ w.heap.size + 1 := by omega
      have hgne0 : g ≠ w.heap.size := by omega
      have hbne : b0 ≠ g := by omega
      clear hg hat hs hown hk0 hk1 x0
      go_wp2_with fail
      go_region
      all_goals go_wp2
      all_goals
        ((try simp only [Exit.inBlock, Exit.then]); refine bodyPost_ret (by simp [results, Try.results30, go_sem, *]; try rfl) rfl ?_)
        rw [R1.out, R2.out, HA.out, HY.out]
        have hlen : (set16 l P (-1)).length = 16 := by rw [set16_len, HL.out]
        refine ⟨some ⟨g, 0, none⟩, c2, by rw [hlen], ?_, by (repeat' (first | (with_reducible exact Below.refl _ _) | (with_reducible assumption) | (with_reducible refine Below.alloc ?_ ?_ _) | (with_reducible refine below_drewN ?_ _) | (with_reducible refine Below.drew ?_) | (with_reducible refine Below.setCell ?_ ?_ _) | (with_reducible refine below_call (by assumption) ?_ ?_) | (with_reducible refine below_grown (by assumption) ?_ ?_ ?_) | omega | (simp; done) | (simp; omega)))⟩
        rw [hlen, HI.out]
        exact OwnJ.mk (by omega) (by rw [List.length_set, HL.out]) hc1 hc2 (by repeat' (first | (with_reducible exact blk_set HG.out _ _) | (with_reducible refine blk_alloc ?_ _) | (with_reducible refine blk_drewN ?_ _) | (with_reducible refine blk_drew ?_) | (with_reducible refine blk_far ?_ _ (by first | omega | (simp; omega))))) HH.out.1 HH.out.2

end Go.Proofs.Ytclfocdghbmmlaa
