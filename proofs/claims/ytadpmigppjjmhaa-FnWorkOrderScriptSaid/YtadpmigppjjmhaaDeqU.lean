/-
  Queues: a tile is popped, or stolen, of the reference.
-/
import Derived.Test.YtadpmigppjjmhaaDeqG
namespace Go.Proofs.Ytadpmigppjjmhaa
open Go.RowKit Pl

set_option linter.unusedSimpArgs false
set_option linter.unusedVariables false

set_option maxHeartbeats 2000000 in
theorem sPopTile_eq {A : Option Addr} {n : Nat} {l : List Int} {t b x : Int} {w : World} {q : Dq} {ok : Bool} (c : Nat) (h : IsI w A n l) (hn : n ≤ 1000000000000) (ht : -1000000 ≤ t ∧ t ≤ 1000000) (hbb : -1000000 ≤ b ∧ b ≤ 1000000) (hok : takeOkD ⟨l, t, b⟩ = ok) (hq : popR ⟨l, t, b⟩ = q) (hx : popV ⟨l, t, b⟩ = x) :
    Calls Try.prog 27 #[.agg #[.slice A n c, .int .i64 t, .int .i64 b]] w (RetDTOk q x ok w) := by
  subst hq hx
  have HP := Lib.hid h
  have hl := h.len
  have HL := Lib.hid hl
  clear h hl
  obtain ⟨ht0, ht1⟩ := ht
  obtain ⟨hb0, hb1⟩ := hbb
  obtain ⟨v, hv⟩ : ∃ v, validD ⟨l, t, b⟩ = v := ⟨_, rfl⟩
  have HV := Lib.hid hv
  have hok' : ok = (v && decide (t ≠ b)) := by rw [← hok, takeOkD, hv]
  cases v with
  | false =>
    have e2 : ok = false := by rw [hok']; rfl
    obtain ⟨r1, r2, r3, r4⟩ := takeR_no (hok.trans e2)
    have R1 := Lib.hid r1
    have R2 := Lib.hid r2
    subst e2
    clear hok hok' hv r1 r2 r3 r4
    go_enter Try.func27, Try.ntmps27
    go_wp2_with (go_at_call 30; (with_reducible refine (validDeque_eq c (HP.out.below (by (repeat' (first | (with_reducible exact Below.refl _ _) | (with_reducible assumption) | (with_reducible refine Below.alloc ?_ ?_ _) | (with_reducible refine below_drewN ?_ _) | (with_reducible refine Below.drew ?_) | (with_reducible refine Below.setCell ?_ ?_ _) | (with_reducible refine below_call (by assumption) ?_ ?_) | (with_reducible refine below_grown (by assumption) ?_ ?_ ?_) | omega | (simp; done) | (simp; omega))))) hn (Hid.out (by with_reducible assumption))).mono ?_); rintro e wv ⟨rfl, hb⟩; have hz := hb.size; (try simp at hz); (try (have hk := bcl hb (w.heap.size) (by first | omega | (simp; done) | (simp; omega)); have hc := hk.1; have hf := hk.2.1; have hk := hk.2.2)); (try (have hk := bcl hb (w.heap.size + 1) (by first | omega | (simp; done) | (simp; omega)); have hc := hk.1; have hf := hk.2.1; have hk := hk.2.2)))
    ((try simp only [Exit.inBlock, Exit.then]); refine bodyPost_ret (by simp [results, Try.results27, go_sem, *]; try rfl) rfl ?_)
    rw [R1.out, R2.out]
    exact ⟨_, _, rfl, OwnJ.nil _ _, by (repeat' (first | (with_reducible exact Below.refl _ _) | (with_reducible assumption) | (with_reducible refine Below.alloc ?_ ?_ _) | (with_reducible refine below_drewN ?_ _) | (with_reducible refine Below.drew ?_) | (with_reducible refine Below.setCell ?_ ?_ _) | (with_reducible refine below_call (by assumption) ?_ ?_) | (with_reducible refine below_grown (by assumption) ?_ ?_ ?_) | omega | (simp; done) | (simp; omega)))⟩
  | true =>
    by_cases htb : t = b
    · have e2 : ok = false := by rw [hok', htb]; simp
      obtain ⟨r1, r2, r3, r4⟩ := takeR_no (hok.trans e2)
      have R1 := Lib.hid r1
      have R2 := Lib.hid r2
      subst e2
      subst htb
      clear hok hok' hv r1 r2 r3 r4
      go_enter Try.func27, Try.ntmps27
      go_wp2_with (go_at_call 30; (with_reducible refine (validDeque_eq c (HP.out.below (by (repeat' (first | (with_reducible exact Below.refl _ _) | (with_reducible assumption) | (with_reducible refine Below.alloc ?_ ?_ _) | (with_reducible refine below_drewN ?_ _) | (with_reducible refine Below.drew ?_) | (with_reducible refine Below.setCell ?_ ?_ _) | (with_reducible refine below_call (by assumption) ?_ ?_) | (with_reducible refine below_grown (by assumption) ?_ ?_ ?_) | omega | (simp; done) | (simp; omega))))) hn (Hid.out (by with_reducible assumption))).mono ?_); rintro e wv ⟨rfl, hb⟩; have hz := hb.size; (try simp at hz); (try (have hk := bcl hb (w.heap.size) (by first | omega | (simp; done) | (simp; omega)); have hc := hk.1; have hf := hk.2.1; have hk := hk.2.2)); (try (have hk := bcl hb (w.heap.size + 1) (by first | omega | (simp; done) | (simp; omega)); have hc := hk.1; have hf := hk.2.1; have hk := hk.2.2)))
      ((try simp only [Exit.inBlock, Exit.then]); refine bodyPost_ret (by simp [results, Try.results27, go_sem, *]; try rfl) rfl ?_)
      rw [R1.out, R2.out]
      exact ⟨_, _, rfl, OwnJ.nil _ _, by (repeat' (first | (with_reducible exact Below.refl _ _) | (with_reducible assumption) | (with_reducible refine Below.alloc ?_ ?_ _) | (with_reducible refine below_drewN ?_ _) | (with_reducible refine Below.drew ?_) | (with_reducible refine Below.setCell ?_ ?_ _) | (with_reducible refine below_call (by assumption) ?_ ?_) | (with_reducible refine below_grown (by assumption) ?_ ?_ ?_) | omega | (simp; done) | (simp; omega)))⟩
    · have e2 : ok = true := by rw [hok']; simpa using htb
      obtain ⟨r1, r2⟩ := popR_ok (hok.trans e2)
      simp only at r1 r2
      subst e2
      have g3 : decide (t = b) = false := decide_eq_false htb
      have g4 : (t == b) = false := by simpa using htb
      obtain ⟨q1, q2, _⟩ := validD_iff.1 hv
      simp only at q1 q2
      obtain rfl : n = 16 := by rw [← HL.out]; exact q1
      obtain ⟨P, hP⟩ := Int.eq_ofNat_of_zero_le (show 0 ≤ b - 1 by omega)
      obtain ⟨i1, hi1, hi16⟩ : ∃ i1 : Nat, (P : Int).tmod 16 = (i1 : Int) ∧ i1 < 16 := ⟨P % 16, by rw [Int.tmod_eq_emod_of_nonneg (by omega)]; simp, Nat.mod_lt _ (by omega)⟩
      have hpi : ((P : Int) % 16).toNat = i1 := by rw [← Int.tmod_eq_emod_of_nonneg (by omega), hi1]; omega
      rw [hP] at r1 r2
      have HI : Hid (set16 l P (-1) = l.set i1 (-1)) := Lib.hid (by rw [set16, hpi])
      have HA : Hid (at16 l P = nt l i1) := Lib.hid (by rw [at16, hpi]; rfl)
      have R1 := Lib.hid r1
      have R2 := Lib.hid r2
      have hii : (i1 : Int) < 16 := by omega
      obtain ⟨b0, o0, rfl, hbl0, x0⟩ := HP.out.at_ hi16
      obtain ⟨y, hy⟩ : ∃ y, nt l i1 = y := ⟨_, rfl⟩
      have HY := Lib.hid hy
      rw [hy] at x0
      have hsub : IntKind.i64.wrap (b - 1) = (P : Int) := (IntWalk.i64_in _ (by omega)).trans hP
      have hB1 : (P : Int) ≤ 1000000 := by omega
      clear hok hok' hv q1 q2 r1 r2 hy hpi
      go_enter Try.func27, Try.ntmps27
      go_wp2_with (go_at_call 30; (with_reducible refine (validDeque_eq c (HP.out.below (by (repeat' (first | (with_reducible exact Below.refl _ _) | (with_reducible assumption) | (with_reducible refine Below.alloc ?_ ?_ _) | (with_reducible refine below_drewN ?_ _) | (with_reducible refine Below.drew ?_) | (with_reducible refine Below.setCell ?_ ?_ _) | (with_reducible refine below_call (by assumption) ?_ ?_) | (with_reducible refine below_grown (by assumption) ?_ ?_ ?_) | omega | (simp; done) | (simp; omega))))) hn (Hid.out (by with_reducible assumption))).mono ?_); rintro e wv ⟨rfl, hb⟩; have hz := hb.size; (try simp at hz); (try (have hk := bcl hb (w.heap.size) (by first | omega | (simp; done) | (simp; omega)); have hc := hk.1; have hf := hk.2.1; have hk := hk.2.2)); (try (have hk := bcl hb (w.heap.size + 1) (by first | omega | (simp; done) | (simp; omega)); have hc := hk.1; have hf := hk.2.1; have hk := hk.2.2)))
      have HPv := Lib.hid (HP.out.below (show Below w.heap.size w wv by (repeat' (first | (with_reducible exact Below.refl _ _) | (with_reducible assumption) | (with_reducible refine Below.alloc ?_ ?_ _) | (with_reducible refine below_drewN ?_ _) | (with_reducible refine Below.drew ?_) | (with_reducible refine Below.setCell ?_ ?_ _) | (with_reducible refine below_call (by assumption) ?_ ?_) | (with_reducible refine below_grown (by assumption) ?_ ?_ ?_) | omega | (simp; done) | (simp; omega)))))
      have hx2 : wv.cell? ⟨b0, o0 + i1, none⟩ = some (.int .i64 y) := ((show Below w.heap.size w wv by (repeat' (first | (with_reducible exact Below.refl _ _) | (with_reducible assumption) | (with_reducible refine Below.alloc ?_ ?_ _) | (with_reducible refine below_drewN ?_ _) | (with_reducible refine Below.drew ?_) | (with_reducible refine Below.setCell ?_ ?_ _) | (with_reducible refine below_call (by assumption) ?_ ?_) | (with_reducible refine below_grown (by assumption) ?_ ?_ ?_) | omega | (simp; done) | (simp; omega)))).cell (p := ⟨b0, o0 + i1, none⟩) hbl0).trans x0
      have hbl2 : b0 < wv.heap.size := by omega
      have hk0 := blk_below (blk_alloc (blk_new w (.cells #[.slice (some ⟨b0, o0, none⟩) 16 c, .int .i64 t, .int .i64 b] 56)) (.cells #[.slice none 0 0, .int .i64 0, .int .i64 0] 56)) hb
      have hk1 := blk_below (blk_new1 w (.cells #[.slice (some ⟨b0, o0, none⟩) 16 c, .int .i64 t, .int .i64 b] 56) (.cells #[.slice none 0 0, .int .i64 0, .int .i64 0] 56)) hb
      have hkc0 := blk_cell hk0
      have hkl0 := blk_lt hk0
      have hkc1 := blk_cell hk1
      have hkf1 := blk_free hk1
      have hkl1 := blk_lt hk1
      have hbv := hb
      have hrb : w.heap.size + 1 < wv.heap.size := hkl1
      have hne0 : ∀ a : Addr, some (⟨b0, o0, none⟩ : Addr) = some a → a.block ≠ w.heap.size + 1 := fun a e => by cases e; simp; omega
      clear hk0 x0 hb
      apply wp_region_sto (w.heap.size + 1) 56 3 (HQ wv.heap.size (set16 l P (-1)) t P) (by kernel_rfl) ([] :: [0] :: [] :: [1, 2] :: [] :: [4] :: [] :: [3, 5, 6] :: [] :: [8] :: [] :: [10] :: [9, 11] :: [12] :: [7] :: []) (RS.det [] _ :: RS.det [0] _ :: RS.det [] _ :: RS.q [1, 2] (SlJ wv.heap.size (set16 l P (-1))) :: RS.det [] _ :: RS.det [4] _ :: RS.det [] _ :: RS.q [3, 5, 6] (AgQ wv.heap.size (set16 l P (-1)) t P) :: RS.det [] _ :: RS.det [8] _ :: RS.det [] _ :: RS.det [10] _ :: RS.det [9, 11] _ :: RS.det [12] _ :: RS.q [7] (fun _ w' => Good (w.heap.size + 1) 56 3 (HQ wv.heap.size (set16 l P (-1)) t P) w') :: []) [] rfl (by kernel_rfl) (fun h => absurd rfl h) (by kernel_rfl) (by kernel_rfl) (st_det (st_det (st_det (st_q (fun _ _ _ hR h => SlJ.grown hrb hR.1 h) (st_det (st_det (st_det (st_q (fun _ _ _ hR h => AgQ.grown hrb hR.1 h) (st_det (st_det (st_det (st_det (st_det (st_det (st_good (HQ.grown hrb) st_nil))))))))))))))) _ (fun v => by simp; rfl)
      case h0 => exact ⟨_, hk1, rfl⟩
      case hop =>
        simp only [OblsS]
        refine ⟨?_, ?_, ?_, ?_, ?_, ?_, ?_, ?_, ?_, ?_, ?_, ?_, ?_, ?_, ?_, trivial⟩
        · (intro v w1 K hg hr0 hF hK; (try simp at hF); simp at hK; (try simp only [hF] at hK); have hz := hg.size; (try simp at hz))
          go_simp
          (try simp only [])
          exact hK _ _ rfl (RG.of (by (repeat' (first | (with_reducible exact Below.refl _ _) | (with_reducible assumption) | (with_reducible refine Below.alloc ?_ ?_ _) | (with_reducible refine below_drewN ?_ _) | (with_reducible refine Below.drew ?_) | (with_reducible refine Below.setCell ?_ ?_ _) | (with_reducible refine below_call (by assumption) ?_ ?_) | go_size))) hr0)
        · (intro v w1 K hg hr0 hF hK; (try simp at hF); simp at hK; (try simp only [hF] at hK); have hz := hg.size; (try simp at hz); (try (have hk := gcl hg (w.heap.size) (by first | omega | (simp; done) | (simp; omega)) (by first | omega | (simp; omega)); have hc := hk.1; have hf := hk.2.1; have hk := hk.2.2)); (try (have hk := gcl hg (b0) (by first | omega | (simp; done) | (simp; omega)) (by first | omega | (simp; omega)); have hc := hk.1; have hf := hk.2.1; have hk := hk.2.2)))
          go_simp
          (try simp only [])
          exact hK _ _ rfl (RG.of (by (repeat' (first | (with_reducible exact Below.refl _ _) | (with_reducible assumption) | (with_reducible refine Below.alloc ?_ ?_ _) | (with_reducible refine below_drewN ?_ _) | (with_reducible refine Below.drew ?_) | (with_reducible refine Below.setCell ?_ ?_ _) | (with_reducible refine below_call (by assumption) ?_ ?_) | go_size))) hr0)
        · (intro v w1 K hg hr0 hF hK; (try simp at hF); simp at hK; (try simp only [hF] at hK); have hz := hg.size; (try simp at hz))
          go_simp
          (try simp only [])
          exact hK _ _ rfl (RG.of (by (repeat' (first | (with_reducible exact Below.refl _ _) | (with_reducible assumption) | (with_reducible refine Below.alloc ?_ ?_ _) | (with_reducible refine below_drewN ?_ _) | (with_reducible refine Below.drew ?_) | (with_reducible refine Below.setCell ?_ ?_ _) | (with_reducible refine below_call (by assumption) ?_ ?_) | go_size))) hr0)
        · (intro v w1 K hg hr0 hF hK; (try simp at hF); simp at hK; (try simp only [hF] at hK); have hz := hg.size; (try simp at hz); (try (have hk := gcl hg (w.heap.size) (by first | omega | (simp; done) | (simp; omega)) (by first | omega | (simp; omega)); have hc := hk.1; have hf := hk.2.1; have hk := hk.2.2)); (try (have hk := gcl hg (b0) (by first | omega | (simp; done) | (simp; omega)) (by first | omega | (simp; omega)); have hc := hk.1; have hf := hk.2.1; have hk := hk.2.2)))
          go_simp
          (first | (go_at_call 31; refine (withSlot_any c (HPv.out.below' hg hne0) (by omega) hB1).mono ?_; rintro e w2 ⟨B2, d2, rfl, hown, hb⟩) | skip)
          (try simp only [])
          exact hK _ _ (⟨_, _, rfl, hown.lower hg.size⟩) (RG.of (by (repeat' (first | (with_reducible exact Below.refl _ _) | (with_reducible assumption) | (with_reducible refine Below.alloc ?_ ?_ _) | (with_reducible refine below_drewN ?_ _) | (with_reducible refine Below.drew ?_) | (with_reducible refine Below.setCell ?_ ?_ _) | (with_reducible refine below_call (by assumption) ?_ ?_) | go_size))) hr0)
        · (intro v w1 K hg hr0 hF hK; (try simp at hF); simp at hK; (try simp only [hF] at hK); have hz := hg.size; (try simp at hz))
          go_simp
          (try simp only [])
          exact hK _ _ rfl (RG.of (by (repeat' (first | (with_reducible exact Below.refl _ _) | (with_reducible assumption) | (with_reducible refine Below.alloc ?_ ?_ _) | (with_reducible refine below_drewN ?_ _) | (with_reducible refine Below.drew ?_) | (with_reducible refine Below.setCell ?_ ?_ _) | (with_reducible refine below_call (by assumption) ?_ ?_) | go_size))) hr0)
        · (intro v w1 K hg hr0 hF hK; (try simp at hF); simp at hK; (try simp only [hF] at hK); have hz := hg.size; (try simp at hz); (try (have hk := gcl hg (w.heap.size) (by first | omega | (simp; done) | (simp; omega)) (by first | omega | (simp; omega)); have hc := hk.1; have hf := hk.2.1; have hk := hk.2.2)); (try (have hk := gcl hg (b0) (by first | omega | (simp; done) | (simp; omega)) (by first | omega | (simp; omega)); have hc := hk.1; have hf := hk.2.1; have hk := hk.2.2)))
          go_simp
          (try simp only [])
          exact hK _ _ rfl (RG.of (by (repeat' (first | (with_reducible exact Below.refl _ _) | (with_reducible assumption) | (with_reducible refine Below.alloc ?_ ?_ _) | (with_reducible refine below_drewN ?_ _) | (with_reducible refine Below.drew ?_) | (with_reducible refine Below.setCell ?_ ?_ _) | (with_reducible refine below_call (by assumption) ?_ ?_) | go_size))) hr0)
        · (intro v w1 K hg hr0 hF hK; (try simp at hF); simp at hK; (try simp only [hF] at hK); have hz := hg.size; (try simp at hz))
          go_simp
          (try simp only [])
          exact hK _ _ rfl (RG.of (by (repeat' (first | (with_reducible exact Below.refl _ _) | (with_reducible assumption) | (with_reducible refine Below.alloc ?_ ?_ _) | (with_reducible refine below_drewN ?_ _) | (with_reducible refine Below.drew ?_) | (with_reducible refine Below.setCell ?_ ?_ _) | (with_reducible refine below_call (by assumption) ?_ ?_) | go_size))) hr0)
        · (intro v w1 K hg hr0 hF hK; (try simp at hF); simp at hK; (try simp only [hF] at hK); have hz := hg.size; (try simp at hz); (try (have hk := gcl hg (w.heap.size) (by first | omega | (simp; done) | (simp; omega)) (by first | omega | (simp; omega)); have hc := hk.1; have hf := hk.2.1; have hk := hk.2.2)); (try (have hk := gcl hg (b0) (by first | omega | (simp; done) | (simp; omega)) (by first | omega | (simp; omega)); have hc := hk.1; have hf := hk.2.1; have hk := hk.2.2)))
          obtain ⟨⟨B2, d2, f3, ho⟩, f5, f6⟩ := hF
          (try simp only [f3, f5, f6] at hK)
          go_simp
          (first | (go_at_call 31; refine (withSlot_any c (HPv.out.below' hg hne0) (by omega) hB1).mono ?_; rintro e w2 ⟨B2, d2, rfl, hown, hb⟩) | skip)
          (try simp only [])
          exact hK _ _ (⟨_, _, rfl, ho⟩) (RG.of (by (repeat' (first | (with_reducible exact Below.refl _ _) | (with_reducible assumption) | (with_reducible refine Below.alloc ?_ ?_ _) | (with_reducible refine below_drewN ?_ _) | (with_reducible refine Below.drew ?_) | (with_reducible refine Below.setCell ?_ ?_ _) | (with_reducible refine below_call (by assumption) ?_ ?_) | go_size))) hr0)
        · (intro v w1 K hg hr0 hF hK; (try simp at hF); simp at hK; (try simp only [hF] at hK); have hz := hg.size; (try simp at hz))
          go_simp
          (try simp only [])
          exact hK _ _ rfl (RG.of (by (repeat' (first | (with_reducible exact Below.refl _ _) | (with_reducible assumption) | (with_reducible refine Below.alloc ?_ ?_ _) | (with_reducible refine below_drewN ?_ _) | (with_reducible refine Below.drew ?_) | (with_reducible refine Below.setCell ?_ ?_ _) | (with_reducible refine below_call (by assumption) ?_ ?_) | go_size))) hr0)
        · (intro v w1 K hg hr0 hF hK; (try simp at hF); simp at hK; (try simp only [hF] at hK); have hz := hg.size; (try simp at hz); (try (have hk := gcl hg (w.heap.size) (by first | omega | (simp; done) | (simp; omega)) (by first | omega | (simp; omega)); have hc := hk.1; have hf := hk.2.1; have hk := hk.2.2)); (try (have hk := gcl hg (b0) (by first | omega | (simp; done) | (simp; omega)) (by first | omega | (simp; omega)); have hc := hk.1; have hf := hk.2.1; have hk := hk.2.2)))
          go_simp
          (try simp only [])
          exact hK _ _ rfl (RG.of (by (repeat' (first | (with_reducible exact Below.refl _ _) | (with_reducible assumption) | (with_reducible refine Below.alloc ?_ ?_ _) | (with_reducible refine below_drewN ?_ _) | (with_reducible refine Below.drew ?_) | (with_reducible refine Below.setCell ?_ ?_ _) | (with_reducible refine below_call (by assumption) ?_ ?_) | go_size))) hr0)
        · (intro v w1 K hg hr0 hF hK; (try simp at hF); simp at hK; (try simp only [hF] at hK); have hz := hg.size; (try simp at hz))
          go_simp
          (try simp only [])
          exact hK _ _ rfl (RG.of (by (repeat' (first | (with_reducible exact Below.refl _ _) | (with_reducible assumption) | (with_reducible refine Below.alloc ?_ ?_ _) | (with_reducible refine below_drewN ?_ _) | (with_reducible refine Below.drew ?_) | (with_reducible refine Below.setCell ?_ ?_ _) | (with_reducible refine below_call (by assumption) ?_ ?_) | go_size))) hr0)
        · (intro v w1 K hg hr0 hF hK; (try simp at hF); simp at hK; (try simp only [hF] at hK); have hz := hg.size; (try simp at hz))
          go_simp
          (try simp only [])
          exact hK _ _ rfl (RG.of (by (repeat' (first | (with_reducible exact Below.refl _ _) | (with_reducible assumption) | (with_reducible refine Below.alloc ?_ ?_ _) | (with_reducible refine below_drewN ?_ _) | (with_reducible refine Below.drew ?_) | (with_reducible refine Below.setCell ?_ ?_ _) | (with_reducible refine below_call (by assumption) ?_ ?_) | go_size))) hr0)
        · (intro v w1 K hg hr0 hF hK; (try simp at hF); simp at hK; (try simp only [hF] at hK); have hz := hg.size; (try simp at hz))
          go_simp
          (try simp only [])
          exact hK _ _ rfl (RG.of (by (repeat' (first | (with_reducible exact Below.refl _ _) | (with_reducible assumption) | (with_reducible refine Below.alloc ?_ ?_ _) | (with_reducible refine below_drewN ?_ _) | (with_reducible refine Below.drew ?_) | (with_reducible refine Below.setCell ?_ ?_ _) | (with_reducible refine below_call (by assumption) ?_ ?_) | go_size))) hr0)
        · (intro v w1 K hg hr0 hF hK; (try simp at hF); simp at hK; (try simp only [hF] at hK); have hz := hg.size; (try simp at hz); (try (have hk := gcl hg (w.heap.size) (by first | omega | (simp; done) | (simp; omega)) (by first | omega | (simp; omega)); have hc := hk.1; have hf := hk.2.1; have hk := hk.2.2)); (try (have hk := gcl hg (b0) (by first | omega | (simp; done) | (simp; omega)) (by first | omega | (simp; omega)); have hc := hk.1; have hf := hk.2.1; have hk := hk.2.2)))
          go_simp
          (try simp only [])
          exact hK _ _ rfl (RG.of (by (repeat' (first | (with_reducible exact Below.refl _ _) | (with_reducible assumption) | (with_reducible refine Below.alloc ?_ ?_ _) | (with_reducible refine below_drewN ?_ _) | (with_reducible refine Below.drew ?_) | (with_reducible refine Below.setCell ?_ ?_ _) | (with_reducible refine below_call (by assumption) ?_ ?_) | go_size))) hr0)
        · (intro v w1 K hg hr0 hF hK; (try simp at hF); simp at hK; (try simp only [hF] at hK); have hz := hg.size; (try simp at hz))
          obtain ⟨A2, c2, f7, ho2⟩ := hF
          (try simp only [f7] at hK)
          obtain ⟨cs, hcs0, hcs1⟩ := hr0
          obtain ⟨x0, x1, x2, rfl⟩ := arr3 hcs1
          have hcc := blk_cell hcs0; have hff := blk_free hcs0; have hll := blk_lt hcs0
          go_simp
          (try simp only [])
          have hgd := HQ.store (t := t) (b := (P : Int)) hrb hcs0 ho2; exact hK (.bool true) _ hgd (RG.sto hgd)
      case hfo => exact trivial
      (intro v w1 hg hF; simp [List.range, List.range.loop] at hF; have hz := hg.size; (try simp at hz); (try (have hk := gcl hg (w.heap.size) (by first | omega | (simp; done) | (simp; omega)) (by first | omega | (simp; omega)); have hc := hk.1; have hf := hk.2.1; have hk := hk.2.2)); (try (have hk := gcl hg (b0) (by first | omega | (simp; done) | (simp; omega)) (by first | omega | (simp; omega)); have hc := hk.1; have hf := hk.2.1; have hk := hk.2.2)))
      obtain ⟨e0, e1, e2, ⟨B2, d2, e3, ho⟩, e4, e5, e6, ⟨A2, c2, e7, ho2⟩, e8, e9, e10, e11, e12, e13, hst⟩ := hF
      have hgood : Good (w.heap.size + 1) 56 3 (HQ wv.heap.size (set16 l P (-1)) t P) w1 := hst; clear hst
      simp only [List.length_cons, List.length_nil, List.drop_succ_cons, List.drop_zero, e0, e1, e2, e3, e4, e5, e6, e7, e8, e9, e10, e11, e12, e13]
      clear e0 e1 e2 e3 e4 e5 e6 e7 e8 e9 e10 e11 e12 e13 v
      obtain ⟨cs, hcs0, _, A5, c5, rfl, ho5⟩ := hgood
      have hcc := blk_cell hcs0
      have hff := blk_free hcs0
      have hll := blk_lt hcs0
      have HO5 := Lib.hid ho5
      have B1 : Hid (Below w.heap.size w w1) := Lib.hid (below_own hg (show Below w.heap.size w wv by (repeat' (first | (with_reducible exact Below.refl _ _) | (with_reducible assumption) | (with_reducible refine Below.alloc ?_ ?_ _) | (with_reducible refine below_drewN ?_ _) | (with_reducible refine Below.drew ?_) | (with_reducible refine Below.setCell ?_ ?_ _) | (with_reducible refine below_call (by assumption) ?_ ?_) | (with_reducible refine below_grown (by assumption) ?_ ?_ ?_) | omega | (simp; done) | (simp; omega)))) (by omega) (fun g hg => by cases hg; omega))
      clear hcs0 ho5 ho ho2
      go_wp2
      ((try simp only [Exit.inBlock, Exit.then]); refine bodyPost_ret (by simp [results, Try.results27, go_sem, *]; try rfl) rfl ?_)
      rw [R1.out, R2.out, HA.out, HY.out]
      have hlen : (set16 l P (-1)).length = 16 := by rw [set16_len, HL.out]
      refine ⟨A5, c5, by rw [hlen], ?_, by have := B1.out; (repeat' (first | (with_reducible exact Below.refl _ _) | (with_reducible assumption) | (with_reducible refine Below.alloc ?_ ?_ _) | (with_reducible refine below_drewN ?_ _) | (with_reducible refine Below.drew ?_) | (with_reducible refine Below.setCell ?_ ?_ _) | (with_reducible refine below_call (by assumption) ?_ ?_) | (with_reducible refine below_grown (by assumption) ?_ ?_ ?_) | omega | (simp; done) | (simp; omega)))⟩
      rw [hlen]
      exact (OwnJ.heap HO5.out (fun g hg => rfl)).lower (by omega)

end Go.Proofs.Ytadpmigppjjmhaa
