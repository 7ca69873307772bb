/-
  Halves of curves, of the reference; SplitCurve.
-/
import Derived.Test.YtmojbcnldipdgaaSplit
namespace Go.Proofs.Ytmojbcnldipdgaa
open Go.RowKit Pl

set_option linter.unusedSimpArgs false
set_option linter.unusedVariables false

set_option maxHeartbeats 1000000 in
theorem middle_eq {a b c d x y : Int} (h1 : -1000 ≤ a ∧ a ≤ 1000) (h2 : -1000 ≤ b ∧ b ≤ 1000) (h3 : -1000 ≤ c ∧ c ≤ 1000) (h4 : -1000 ≤ d ∧ d ≤ 1000) (hx : (a + c) / 2 = x) (hy : (b + d) / 2 = y) (w : World) :
    Calls Try.prog 39 #[.agg #[.int .i64 a, .int .i64 b], .agg #[.int .i64 c, .int .i64 d]] w fun e w' => e = .returned (.agg #[.int .i64 x, .int .i64 y]) ∧ Below w.heap.size w w' := by
  have H1 := Lib.hid hx
  have H2 := Lib.hid hy
  have s1 : IntKind.i64.wrap (a + c) = a + c := IntWalk.i64_in _ (by omega)
  have s2 : IntKind.i64.wrap (b + d) = b + d := IntWalk.i64_in _ (by omega)
  clear hx hy
  go_enter Try.func39, Try.ntmps39
  go_wp2_with fail
  apply wp_region_pure (by kernel_rfl) ([] :: [0] :: [] :: [2] :: [1, 3] :: [4] :: [] :: [6] :: [] :: [8] :: [7, 9] :: [10] :: [5, 11] :: []) (RS.det [] _ :: RS.det [0] _ :: RS.det [] _ :: RS.det [2] _ :: RS.det [1, 3] _ :: RS.det [4] _ :: RS.det [] _ :: RS.det [6] _ :: RS.det [] _ :: RS.det [8] _ :: RS.det [7, 9] _ :: RS.det [10] _ :: RS.det [5, 11] _ :: []) [] rfl (by kernel_rfl) (fun h => absurd rfl h) (by kernel_rfl) (by kernel_rfl) (st_det (st_det (st_det (st_det (st_det (st_det (st_det (st_det (st_det (st_det (st_det (st_det (st_det st_nil))))))))))))) _ (fun v => by simp; rfl)
  case hop =>
    simp only [Obls]
    refine ⟨?_, ?_, ?_, ?_, ?_, ?_, ?_, ?_, ?_, ?_, ?_, ?_, ?_, trivial⟩
    · (intro v w1 K hb hF hK; (try simp at hF); simp at hK; (try simp only [hF] at hK); have hz := hb.size; (try simp at hz))
      go_simp
      (try simp only [])
      exact hK _ _ rfl (by (repeat' (first | (with_reducible exact Below.refl _ _) | (with_reducible assumption) | (with_reducible refine Below.alloc ?_ ?_ _) | (with_reducible refine below_drewN ?_ _) | (with_reducible refine Below.drew ?_) | (with_reducible refine Below.setCell ?_ ?_ _) | (with_reducible refine below_call (by assumption) ?_ ?_) | go_size)))
    · (intro v w1 K hb hF hK; (try simp at hF); simp at hK; (try simp only [hF] at hK); have hz := hb.size; (try simp at hz); (try (have hk := bcl hb (w.heap.size) (by first | omega | (simp; done) | (simp; omega)); have hc := hk.1; have hf := hk.2.1; have hk := hk.2.2)); (try (have hk := bcl hb (w.heap.size + 1) (by first | omega | (simp; done) | (simp; omega)); have hc := hk.1; have hf := hk.2.1; have hk := hk.2.2)); (try (have hk := bcl hb (w.heap.size + 1 + 1) (by first | omega | (simp; done) | (simp; omega)); have hc := hk.1; have hf := hk.2.1; have hk := hk.2.2)))
      go_simp
      (try simp only [])
      exact hK _ _ rfl (by (repeat' (first | (with_reducible exact Below.refl _ _) | (with_reducible assumption) | (with_reducible refine Below.alloc ?_ ?_ _) | (with_reducible refine below_drewN ?_ _) | (with_reducible refine Below.drew ?_) | (with_reducible refine Below.setCell ?_ ?_ _) | (with_reducible refine below_call (by assumption) ?_ ?_) | go_size)))
    · (intro v w1 K hb hF hK; (try simp at hF); simp at hK; (try simp only [hF] at hK); have hz := hb.size; (try simp at hz))
      go_simp
      (try simp only [])
      exact hK _ _ rfl (by (repeat' (first | (with_reducible exact Below.refl _ _) | (with_reducible assumption) | (with_reducible refine Below.alloc ?_ ?_ _) | (with_reducible refine below_drewN ?_ _) | (with_reducible refine Below.drew ?_) | (with_reducible refine Below.setCell ?_ ?_ _) | (with_reducible refine below_call (by assumption) ?_ ?_) | go_size)))
    · (intro v w1 K hb hF hK; (try simp at hF); simp at hK; (try simp only [hF] at hK); have hz := hb.size; (try simp at hz); (try (have hk := bcl hb (w.heap.size) (by first | omega | (simp; done) | (simp; omega)); have hc := hk.1; have hf := hk.2.1; have hk := hk.2.2)); (try (have hk := bcl hb (w.heap.size + 1) (by first | omega | (simp; done) | (simp; omega)); have hc := hk.1; have hf := hk.2.1; have hk := hk.2.2)); (try (have hk := bcl hb (w.heap.size + 1 + 1) (by first | omega | (simp; done) | (simp; omega)); have hc := hk.1; have hf := hk.2.1; have hk := hk.2.2)))
      go_simp
      (try simp only [])
      exact hK _ _ rfl (by (repeat' (first | (with_reducible exact Below.refl _ _) | (with_reducible assumption) | (with_reducible refine Below.alloc ?_ ?_ _) | (with_reducible refine below_drewN ?_ _) | (with_reducible refine Below.drew ?_) | (with_reducible refine Below.setCell ?_ ?_ _) | (with_reducible refine below_call (by assumption) ?_ ?_) | go_size)))
    · (intro v w1 K hb hF hK; (try simp at hF); simp at hK; (try simp only [hF] at hK); have hz := hb.size; (try simp at hz))
      go_simp
      (try simp only [])
      exact hK _ _ rfl (by (repeat' (first | (with_reducible exact Below.refl _ _) | (with_reducible assumption) | (with_reducible refine Below.alloc ?_ ?_ _) | (with_reducible refine below_drewN ?_ _) | (with_reducible refine Below.drew ?_) | (with_reducible refine Below.setCell ?_ ?_ _) | (with_reducible refine below_call (by assumption) ?_ ?_) | go_size)))
    · (intro v w1 K hb hF hK; (try simp at hF); simp at hK; (try simp only [hF] at hK); have hz := hb.size; (try simp at hz); (try (have hk := bcl hb (w.heap.size) (by first | omega | (simp; done) | (simp; omega)); have hc := hk.1; have hf := hk.2.1; have hk := hk.2.2)); (try (have hk := bcl hb (w.heap.size + 1) (by first | omega | (simp; done) | (simp; omega)); have hc := hk.1; have hf := hk.2.1; have hk := hk.2.2)); (try (have hk := bcl hb (w.heap.size + 1 + 1) (by first | omega | (simp; done) | (simp; omega)); have hc := hk.1; have hf := hk.2.1; have hk := hk.2.2)))
      go_simp
      (first | (go_at_call 42; (with_reducible refine (floorDiv_eq (by omega) (by omega) (by omega) (by omega) (Hid.out (by with_reducible assumption)) _).mono ?_); rintro e w1 ⟨rfl, rfl⟩) | skip)
      (try simp only [])
      exact hK _ _ rfl (by (repeat' (first | (with_reducible exact Below.refl _ _) | (with_reducible assumption) | (with_reducible refine Below.alloc ?_ ?_ _) | (with_reducible refine below_drewN ?_ _) | (with_reducible refine Below.drew ?_) | (with_reducible refine Below.setCell ?_ ?_ _) | (with_reducible refine below_call (by assumption) ?_ ?_) | go_size)))
    · (intro v w1 K hb hF hK; (try simp at hF); simp at hK; (try simp only [hF] at hK); have hz := hb.size; (try simp at hz))
      go_simp
      (try simp only [])
      exact hK _ _ rfl (by (repeat' (first | (with_reducible exact Below.refl _ _) | (with_reducible assumption) | (with_reducible refine Below.alloc ?_ ?_ _) | (with_reducible refine below_drewN ?_ _) | (with_reducible refine Below.drew ?_) | (with_reducible refine Below.setCell ?_ ?_ _) | (with_reducible refine below_call (by assumption) ?_ ?_) | go_size)))
    · (intro v w1 K hb hF hK; (try simp at hF); simp at hK; (try simp only [hF] at hK); have hz := hb.size; (try simp at hz); (try (have hk := bcl hb (w.heap.size) (by first | omega | (simp; done) | (simp; omega)); have hc := hk.1; have hf := hk.2.1; have hk := hk.2.2)); (try (have hk := bcl hb (w.heap.size + 1) (by first | omega | (simp; done) | (simp; omega)); have hc := hk.1; have hf := hk.2.1; have hk := hk.2.2)); (try (have hk := bcl hb (w.heap.size + 1 + 1) (by first | omega | (simp; done) | (simp; omega)); have hc := hk.1; have hf := hk.2.1; have hk := hk.2.2)))
      go_simp
      (try simp only [])
      exact hK _ _ rfl (by (repeat' (first | (with_reducible exact Below.refl _ _) | (with_reducible assumption) | (with_reducible refine Below.alloc ?_ ?_ _) | (with_reducible refine below_drewN ?_ _) | (with_reducible refine Below.drew ?_) | (with_reducible refine Below.setCell ?_ ?_ _) | (with_reducible refine below_call (by assumption) ?_ ?_) | go_size)))
    · (intro v w1 K hb hF hK; (try simp at hF); simp at hK; (try simp only [hF] at hK); have hz := hb.size; (try simp at hz))
      go_simp
      (try simp only [])
      exact hK _ _ rfl (by (repeat' (first | (with_reducible exact Below.refl _ _) | (with_reducible assumption) | (with_reducible refine Below.alloc ?_ ?_ _) | (with_reducible refine below_drewN ?_ _) | (with_reducible refine Below.drew ?_) | (with_reducible refine Below.setCell ?_ ?_ _) | (with_reducible refine below_call (by assumption) ?_ ?_) | go_size)))
    · (intro v w1 K hb hF hK; (try simp at hF); simp at hK; (try simp only [hF] at hK); have hz := hb.size; (try simp at hz); (try (have hk := bcl hb (w.heap.size) (by first | omega | (simp; done) | (simp; omega)); have hc := hk.1; have hf := hk.2.1; have hk := hk.2.2)); (try (have hk := bcl hb (w.heap.size + 1) (by first | omega | (simp; done) | (simp; omega)); have hc := hk.1; have hf := hk.2.1; have hk := hk.2.2)); (try (have hk := bcl hb (w.heap.size + 1 + 1) (by first | omega | (simp; done) | (simp; omega)); have hc := hk.1; have hf := hk.2.1; have hk := hk.2.2)))
      go_simp
      (try simp only [])
      exact hK _ _ rfl (by (repeat' (first | (with_reducible exact Below.refl _ _) | (with_reducible assumption) | (with_reducible refine Below.alloc ?_ ?_ _) | (with_reducible refine below_drewN ?_ _) | (with_reducible refine Below.drew ?_) | (with_reducible refine Below.setCell ?_ ?_ _) | (with_reducible refine below_call (by assumption) ?_ ?_) | go_size)))
    · (intro v w1 K hb hF hK; (try simp at hF); simp at hK; (try simp only [hF] at hK); have hz := hb.size; (try simp at hz))
      go_simp
      (try simp only [])
      exact hK _ _ rfl (by (repeat' (first | (with_reducible exact Below.refl _ _) | (with_reducible assumption) | (with_reducible refine Below.alloc ?_ ?_ _) | (with_reducible refine below_drewN ?_ _) | (with_reducible refine Below.drew ?_) | (with_reducible refine Below.setCell ?_ ?_ _) | (with_reducible refine below_call (by assumption) ?_ ?_) | go_size)))
    · (intro v w1 K hb hF hK; (try simp at hF); simp at hK; (try simp only [hF] at hK); have hz := hb.size; (try simp at hz); (try (have hk := bcl hb (w.heap.size) (by first | omega | (simp; done) | (simp; omega)); have hc := hk.1; have hf := hk.2.1; have hk := hk.2.2)); (try (have hk := bcl hb (w.heap.size + 1) (by first | omega | (simp; done) | (simp; omega)); have hc := hk.1; have hf := hk.2.1; have hk := hk.2.2)); (try (have hk := bcl hb (w.heap.size + 1 + 1) (by first | omega | (simp; done) | (simp; omega)); have hc := hk.1; have hf := hk.2.1; have hk := hk.2.2)))
      go_simp
      (first | (go_at_call 42; (with_reducible refine (floorDiv_eq (by omega) (by omega) (by omega) (by omega) (Hid.out (by with_reducible assumption)) _).mono ?_); rintro e w1 ⟨rfl, rfl⟩) | skip)
      (try simp only [])
      exact hK _ _ rfl (by (repeat' (first | (with_reducible exact Below.refl _ _) | (with_reducible assumption) | (with_reducible refine Below.alloc ?_ ?_ _) | (with_reducible refine below_drewN ?_ _) | (with_reducible refine Below.drew ?_) | (with_reducible refine Below.setCell ?_ ?_ _) | (with_reducible refine below_call (by assumption) ?_ ?_) | go_size)))
    · (intro v w1 K hb hF hK; (try simp at hF); simp at hK; (try simp only [hF] at hK); have hz := hb.size; (try simp at hz))
      go_simp
      (try simp only [])
      exact hK _ _ rfl (by (repeat' (first | (with_reducible exact Below.refl _ _) | (with_reducible assumption) | (with_reducible refine Below.alloc ?_ ?_ _) | (with_reducible refine below_drewN ?_ _) | (with_reducible refine Below.drew ?_) | (with_reducible refine Below.setCell ?_ ?_ _) | (with_reducible refine below_call (by assumption) ?_ ?_) | go_size)))
  case hfo => exact trivial
  (intro v w1 hb hF; simp [List.range, List.range.loop] at hF; have hz := hb.size; (try simp at hz); (try (have hk := bcl hb (w.heap.size) (by first | omega | (simp; done) | (simp; omega)); have hc := hk.1; have hf := hk.2.1; have hk := hk.2.2)); (try (have hk := bcl hb (w.heap.size + 1) (by first | omega | (simp; done) | (simp; omega)); have hc := hk.1; have hf := hk.2.1; have hk := hk.2.2)); (try (have hk := bcl hb (w.heap.size + 1 + 1) (by first | omega | (simp; done) | (simp; omega)); have hc := hk.1; have hf := hk.2.1; have hk := hk.2.2)))
  obtain ⟨e0, e1, e2, e3, e4, e5, e6, e7, e8, e9, e10, e11, e12⟩ := hF
  simp only [List.length_cons, List.length_nil, List.drop_succ_cons, List.drop_zero, e0, e1, e2, e3, e4, e5, e6, e7, e8, e9, e10, e11, e12]
  clear e0 e1 e2 e3 e4 e5 e6 e7 e8 e9 e10 e11 e12 v
  go_wp2
  ((try simp only [Exit.inBlock, Exit.then]); refine bodyPost_ret (by simp [results, Try.results39, go_sem, *]; try rfl) rfl ?_)
  exact ⟨rfl, by (repeat' (first | (with_reducible exact Below.refl _ _) | (with_reducible assumption) | (with_reducible refine Below.alloc ?_ ?_ _) | (with_reducible refine below_drewN ?_ _) | (with_reducible refine Below.drew ?_) | (with_reducible refine Below.setCell ?_ ?_ _) | (with_reducible refine below_call (by assumption) ?_ ?_) | (with_reducible refine below_grown (by assumption) ?_ ?_ ?_) | omega | (simp; done) | (simp; omega)))⟩

set_option maxHeartbeats 4000000 in
theorem ssplit_any {A : Option Addr} {n : Nat} {l : List Pt} {w : World} (c : Nat) (h : IsPts w A n l) (hc : curveB l = true) :
    Calls Try.prog 29 #[.slice A n c] w (fun e w' => ∃ v u, e = .returned (.tuple #[v, u]) ∧ OwnPts w.heap.size w' v (leftL l) ∧ OwnPts w.heap.size w' u (rightL l) ∧ Below w.heap.size w w') := by
  obtain ⟨p1, p2, p3⟩ := curveB_parts hc
  have hl := h.1
  rw [hl] at p1 p2
  have HP := Lib.hid h
  have HL := Lib.hid hl
  have HV := Lib.hid p3
  clear h hc hl p3
  obtain ⟨q0, hq0⟩ : ∃ q, q + 1 = n := ⟨n - 1, by omega⟩
  obtain ⟨b, o, e0, hbl, c0, c1⟩ := HP.out.at_ (k := 0) (by omega)
  subst e0
  obtain ⟨b', o', e, _, c2, c3⟩ := HP.out.at_ (k := q0) (by omega)
  cases e
  simp only [Nat.zero_mul, Nat.add_zero] at c0 c1
  have hki : (0 : Int) < n := by omega
  have hqi : (q0 : Int) < n := by omega
  have t1 : IntKind.i64.wrap ((n : Int) - 1) = (q0 : Int) := (IntWalk.i64_in _ (by omega)).trans (by omega)
  have F0 : Hid ([(px l 0, py l 0)] = tab 1 fun j => dc l j 0) := Lib.hid rfl
  have F1 : Hid ([(px l q0, py l q0)] = backL l 0) := Lib.hid (by rw [backL_zero, HL.out, show n - 1 = q0 by omega]; rfl)
  go_enter Try.func29, Try.ntmps29
  go_wp2
  have E1 : Hid (OwnPts w.heap.size (w.alloc (.cells #[.int .i64 (px l 0), .int .i64 (py l 0)] 41)) (.slice (some ⟨w.heap.size, 0, none⟩) 1 1) (tab 1 fun j => dc l j 0)) := Lib.hid (by rw [← F0.out]; exact OwnPts.made rfl (Nat.le_refl _) (blk_new w _) rfl (by omega) rfl)
  have E2 := Lib.hid (OwnPts.made (base := w.heap.size) (l := [(px l q0, py l q0)]) (n := 1) rfl (by omega) (blk_new1 w (.cells #[.int .i64 (px l 0), .int .i64 (py l 0)] 41) (.cells #[.int .i64 (px l q0), .int .i64 (py l q0)] 41)) rfl (by omega) rfl)
  go_loopw [4, 5, 6] (fun f s now wr => ∃ (k : Nat) (A' : Option Addr) (c' : Nat), k < n ∧ now = .slice A' (n - k) c' ∧ IsPts wr A' (n - k) (rowL l k) ∧ Sep (blkA A') f.ownBlock ∧ Sep (blkA A') s.ownBlock ∧ Sep f.ownBlock s.ownBlock ∧
      OwnPts w.heap.size wr f (tab (k + 1) fun j => dc l j 0) ∧ OwnPts w.heap.size wr s (backL l k) ∧ Below w.heap.size w wr) (fun _ _ now _ => slen now)
  case atStart => exact ⟨0, some ⟨b, o, none⟩, c, by omega, rfl, by rw [rowL_zero]; exact HP.out.below (by (repeat' (first | (with_reducible exact Below.refl _ _) | (with_reducible assumption) | (with_reducible refine Below.alloc ?_ ?_ _) | (with_reducible refine below_drewN ?_ _) | (with_reducible refine Below.drew ?_) | (with_reducible refine Below.setCell ?_ ?_ _) | (with_reducible refine below_call (by assumption) ?_ ?_) | (with_reducible refine below_grown (by assumption) ?_ ?_ ?_) | omega | (simp; done) | (simp; omega)))), fun g hg e => (by simp only [blkA, Option.map, Option.some.injEq] at hg; subst hg; simp only [Value.ownBlock, Option.some.injEq] at e; omega), fun g hg e => (by simp only [blkA, Option.map, Option.some.injEq] at hg; subst hg; simp only [Value.ownBlock, Option.some.injEq] at e; omega), fun g hg e => (by simp only [Value.ownBlock, Option.some.injEq] at hg e; omega), E1.out.below (by (repeat' (first | (with_reducible exact Below.refl _ _) | (with_reducible assumption) | (with_reducible refine Below.alloc ?_ ?_ _) | (with_reducible refine below_drewN ?_ _) | (with_reducible refine Below.drew ?_) | (with_reducible refine Below.setCell ?_ ?_ _) | (with_reducible refine below_call (by assumption) ?_ ?_) | (with_reducible refine below_grown (by assumption) ?_ ?_ ?_) | omega | (simp; done) | (simp; omega)))), by rw [← F1.out]; exact E2.out, by (repeat' (first | (with_reducible exact Below.refl _ _) | (with_reducible assumption) | (with_reducible refine Below.alloc ?_ ?_ _) | (with_reducible refine below_drewN ?_ _) | (with_reducible refine Below.drew ?_) | (with_reducible refine Below.setCell ?_ ?_ _) | (with_reducible refine below_call (by assumption) ?_ ?_) | (with_reducible refine below_grown (by assumption) ?_ ?_ ?_) | omega | (simp; done) | (simp; omega)))⟩
  case round =>
    obtain ⟨wo, rfl⟩ : ∃ wo : World, wo = wr := ⟨_, rfl⟩
    clear E1 E2 c0 c1 c2 c3
    obtain ⟨k, A', c', hk, rfl, hP, s1, s2, s3, o1, o2, hbel⟩ := hrel
    have hsz := hbel.size
    obtain ⟨r, hr⟩ : ∃ r, n - k = r := ⟨_, rfl⟩
    rw [hr] at hP ⊢
    have HR := Lib.hid hr
    have hrn : r ≤ 4 := by omega
    have hkr : k + r = n := by omega
    have hr1 : 1 ≤ r := by omega
    clear hr hk hki hqi t1
    have HPr := Lib.hid hP
    have O1 := Lib.hid o1
    have O2 := Lib.hid o2
    have S1 := Lib.hid s1
    have S2 := Lib.hid s2
    have S3 := Lib.hid s3
    clear o1 o2 s1 s2 s3
    by_cases hlt : 1 < r
    · have eb : decide ((1 : Int) < (r : Int)) = true := by simp; omega
      have hri : (1 : Int) < r := by omega
      obtain ⟨q, hq⟩ : ∃ q, q + 1 = r := ⟨r - 1, by omega⟩
      clear hP
      go_wp2
      go_loopw [7, 8] (fun nx vi wr => ∃ j : Nat, 1 ≤ j ∧ j ≤ r ∧ vi = .int .i64 j ∧ OwnPts wo.heap.size wr nx (tab (j - 1) (dc l (k + 1))) ∧ Below wo.heap.size wo wr) (fun _ i _ => r - (intOf i).toNat)
      case atStart => exact ⟨1, by omega, by omega, rfl, OwnPts.empty rfl (Nat.le_refl _) (blk_new wo _), by (repeat' (first | (with_reducible exact Below.refl _ _) | (with_reducible assumption) | (with_reducible refine Below.alloc ?_ ?_ _) | (with_reducible refine below_drewN ?_ _) | (with_reducible refine Below.drew ?_) | (with_reducible refine Below.setCell ?_ ?_ _) | (with_reducible refine below_call (by assumption) ?_ ?_) | (with_reducible refine below_grown (by assumption) ?_ ?_ ?_) | omega | (simp; done) | (simp; omega)))⟩
      case round =>
        obtain ⟨j, hj1, hjr, rfl, hown, hbel2⟩ := hrel
        have hsz2 := hbel2.size
        have HO := Lib.hid hown
        clear hown
        by_cases hlt : j < r
        · have eb : decide ((j : Int) < r) = true := by simp; omega
          have hji : (j : Int) < r := by omega
          obtain ⟨i0, hi0⟩ : ∃ i0, i0 + 1 = j := ⟨j - 1, by omega⟩
          rw [show j - 1 = i0 by omega] at HO
          have hPc := HPr.out.below hbel2
          obtain ⟨b, o, rfl, hblc, c0, c1⟩ := hPc.at_ (k := i0) (by omega)
          obtain ⟨b', o', e, _, c2, c3⟩ := hPc.at_ (k := j) (by omega)
          cases e
          have hr1 := rowL_at (l := l) (k := k) (i := i0) (by rw [HL.out]; omega)
          have hr2 := rowL_at (l := l) (k := k) (i := j) (by rw [HL.out]; omega)
          have q1 := dc_valid HV.out (k := k) (i := i0) (by rw [HL.out]; omega)
          have q2 := dc_valid HV.out (k := k) (i := j) (by rw [HL.out]; omega)
          have hd := dc_step l k i0
          rw [hi0] at hd
          obtain ⟨a0, ha0⟩ : ∃ a, (dc l k i0).1 = a := ⟨_, rfl⟩
          obtain ⟨b0, hb0⟩ : ∃ a, (dc l k i0).2 = a := ⟨_, rfl⟩
          obtain ⟨a1, ha1⟩ : ∃ a, (dc l k j).1 = a := ⟨_, rfl⟩
          obtain ⟨b1, hb1⟩ : ∃ a, (dc l k j).2 = a := ⟨_, rfl⟩
          obtain ⟨X, hX⟩ : ∃ a, (a0 + a1) / 2 = a := ⟨_, rfl⟩
          obtain ⟨Y, hY⟩ : ∃ a, (b0 + b1) / 2 = a := ⟨_, rfl⟩
          rw [hr1.1, ha0] at c0
          rw [hr1.2, hb0] at c1
          rw [hr2.1, ha1] at c2
          rw [hr2.2, hb1] at c3
          rw [ha0, hb0] at q1
          rw [ha1, hb1] at q2
          rw [ha0, hb0, ha1, hb1, hX, hY] at hd
          have HD := Lib.hid hd
          have H1 := Lib.hid hX
          have H2 := Lib.hid hY
          have t1 : IntKind.i64.wrap ((j : Int) - 1) = (i0 : Int) := (IntWalk.i64_in _ (by omega)).trans (by omega)
          have l0 : (i0 : Int) < r := by omega
          clear hr1 hr2 ha0 hb0 ha1 hb1 hX hY hd hPc
          go_wp2_with fail
          apply wp_region_pure (by kernel_rfl) ([] :: [] :: [] :: [2] :: [1, 3] :: [4] :: [] :: [] :: [6, 7] :: [8] :: [5, 9] :: [10] :: []) (RS.det [] _ :: RS.det [] _ :: RS.det [] _ :: RS.det [2] _ :: RS.det [1, 3] _ :: RS.det [4] _ :: RS.det [] _ :: RS.det [] _ :: RS.det [6, 7] _ :: RS.det [8] _ :: RS.det [5, 9] _ :: RS.sl [10] _ _ _ _ :: []) [0] rfl (by kernel_rfl) (by intro _ c a d v w h; cases d <;> exact h) (by kernel_rfl) (by kernel_rfl) (st_det (st_det (st_det (st_det (st_det (st_det (st_det (st_det (st_det (st_det (st_det (st_sl st_nil)))))))))))) _ (fun v => by simp; rfl)
          case hop =>
            simp only [Obls]
            refine ⟨?_, ?_, ?_, ?_, ?_, ?_, ?_, ?_, ?_, ?_, ?_, ?_, trivial⟩
            · (intro v w1 K hb hF hK; (try simp at hF); simp at hK; (try simp only [hF] at hK); have hz := hb.size; (try simp at hz))
              go_simp
              (try simp only [])
              exact hK _ _ rfl (by (repeat' (first | (with_reducible exact Below.refl _ _) | (with_reducible assumption) | (with_reducible refine Below.alloc ?_ ?_ _) | (with_reducible refine below_drewN ?_ _) | (with_reducible refine Below.drew ?_) | (with_reducible refine Below.setCell ?_ ?_ _) | (with_reducible refine below_call (by assumption) ?_ ?_) | go_size)))
            · (intro v w1 K hb hF hK; (try simp at hF); simp at hK; (try simp only [hF] at hK); have hz := hb.size; (try simp at hz))
              go_simp
              (try simp only [])
              exact hK _ _ rfl (by (repeat' (first | (with_reducible exact Below.refl _ _) | (with_reducible assumption) | (with_reducible refine Below.alloc ?_ ?_ _) | (with_reducible refine below_drewN ?_ _) | (with_reducible refine Below.drew ?_) | (with_reducible refine Below.setCell ?_ ?_ _) | (with_reducible refine below_call (by assumption) ?_ ?_) | go_size)))
            · (intro v w1 K hb hF hK; (try simp at hF); simp at hK; (try simp only [hF] at hK); have hz := hb.size; (try simp at hz))
              go_simp
              (try simp only [])
              exact hK _ _ rfl (by (repeat' (first | (with_reducible exact Below.refl _ _) | (with_reducible assumption) | (with_reducible refine Below.alloc ?_ ?_ _) | (with_reducible refine below_drewN ?_ _) | (with_reducible refine Below.drew ?_) | (with_reducible refine Below.setCell ?_ ?_ _) | (with_reducible refine below_call (by assumption) ?_ ?_) | go_size)))
            · (intro v w1 K hb hF hK; (try simp at hF); simp at hK; (try simp only [hF] at hK); have hz := hb.size; (try simp at hz))
              go_simp
              (try simp only [])
              exact hK _ _ rfl (by (repeat' (first | (with_reducible exact Below.refl _ _) | (with_reducible assumption) | (with_reducible refine Below.alloc ?_ ?_ _) | (with_reducible refine below_drewN ?_ _) | (with_reducible refine Below.drew ?_) | (with_reducible refine Below.setCell ?_ ?_ _) | (with_reducible refine below_call (by assumption) ?_ ?_) | go_size)))
            · (intro v w1 K hb hF hK; (try simp at hF); simp at hK; (try simp only [hF] at hK); have hz := hb.size; (try simp at hz))
              go_simp
              (try simp only [])
              exact hK _ _ rfl (by (repeat' (first | (with_reducible exact Below.refl _ _) | (with_reducible assumption) | (with_reducible refine Below.alloc ?_ ?_ _) | (with_reducible refine below_drewN ?_ _) | (with_reducible refine Below.drew ?_) | (with_reducible refine Below.setCell ?_ ?_ _) | (with_reducible refine below_call (by assumption) ?_ ?_) | go_size)))
            · (intro v w1 K hb hF hK; (try simp at hF); simp at hK; (try simp only [hF] at hK); have hz := hb.size; (try simp at hz); (try (have hk := bcl hb (b) (by first | omega | (simp; done) | (simp; omega)); have hc := hk.1; have hf := hk.2.1; have hk := hk.2.2)))
              go_simp
              (try simp only [])
              exact hK _ _ rfl (by (repeat' (first | (with_reducible exact Below.refl _ _) | (with_reducible assumption) | (with_reducible refine Below.alloc ?_ ?_ _) | (with_reducible refine below_drewN ?_ _) | (with_reducible refine Below.drew ?_) | (with_reducible refine Below.setCell ?_ ?_ _) | (with_reducible refine below_call (by assumption) ?_ ?_) | go_size)))
            · (intro v w1 K hb hF hK; (try simp at hF); simp at hK; (try simp only [hF] at hK); have hz := hb.size; (try simp at hz))
              go_simp
              (try simp only [])
              exact hK _ _ rfl (by (repeat' (first | (with_reducible exact Below.refl _ _) | (with_reducible assumption) | (with_reducible refine Below.alloc ?_ ?_ _) | (with_reducible refine below_drewN ?_ _) | (with_reducible refine Below.drew ?_) | (with_reducible refine Below.setCell ?_ ?_ _) | (with_reducible refine below_call (by assumption) ?_ ?_) | go_size)))
            · (intro v w1 K hb hF hK; (try simp at hF); simp at hK; (try simp only [hF] at hK); have hz := hb.size; (try simp at hz))
              go_simp
              (try simp only [])
              exact hK _ _ rfl (by (repeat' (first | (with_reducible exact Below.refl _ _) | (with_reducible assumption) | (with_reducible refine Below.alloc ?_ ?_ _) | (with_reducible refine below_drewN ?_ _) | (with_reducible refine Below.drew ?_) | (with_reducible refine Below.setCell ?_ ?_ _) | (with_reducible refine below_call (by assumption) ?_ ?_) | go_size)))
            · (intro v w1 K hb hF hK; (try simp at hF); simp at hK; (try simp only [hF] at hK); have hz := hb.size; (try simp at hz))
              go_simp
              (try simp only [])
              exact hK _ _ rfl (by (repeat' (first | (with_reducible exact Below.refl _ _) | (with_reducible assumption) | (with_reducible refine Below.alloc ?_ ?_ _) | (with_reducible refine below_drewN ?_ _) | (with_reducible refine Below.drew ?_) | (with_reducible refine Below.setCell ?_ ?_ _) | (with_reducible refine below_call (by assumption) ?_ ?_) | go_size)))
            · (intro v w1 K hb hF hK; (try simp at hF); simp at hK; (try simp only [hF] at hK); have hz := hb.size; (try simp at hz); (try (have hk := bcl hb (b) (by first | omega | (simp; done) | (simp; omega)); have hc := hk.1; have hf := hk.2.1; have hk := hk.2.2)))
              go_simp
              (try simp only [])
              exact hK _ _ rfl (by (repeat' (first | (with_reducible exact Below.refl _ _) | (with_reducible assumption) | (with_reducible refine Below.alloc ?_ ?_ _) | (with_reducible refine below_drewN ?_ _) | (with_reducible refine Below.drew ?_) | (with_reducible refine Below.setCell ?_ ?_ _) | (with_reducible refine below_call (by assumption) ?_ ?_) | go_size)))
            · (intro v w1 K hb hF hK; (try simp at hF); simp at hK; (try simp only [hF] at hK); have hz := hb.size; (try simp at hz); (try (have hk := bcl hb (b) (by first | omega | (simp; done) | (simp; omega)); have hc := hk.1; have hf := hk.2.1; have hk := hk.2.2)))
              go_simp
              (first | (go_at_call 39; (with_reducible refine (middle_eq (by omega) (by omega) (by omega) (by omega) (Hid.out (by with_reducible assumption)) (Hid.out (by with_reducible assumption)) _).mono ?_); rintro e w1 ⟨rfl, hb⟩; have hz := hb.size; (try simp at hz); (try (have hk := bcl hb (b) (by first | omega | (simp; done) | (simp; omega)); have hc := hk.1; have hf := hk.2.1; have hk := hk.2.2))) | skip)
              (try simp only [])
              exact hK _ _ rfl (by (repeat' (first | (with_reducible exact Below.refl _ _) | (with_reducible assumption) | (with_reducible refine Below.alloc ?_ ?_ _) | (with_reducible refine below_drewN ?_ _) | (with_reducible refine Below.drew ?_) | (with_reducible refine Below.setCell ?_ ?_ _) | (with_reducible refine below_call (by assumption) ?_ ?_) | go_size)))
            · (intro v w1 K hb hF hK; (try simp at hF); simp at hK; (try simp only [hF] at hK); have hz := hb.size; (try simp at hz))
              go_simp
              (try simp only [])
              exact hK _ _ (isSl_new _ _ _ hb.size) (by (repeat' (first | (with_reducible exact Below.refl _ _) | (with_reducible assumption) | (with_reducible refine Below.alloc ?_ ?_ _) | (with_reducible refine below_drewN ?_ _) | (with_reducible refine Below.drew ?_) | (with_reducible refine Below.setCell ?_ ?_ _) | (with_reducible refine below_call (by assumption) ?_ ?_) | go_size)))
          case hfo => exact ⟨fun _ => rfl, trivial⟩
          (intro v w1 hb hF; simp [List.range, List.range.loop] at hF; have hz := hb.size; (try simp at hz); (try (have hk := bcl hb (b) (by first | omega | (simp; done) | (simp; omega)); have hc := hk.1; have hf := hk.2.1; have hk := hk.2.2)))
          obtain ⟨e0, e1, e2, e3, e4, e5, e6, e7, e8, e9, e10, g, e11, hg, hgs, hgb⟩ := hF
          simp only [List.length_cons, List.length_nil, List.drop_succ_cons, List.drop_zero, e0, e1, e2, e3, e4, e5, e6, e7, e8, e9, e10, e11]
          clear e0 e1 e2 e3 e4 e5 e6 e7 e8 e9 e10 e11 v
          have hcg := blk_cell hgb; have hfg := blk_free hgb; have Hg := Lib.hid hgb; clear hgb; (try simp at hg)
          go_wp2_with (at_builtin
                       refine append_pts rfl (.tmp 31) (.tmp 42) rfl wo.heap.size _ _ rfl (HO.out.below hb) g 1 _ _ _ rfl Hg.out (by rw [tab_len]; omega) (by omega) ?_
                       intro v3 w3 hown3 hg3)
          go_roundw
          case rel => exact ⟨j + 1, by omega, by omega, by go_num, by rw [show j + 1 - 1 = i0 + 1 by omega, tab_succ, HD.out]; exact hown3, Below.grown (by (repeat' (first | (with_reducible exact Below.refl _ _) | (with_reducible assumption) | (with_reducible refine Below.alloc ?_ ?_ _) | (with_reducible refine below_drewN ?_ _) | (with_reducible refine Below.drew ?_) | (with_reducible refine Below.setCell ?_ ?_ _) | (with_reducible refine below_call (by assumption) ?_ ?_) | (with_reducible refine below_grown (by assumption) ?_ ?_ ?_) | omega | (simp; done) | (simp; omega)))) hg3 (by omega) (fun r hr => by have := HO.out.row r hr; omega)⟩
          case measure => simp [intOf]; omega
        · obtain rfl : j = r := by omega
          have eb2 : decide ((j : Int) < j) = false := by simp
          rw [show j - 1 = q by omega] at HO
          obtain ⟨wt, rfl⟩ : ∃ wt : World, wt = wr := ⟨_, rfl⟩
          obtain ⟨q1, hq1⟩ : ∃ q1, q1 + 1 = q := ⟨q - 1, by omega⟩
          obtain ⟨A2, c2, e2, hP2, _, _, h5⟩ := HO.out.form
          rw [tab_len] at e2 hP2
          subst e2
          obtain ⟨b, o, rfl, hblc, d0, d1⟩ := hP2.at_ (k := 0) (by omega)
          obtain ⟨b', o', e, _, d2, d3⟩ := hP2.at_ (k := q1) (by omega)
          cases e
          have hr1 := tab_px (n := q) (f := dc l (k + 1)) (i := 0) (by omega)
          have hr2 := tab_px (n := q) (f := dc l (k + 1)) (i := q1) (by omega)
          obtain ⟨x0, hx0⟩ : ∃ a, (dc l (k + 1) 0).1 = a := ⟨_, rfl⟩
          obtain ⟨y0, hy0⟩ : ∃ a, (dc l (k + 1) 0).2 = a := ⟨_, rfl⟩
          obtain ⟨x1, hx1⟩ : ∃ a, (dc l (k + 1) q1).1 = a := ⟨_, rfl⟩
          obtain ⟨y1, hy1⟩ : ∃ a, (dc l (k + 1) q1).2 = a := ⟨_, rfl⟩
          rw [hr1.1, hx0] at d0
          rw [hr1.2, hy0] at d1
          rw [hr2.1, hx1] at d2
          rw [hr2.2, hy1] at d3
          simp only [Nat.zero_mul, Nat.add_zero] at d0 d1
          have T1 : Hid ((tab (k + 1) fun j => dc l j 0) ++ [(x0, y0)] = tab (k + 1 + 1) fun j => dc l j 0) := Lib.hid (by rw [tab_succ (k + 1), ← hx0, ← hy0])
          have T2 : Hid ([(x1, y1)] ++ backL l k = backL l (k + 1)) := Lib.hid (by rw [backL_succ, HL.out, show n - 1 - (k + 1) = q1 by omega, ← hx1, ← hy1]; rfl)
          have X1 := Lib.hid (And.intro hr2.1 hx1)
          have Y1 := Lib.hid (And.intro hr2.2 hy1)
          have HP2 := Lib.hid hP2
          have HA2 := Lib.hid (blkA_ge (fun a ha => (h5 a ha).1))
          have LA2 := Lib.hid (IsPts.lt hP2 (by omega))
          have hqi : (0 : Int) < q := by omega
          have hq1i : (q1 : Int) < q := by omega
          have t1 : IntKind.i64.wrap ((q : Int) - 1) = (q1 : Int) := (IntWalk.i64_in _ (by omega)).trans (by omega)
          have SN : Hid (Sep (blkA (some ⟨b, o, none⟩)) u4.ownBlock) := Lib.hid (Sep.far O1.out.lt HA2.out).symm
          have O1t := Lib.hid (O1.out.below hbel2)
          have O2t := Lib.hid (O2.out.below hbel2)
          have Bt : Hid (Below w.heap.size w wt) := Lib.hid (by (repeat' (first | (with_reducible exact Below.refl _ _) | (with_reducible assumption) | (with_reducible refine Below.alloc ?_ ?_ _) | (with_reducible refine below_drewN ?_ _) | (with_reducible refine Below.drew ?_) | (with_reducible refine Below.setCell ?_ ?_ _) | (with_reducible refine below_call (by assumption) ?_ ?_) | (with_reducible refine below_grown (by assumption) ?_ ?_ ?_) | omega | (simp; done) | (simp; omega))))
          have L2 : Hid (∀ g, u5.ownBlock = some g → g < wo.heap.size) := Lib.hid O2.out.lt
          clear hP2 h5 eb hr1 hr2 hx0 hy0 hx1 hy1 O1 O2
          go_wp2_with (at_builtin
                       refine append_ptsA rfl (.tmp 44) (.tmp 48) rfl w.heap.size _ _ rfl (O1t.out.below (by (repeat' (first | (with_reducible exact Below.refl _ _) | (with_reducible assumption) | (with_reducible refine Below.alloc ?_ ?_ _) | (with_reducible refine below_drewN ?_ _) | (with_reducible refine Below.drew ?_) | (with_reducible refine Below.setCell ?_ ?_ _) | (with_reducible refine below_call (by assumption) ?_ ?_) | (with_reducible refine below_grown (by assumption) ?_ ?_ ?_) | omega | (simp; done) | (simp; omega))))) wt.heap.size 1 _ _ _ rfl (blk_new wt _) (by rw [tab_len]; omega) (by simp; omega) ?_
                       intro v1 w1 hv1 hg1 ha1
                       refine Kept.out ?_)
          rw [T1.out] at hv1
          have hz1 := hg1.size
          simp at hz1
          have hPa := IsPts.grown (HP2.out.below (show Below wt.heap.size wt (wt.alloc _) by (repeat' (first | (with_reducible exact Below.refl _ _) | (with_reducible assumption) | (with_reducible refine Below.alloc ?_ ?_ _) | (with_reducible refine below_drewN ?_ _) | (with_reducible refine Below.drew ?_) | (with_reducible refine Below.setCell ?_ ?_ _) | (with_reducible refine below_call (by assumption) ?_ ?_) | (with_reducible refine below_grown (by assumption) ?_ ?_ ?_) | omega | (simp; done) | (simp; omega))))) hg1 SN.out
          have HPa := Lib.hid hPa
          obtain ⟨b', o', e, hbl1, d2, d3⟩ := hPa.at_ (k := q1) (by omega)
          cases e
          rw [X1.out.1, X1.out.2] at d2
          rw [Y1.out.1, Y1.out.2] at d3
          have O1a := Lib.hid hv1
          have hO2a := OwnPts.other (O2t.out.below (show Below wt.heap.size wt (wt.alloc _) by (repeat' (first | (with_reducible exact Below.refl _ _) | (with_reducible assumption) | (with_reducible refine Below.alloc ?_ ?_ _) | (with_reducible refine below_drewN ?_ _) | (with_reducible refine Below.drew ?_) | (with_reducible refine Below.setCell ?_ ?_ _) | (with_reducible refine below_call (by assumption) ?_ ?_) | (with_reducible refine below_grown (by assumption) ?_ ?_ ?_) | omega | (simp; done) | (simp; omega))))) hg1 S3.out.symm
          have O2a := Lib.hid hO2a
          obtain ⟨A3, c3, e3, hP3, _, _, _⟩ := hO2a.form
          have el3 : (backL l k).length = k + 1 := tab_len _ _
          rw [el3] at e3 hP3
          subst e3
          obtain ⟨b3, o3, rfl, hbl3, _, _⟩ := hP3.at_ (k := 0) (by omega)
          have HP3 := Lib.hid hP3
          have B1 : Hid (Below w.heap.size w w1) := Lib.hid (below_ownP hg1 (Bt.out.alloc (by omega) _) (by simp; omega) O1t.out.row)
          have S1a : Hid (Sep (blkA (some ⟨b, o, none⟩)) v1.ownBlock) := Lib.hid (SN.out.app ha1 (fun g hg => by have := LA2.out g hg; simp; omega))
          clear hv1 hg1 ha1 hPa hO2a hP3 el3 d0 d1
          refine Kept.mk ?_
          go_wp2_with (at_builtin
                       refine append_ptsL rfl (.tmp 56) (.tmp 57) rfl w1.heap.size (.slice (some ⟨w1.heap.size, 0, none⟩) 1 1) [(x1, y1)] rfl (OwnPts.made rfl (Nat.le_refl _) (blk_new w1 _) rfl (by omega) rfl) ⟨b3, o3, none⟩ (k + 1) c3 (backL l k) rfl (HP3.out.below (by (repeat' (first | (with_reducible exact Below.refl _ _) | (with_reducible assumption) | (with_reducible refine Below.alloc ?_ ?_ _) | (with_reducible refine below_drewN ?_ _) | (with_reducible refine Below.drew ?_) | (with_reducible refine Below.setCell ?_ ?_ _) | (with_reducible refine below_call (by assumption) ?_ ?_) | (with_reducible refine below_grown (by assumption) ?_ ?_ ?_) | omega | (simp; done) | (simp; omega))))) (by rw [backL, tab_len]; simp; omega) (by simp) ?_
                       intro v2 w2 hv2 hg2 ha2
                       refine Kept.out ?_)
          rw [T2.out] at hv2
          have hz2 := hg2.size
          simp at hz2
          have hb2 : Below w1.heap.size w1 w2 := below_ownP hg2 (by (repeat' (first | (with_reducible exact Below.refl _ _) | (with_reducible assumption) | (with_reducible refine Below.alloc ?_ ?_ _) | (with_reducible refine below_drewN ?_ _) | (with_reducible refine Below.drew ?_) | (with_reducible refine Below.setCell ?_ ?_ _) | (with_reducible refine below_call (by assumption) ?_ ?_) | (with_reducible refine below_grown (by assumption) ?_ ?_ ?_) | omega | (simp; done) | (simp; omega)))) (by simp) (fun g hg => by simp only [Value.ownBlock, Option.some.injEq] at hg; omega)
          have LV1 : ∀ g, v1.ownBlock = some g → g < w1.heap.size := O1a.out.lt
          have HPb := Lib.hid (HPa.out.below hb2)
          have O1b := Lib.hid (O1a.out.below hb2)
          have O2b := Lib.hid (hv2.lower (base' := w.heap.size) (by omega))
          have S2b : Hid (Sep (blkA (some ⟨b, o, none⟩)) v2.ownBlock) := Lib.hid (Sep.far (IsPts.lt HPa.out (by omega)) hv2.row)
          have S3b : Hid (Sep v1.ownBlock v2.ownBlock) := Lib.hid (Sep.far LV1 hv2.row)
          have B2 : Hid (Below w.heap.size w w2) := Lib.hid (by have := B1.out; (repeat' (first | (with_reducible exact Below.refl _ _) | (with_reducible assumption) | (with_reducible refine Below.alloc ?_ ?_ _) | (with_reducible refine below_drewN ?_ _) | (with_reducible refine Below.drew ?_) | (with_reducible refine Below.setCell ?_ ?_ _) | (with_reducible refine below_call (by assumption) ?_ ?_) | (with_reducible refine below_grown (by assumption) ?_ ?_ ?_) | omega | (simp; done) | (simp; omega))))
          clear hv2 hg2 ha2 LV1 hb2
          refine Kept.mk ?_
          go_wp2
          go_roundw
          case rel => exact ⟨k + 1, some ⟨b, o, none⟩, c2, by omega, by rw [show n - (k + 1) = q by omega], by rw [show n - (k + 1) = q by omega, rowL, HL.out, show n - (k + 1) = q by omega]; exact HPb.out, S1a.out, S2b.out, S3b.out, O1b.out, O2b.out, B2.out⟩
          case measure => simp [slen]; omega
    · have eb : decide ((1 : Int) < (r : Int)) = false := by simp; omega
      have hri : ¬ (1 : Int) < r := by omega
      have HO1 : Hid (OwnPts w.heap.size wo u4 (leftL l)) := Lib.hid (by have := O1.out; rw [show k + 1 = n by omega] at this; rw [leftL, HL.out]; exact this)
      have HO2 : Hid (OwnPts w.heap.size wo u5 (rightL l)) := Lib.hid (by have := O2.out; rw [show k = l.length - 1 by rw [HL.out]; omega, backL_end (by rw [HL.out]; omega)] at this; exact this)
      clear hP
      go_wp2
      go_ret2
      exact ⟨_, _, rfl, HO1.out, HO2.out, hbel⟩

/-- Two lists of points, and whether there are any. -/
def RetP2Ok (l m : List Pt) (ok : Bool) (w : World) (e : Ending) (w' : World) : Prop :=
  ∃ v u s, e = .returned (.tuple #[v, u, .bool ok]) ∧ OwnP w.heap.size w' v l ∧ (∀ g, 0 < l.length → v.ownBlock = some g → g < s) ∧ w.heap.size ≤ s ∧ OwnP s w' u m ∧ Below w.heap.size w w'
def splitA (l : List Pt) : List Pt := if curveB l then leftL l else []
def splitB (l : List Pt) : List Pt := if curveB l then rightL l else []

set_option maxHeartbeats 1000000 in
theorem SplitCurve_eq {A : Option Addr} {n : Nat} {l a b : List Pt} {w : World} {ok : Bool} (c : Nat) (h : IsPts w A n l) (hn : n ≤ 1000000000000) (hok : curveB l = ok) (ha : splitA l = a) (hb : splitB l = b) :
    Calls Try.prog 9 #[.slice A n c] w (RetP2Ok a b ok w) := by
  subst ha hb
  unfold splitA splitB
  rw [hok]
  have HP := Lib.hid h
  have HV := Lib.hid hok
  clear h hok
  cases ok with
  | false =>
    simp only [Bool.false_eq_true, if_false]
    go_enter Try.func9, Try.ntmps9
    go_wp2_with ((go_at_call 13; (with_reducible refine (curveValid_eq c HP.out hn (Hid.out (by with_reducible assumption))).mono ?_); rintro e w1 ⟨rfl, hb⟩; have hz := hb.size; (try simp at hz); (try (have hk := bcl hb (w) (by first | omega | (simp; done) | (simp; omega)); have hc := hk.1; have hf := hk.2.1; have hk := hk.2.2))))
    go_ret3
    exact ⟨_, _, w.heap.size, rfl, OwnP.nil _ _, fun g h => absurd h (Nat.lt_irrefl _), Nat.le_refl _, OwnP.nil _ _, by (repeat' (first | (with_reducible exact Below.refl _ _) | (with_reducible assumption) | (with_reducible refine Below.alloc ?_ ?_ _) | (with_reducible refine below_drewN ?_ _) | (with_reducible refine Below.drew ?_) | (with_reducible refine Below.setCell ?_ ?_ _) | (with_reducible refine below_call (by assumption) ?_ ?_) | (with_reducible refine below_grown (by assumption) ?_ ?_ ?_) | omega | (simp; done) | (simp; omega)))⟩
  | true =>
    simp only [if_true]
    go_enter Try.func9, Try.ntmps9
    go_wp2_with ((go_at_call 13; (with_reducible refine (curveValid_eq c HP.out hn (Hid.out (by with_reducible assumption))).mono ?_); rintro e w1 ⟨rfl, hb⟩; have hz := hb.size; (try simp at hz); (try (have hk := bcl hb (w) (by first | omega | (simp; done) | (simp; omega)); have hc := hk.1; have hf := hk.2.1; have hk := hk.2.2))))
    refine (split_any c (HP.out.below (by (repeat' (first | (with_reducible exact Below.refl _ _) | (with_reducible assumption) | (with_reducible refine Below.alloc ?_ ?_ _) | (with_reducible refine below_drewN ?_ _) | (with_reducible refine Below.drew ?_) | (with_reducible refine Below.setCell ?_ ?_ _) | (with_reducible refine below_call (by assumption) ?_ ?_) | (with_reducible refine below_grown (by assumption) ?_ ?_ ?_) | omega | (simp; done) | (simp; omega))))) HV.out).mono ?_
    rintro e wb ⟨v, u, s, rfl, h1, h2, h3, h4, hbb⟩
    have hzb := hbb.size
    go_wp2
    go_ret3
    exact ⟨v, u, s, rfl, h1.lower (by omega), fun g _ => h2 g, by omega, h4, by (repeat' (first | (with_reducible exact Below.refl _ _) | (with_reducible assumption) | (with_reducible refine Below.alloc ?_ ?_ _) | (with_reducible refine below_drewN ?_ _) | (with_reducible refine Below.drew ?_) | (with_reducible refine Below.setCell ?_ ?_ _) | (with_reducible refine below_call (by assumption) ?_ ?_) | (with_reducible refine below_grown (by assumption) ?_ ?_ ?_) | omega | (simp; done) | (simp; omega)))⟩

end Go.Proofs.Ytmojbcnldipdgaa
