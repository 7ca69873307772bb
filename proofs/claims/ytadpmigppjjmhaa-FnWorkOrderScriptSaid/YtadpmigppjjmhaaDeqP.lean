/-
  Queues: a tile is pushed, popped, stolen.
-/
import Derived.Test.YtadpmigppjjmhaaDeqS
import Derived.Test.YtadpmigppjjmhaaRegQ
namespace Go.Proofs.Ytadpmigppjjmhaa
open Go.RowKit Pl

set_option linter.unusedSimpArgs false
set_option linter.unusedVariables false

theorem OwnJ.open {base : Nat} {w : World} {A : Option Addr} {n c : Nat} {l : List Int} (h : OwnJ base w (.slice A n c) l) (hn : 0 < n) :
    ∃ g cur, A = some ⟨g, 0, none⟩ ∧ base ≤ g ∧ n ≤ c ∧ c ≤ maxLen ∧ l.length = n ∧ w.heap[g]? = some (.cells cur 3 (0, 0)) ∧ n ≤ cur.size ∧ ∀ i, i < n → cur[i]? = some (.int .i64 (nt l i)) := by
  obtain ⟨A', c', e, h1, h2, h3, h4⟩ := h
  rw [iv_len] at e h1 h4
  cases e
  obtain ⟨g, cur, rfl, hg, hs, hat⟩ := h4 hn
  exact ⟨g, cur, rfl, h3 _ rfl, h1, h2, rfl, hg, hs, fun i hi => hat i _ (iv_at hi)⟩
theorem OwnJ.mk {base g n c : Nat} {w : World} {cur : Array Value} {l : List Int} (hb : base ≤ g) (hl : l.length = n) (hc : n ≤ c) (hm : c ≤ maxLen) (hg : w.heap[g]? = some (.cells cur 3 (0, 0))) (hs : n ≤ cur.size) (hat : ∀ i, i < n → cur[i]? = some (.int .i64 (nt l i))) :
    OwnJ base w (.slice (some ⟨g, 0, none⟩) n c) l := by
  subst hl
  refine ⟨_, c, by rw [iv_len], by rw [iv_len]; exact hc, hm, fun a e => (by cases e; exact hb), fun _ => ⟨g, cur, rfl, hg, by rw [iv_len]; exact hs, fun i u hu => ?_⟩⟩
  have hi : i < l.length := by have := (List.getElem?_eq_some_iff.1 hu).1; rwa [iv_len] at this
  rw [iv_at hi] at hu
  cases hu; exact hat i hi
theorem nt_set {l : List Int} {k i : Nat} (v : Int) (hk : k < l.length) : nt (l.set k v) i = if k = i then v else nt l i := by
  by_cases e : k = i
  · subst e; simp [nt, hk]
  · rw [if_neg e]; simp [nt, List.getElem?_set, e]
/-- One number is written. -/
theorem set_has {cur : Array Value} {l : List Int} {n k : Nat} (v : Int) (hl : l.length = n) (hs : n ≤ cur.size) (hat : ∀ i, i < n → cur[i]? = some (.int .i64 (nt l i))) (hk : k < n) :
    n ≤ (cur.setIfInBounds k (.int .i64 v)).size ∧ ∀ i, i < n → (cur.setIfInBounds k (.int .i64 v))[i]? = some (.int .i64 (nt (l.set k v) i)) := by
  refine ⟨by simpa using hs, fun i hi => ?_⟩
  rw [nt_set v (by omega)]
  by_cases e : k = i
  · subst e; rw [if_pos rfl, Array.getElem?_setIfInBounds_self_of_lt (by omega)]
  · rw [if_neg e, Array.getElem?_setIfInBounds_ne e]; exact hat i hi

theorem OwnJ.heap {base : Nat} {w w' : World} {v : Value} {l : List Int} (h : OwnJ base w v l) (hg : ∀ g, base ≤ g → w'.heap[g]? = w.heap[g]?) : OwnJ base w' v l := by
  obtain ⟨A, c, e, h1, h2, h3, h4⟩ := h
  exact ⟨A, c, e, h1, h2, h3, fun hn => by obtain ⟨g, cur, e', hgb, hh⟩ := h4 hn; exact ⟨g, cur, e', (hg g (h3 _ e')).trans hgb, hh⟩⟩

/-- A queue that comes back. -/
def DqV (q : Dq) (A : Option Addr) (c : Nat) : Value := .agg #[.slice A q.s.length c, .int .i64 q.t, .int .i64 q.b]
def RetD (q : Dq) (w : World) (e : Ending) (w' : World) : Prop := ∃ A c, e = .returned (.agg #[.slice A q.s.length c, .int .i64 q.t, .int .i64 q.b]) ∧ OwnJ w.heap.size w' (.slice A q.s.length c) q.s ∧ Below w.heap.size w w'
def RetDOk (q : Dq) (ok : Bool) (w : World) (e : Ending) (w' : World) : Prop := ∃ A c, e = .returned (.tuple #[.agg #[.slice A q.s.length c, .int .i64 q.t, .int .i64 q.b], .bool ok]) ∧ OwnJ w.heap.size w' (.slice A q.s.length c) q.s ∧ Below w.heap.size w w'
def RetDTOk (q : Dq) (x : Int) (ok : Bool) (w : World) (e : Ending) (w' : World) : Prop := ∃ A c, e = .returned (.tuple #[.agg #[.slice A q.s.length c, .int .i64 q.t, .int .i64 q.b], .int .i64 x, .bool ok]) ∧ OwnJ w.heap.size w' (.slice A q.s.length c) q.s ∧ Below w.heap.size w w'

set_option maxHeartbeats 1000000 in
theorem withSlot_any {A : Option Addr} {l : List Int} {x y : Int} {w : World} (c : Nat) (h : IsI w A 16 l) (h0 : 0 ≤ x) (h1 : x ≤ 1000000) :
    Calls Try.prog 31 #[.slice A 16 c, .int .i64 x, .int .i64 y] w fun e w' => ∃ B d, e = .returned (.slice B 16 d) ∧ OwnJ w.heap.size w' (.slice B 16 d) (set16 l x y) ∧ Below w.heap.size w w' := by
  have HP := Lib.hid h
  have hl := h.len
  have HL := Lib.hid hl
  clear h hl
  obtain ⟨X, rfl⟩ := Int.eq_ofNat_of_zero_le h0
  obtain ⟨i1, hi1, hi16⟩ : ∃ i1 : Nat, (X : Int).tmod 16 = (i1 : Int) ∧ i1 < 16 := ⟨X % 16, by rw [Int.tmod_eq_emod_of_nonneg (by omega)]; simp, Nat.mod_lt _ (by omega)⟩
  have HI : Hid (set16 l X y = l.set i1 y) := Lib.hid (by rw [set16, show ((X : Int) % 16).toNat = i1 by rw [← Int.tmod_eq_emod_of_nonneg (by omega), hi1]; omega])
  have hii : (i1 : Int) < 16 := by omega
  go_enter Try.func31, Try.ntmps31
  go_wp2_with fail
  refine (copyInts_any c (HP.out.below (by (repeat' (first | (with_reducible exact Below.refl _ _) | (with_reducible assumption) | (with_reducible refine Below.alloc ?_ ?_ _) | (with_reducible refine below_drewN ?_ _) | (with_reducible refine Below.drew ?_) | (with_reducible refine Below.setCell ?_ ?_ _) | (with_reducible refine below_call (by assumption) ?_ ?_) | (with_reducible refine below_grown (by assumption) ?_ ?_ ?_) | omega | (simp; done) | (simp; omega))))) (by omega)).mono ?_
  rintro e w1 ⟨v, rfl, hv, hb⟩
  have hz := hb.size
  obtain ⟨A1, c1, rfl, _⟩ := hv.weak.form
  rw [HL.out] at hv ⊢
  obtain ⟨g, cur, rfl, hgb, hc1, hc2, _, hg, hs, hat⟩ := hv.weak.open (by omega)
  have hcg := (blk_cell hg i1).trans (hat i1 hi16)
  have hfg := blk_free hg
  have HG := Lib.hid hg
  have HH := Lib.hid (set_has y HL.out hs hat hi16)
  clear hv hg hat hs
  go_wp2
  go_ret
  refine ⟨_, c1, rfl, ?_, by (repeat' (first | (with_reducible exact Below.refl _ _) | (with_reducible assumption) | (with_reducible refine Below.alloc ?_ ?_ _) | (with_reducible refine below_drewN ?_ _) | (with_reducible refine Below.drew ?_) | (with_reducible refine Below.setCell ?_ ?_ _) | (with_reducible refine below_call (by assumption) ?_ ?_) | (with_reducible refine below_grown (by assumption) ?_ ?_ ?_) | omega | (simp; done) | (simp; omega)))⟩
  rw [HI.out]
  exact OwnJ.mk hgb (by rw [List.length_set, HL.out]) hc1 hc2 (blk_set HG.out _ _) HH.out.1 HH.out.2

/-- A slice of 16 numbers of the call's own. -/
def SlJ (base : Nat) (l : List Int) (v : Value) (w : World) : Prop := ∃ A c, v = .slice A 16 c ∧ OwnJ base w (.slice A 16 c) l
theorem SlJ.below {base : Nat} {l : List Int} {v : Value} {w w' : World} (h : SlJ base l v w) (hb : Below w.heap.size w w') : SlJ base l v w' := by
  obtain ⟨A, c, e, h⟩ := h; exact ⟨A, c, e, h.below hb⟩
theorem pushR_ok {d : Dq} {n : Int} (h : pushOk d n = true) : pushR d n = ⟨set16 d.s d.b n, d.t, d.b + 1⟩ := by rw [pushR, if_pos h]
theorem pushR_no {d : Dq} {n : Int} (h : pushOk d n = false) : pushR d n = ⟨[], 0, 0⟩ := by rw [pushR, h]; rfl

set_option maxHeartbeats 2000000 in
theorem sPushTile_eq {A : Option Addr} {n : Nat} {l : List Int} {t b x : Int} {w : World} {q : Dq} {ok : Bool} (c : Nat) (h : IsI w A n l) (hn : n ≤ 1000000000000) (ht : -1000000 ≤ t ∧ t ≤ 1000000) (hbb : -1000000 ≤ b ∧ b ≤ 1000000) (hok : pushOk ⟨l, t, b⟩ x = ok) (hq : pushR ⟨l, t, b⟩ x = q) :
    Calls Try.prog 26 #[.agg #[.slice A n c, .int .i64 t, .int .i64 b], .int .i64 x] w (RetDOk q ok w) := by
  subst hq
  have HP := Lib.hid h
  have hl := h.len
  have HL := Lib.hid hl
  clear h hl
  obtain ⟨ht0, ht1⟩ := ht
  obtain ⟨hb0, hb1⟩ := hbb
  have hsub : IntKind.i64.wrap (b - t) = b - t := IntWalk.i64_in _ (by omega)
  have no : ok = false → pushR ⟨l, t, b⟩ x = ⟨[], 0, 0⟩ := fun e => pushR_no (hok.trans e)
  have NO := Lib.hid no
  clear no
  obtain ⟨v, hv⟩ : ∃ v, validD ⟨l, t, b⟩ = v := ⟨_, rfl⟩
  have HV := Lib.hid hv
  rcases Bool.eq_false_or_eq_true (inB x 0 99) with h1 | h1
  · have H1 := Lib.hid h1
    have hok' : ok = (v && decide (b - t ≠ 16 ∧ b ≠ 500)) := by rw [← hok, pushOk, hv, show decide (0 ≤ x ∧ x ≤ 99) = true from h1, Bool.true_and]
    by_cases h2 : b - t = 16
    · have e2 : ok = false := by rw [hok', decide_eq_false (by omega)]; simp
      have R := Lib.hid (NO.out e2)
      subst e2
      have g1 : decide (b - t = 16) = true := decide_eq_true h2
      have g2 : ((b - t) == 16) = true := by simpa using h2
      clear hok hok' hv h1
      cases v
      all_goals
        go_enter Try.func26, Try.ntmps26
        go_wp2_with (first | (go_at_call 30; (with_reducible refine (validDeque_eq c (HP.out.below (by (repeat' (first | (with_reducible exact Below.refl _ _) | (with_reducible assumption) | (with_reducible refine Below.alloc ?_ ?_ _) | (with_reducible refine below_drewN ?_ _) | (with_reducible refine Below.drew ?_) | (with_reducible refine Below.setCell ?_ ?_ _) | (with_reducible refine below_call (by assumption) ?_ ?_) | (with_reducible refine below_grown (by assumption) ?_ ?_ ?_) | omega | (simp; done) | (simp; omega))))) hn (Hid.out (by with_reducible assumption))).mono ?_); rintro e w1 ⟨rfl, hb⟩; have hz := hb.size; (try simp at hz); (try (have hk := bcl hb (w.heap.size) (by first | omega | (simp; done) | (simp; omega)); have hc := hk.1; have hf := hk.2.1; have hk := hk.2.2)); (try (have hk := bcl hb (w.heap.size + 1) (by first | omega | (simp; done) | (simp; omega)); have hc := hk.1; have hf := hk.2.1; have hk := hk.2.2))) | (go_at_call 14; (with_reducible refine (inRange_eq (Hid.out (by with_reducible assumption)) _).mono ?_); rintro e w1 ⟨rfl, rfl⟩))
        ((try simp only [Exit.inBlock, Exit.then]); refine bodyPost_ret (by simp [results, Try.results26, go_sem, *]; try rfl) rfl ?_)
        rw [R.out]
        exact ⟨_, _, rfl, OwnJ.nil _ _, by (repeat' (first | (with_reducible exact Below.refl _ _) | (with_reducible assumption) | (with_reducible refine Below.alloc ?_ ?_ _) | (with_reducible refine below_drewN ?_ _) | (with_reducible refine Below.drew ?_) | (with_reducible refine Below.setCell ?_ ?_ _) | (with_reducible refine below_call (by assumption) ?_ ?_) | (with_reducible refine below_grown (by assumption) ?_ ?_ ?_) | omega | (simp; done) | (simp; omega)))⟩
    · by_cases h5 : b = 500
      · have e2 : ok = false := by rw [hok', decide_eq_false (by omega)]; simp
        have R := Lib.hid (NO.out e2)
        subst e2
        have g1 : decide (b - t = 16) = false := decide_eq_false h2
        have g2 : ((b - t) == 16) = false := by simpa using h2
        clear hok hok' hv h1
        subst h5
        cases v
        all_goals
          go_enter Try.func26, Try.ntmps26
          go_wp2_with (first | (go_at_call 30; (with_reducible refine (validDeque_eq c (HP.out.below (by (repeat' (first | (with_reducible exact Below.refl _ _) | (with_reducible assumption) | (with_reducible refine Below.alloc ?_ ?_ _) | (with_reducible refine below_drewN ?_ _) | (with_reducible refine Below.drew ?_) | (with_reducible refine Below.setCell ?_ ?_ _) | (with_reducible refine below_call (by assumption) ?_ ?_) | (with_reducible refine below_grown (by assumption) ?_ ?_ ?_) | omega | (simp; done) | (simp; omega))))) hn (Hid.out (by with_reducible assumption))).mono ?_); rintro e w1 ⟨rfl, hb⟩; have hz := hb.size; (try simp at hz); (try (have hk := bcl hb (w.heap.size) (by first | omega | (simp; done) | (simp; omega)); have hc := hk.1; have hf := hk.2.1; have hk := hk.2.2)); (try (have hk := bcl hb (w.heap.size + 1) (by first | omega | (simp; done) | (simp; omega)); have hc := hk.1; have hf := hk.2.1; have hk := hk.2.2))) | (go_at_call 14; (with_reducible refine (inRange_eq (Hid.out (by with_reducible assumption)) _).mono ?_); rintro e w1 ⟨rfl, rfl⟩))
          ((try simp only [Exit.inBlock, Exit.then]); refine bodyPost_ret (by simp [results, Try.results26, go_sem, *]; try rfl) rfl ?_)
          rw [R.out]
          exact ⟨_, _, rfl, OwnJ.nil _ _, by (repeat' (first | (with_reducible exact Below.refl _ _) | (with_reducible assumption) | (with_reducible refine Below.alloc ?_ ?_ _) | (with_reducible refine below_drewN ?_ _) | (with_reducible refine Below.drew ?_) | (with_reducible refine Below.setCell ?_ ?_ _) | (with_reducible refine below_call (by assumption) ?_ ?_) | (with_reducible refine below_grown (by assumption) ?_ ?_ ?_) | omega | (simp; done) | (simp; omega)))⟩
      · have g1 : decide (b - t = 16) = false := decide_eq_false h2
        have g2 : ((b - t) == 16) = false := by simpa using h2
        have g3 : decide (b = 500) = false := decide_eq_false h5
        have g4 : (b == 500) = false := by simpa using h5
        cases v with
        | false =>
          have e2 : ok = false := by rw [hok']; rfl
          have R := Lib.hid (NO.out e2)
          subst e2
          clear hok hok' hv h1
          go_enter Try.func26, Try.ntmps26
          go_wp2_with (first | (go_at_call 30; (with_reducible refine (validDeque_eq c (HP.out.below (by (repeat' (first | (with_reducible exact Below.refl _ _) | (with_reducible assumption) | (with_reducible refine Below.alloc ?_ ?_ _) | (with_reducible refine below_drewN ?_ _) | (with_reducible refine Below.drew ?_) | (with_reducible refine Below.setCell ?_ ?_ _) | (with_reducible refine below_call (by assumption) ?_ ?_) | (with_reducible refine below_grown (by assumption) ?_ ?_ ?_) | omega | (simp; done) | (simp; omega))))) hn (Hid.out (by with_reducible assumption))).mono ?_); rintro e w1 ⟨rfl, hb⟩; have hz := hb.size; (try simp at hz); (try (have hk := bcl hb (w.heap.size) (by first | omega | (simp; done) | (simp; omega)); have hc := hk.1; have hf := hk.2.1; have hk := hk.2.2)); (try (have hk := bcl hb (w.heap.size + 1) (by first | omega | (simp; done) | (simp; omega)); have hc := hk.1; have hf := hk.2.1; have hk := hk.2.2))) | (go_at_call 14; (with_reducible refine (inRange_eq (Hid.out (by with_reducible assumption)) _).mono ?_); rintro e w1 ⟨rfl, rfl⟩))
          ((try simp only [Exit.inBlock, Exit.then]); refine bodyPost_ret (by simp [results, Try.results26, go_sem, *]; try rfl) rfl ?_)
          rw [R.out]
          exact ⟨_, _, rfl, OwnJ.nil _ _, by (repeat' (first | (with_reducible exact Below.refl _ _) | (with_reducible assumption) | (with_reducible refine Below.alloc ?_ ?_ _) | (with_reducible refine below_drewN ?_ _) | (with_reducible refine Below.drew ?_) | (with_reducible refine Below.setCell ?_ ?_ _) | (with_reducible refine below_call (by assumption) ?_ ?_) | (with_reducible refine below_grown (by assumption) ?_ ?_ ?_) | omega | (simp; done) | (simp; omega)))⟩
        | true =>
          have e2 : ok = true := by rw [hok', decide_eq_true ⟨h2, h5⟩]; rfl
          have R := Lib.hid (pushR_ok (hok.trans e2))
          subst e2
          obtain ⟨q1, q2, _⟩ := validD_iff.1 hv
          simp only at q1 q2
          obtain rfl : n = 16 := by rw [← HL.out]; exact q1
          have hadd : IntKind.i64.wrap (b + 1) = b + 1 := IntWalk.i64_in _ (by omega)
          obtain ⟨hB0, hB1⟩ : 0 ≤ b ∧ b ≤ 1000000 := by omega
          clear hok hok' hv h1 q1 q2
          go_enter Try.func26, Try.ntmps26
          go_wp2_with (first | (go_at_call 30; (with_reducible refine (validDeque_eq c (HP.out.below (by (repeat' (first | (with_reducible exact Below.refl _ _) | (with_reducible assumption) | (with_reducible refine Below.alloc ?_ ?_ _) | (with_reducible refine below_drewN ?_ _) | (with_reducible refine Below.drew ?_) | (with_reducible refine Below.setCell ?_ ?_ _) | (with_reducible refine below_call (by assumption) ?_ ?_) | (with_reducible refine below_grown (by assumption) ?_ ?_ ?_) | omega | (simp; done) | (simp; omega))))) hn (Hid.out (by with_reducible assumption))).mono ?_); rintro e wv ⟨rfl, hb⟩; have hz := hb.size; (try simp at hz); (try (have hk := bcl hb (w.heap.size) (by first | omega | (simp; done) | (simp; omega)); have hc := hk.1; have hf := hk.2.1; have hk := hk.2.2)); (try (have hk := bcl hb (w.heap.size + 1) (by first | omega | (simp; done) | (simp; omega)); have hc := hk.1; have hf := hk.2.1; have hk := hk.2.2))) | (go_at_call 14; (with_reducible refine (inRange_eq (Hid.out (by with_reducible assumption)) _).mono ?_); rintro e w1 ⟨rfl, rfl⟩))
          have HPv := Lib.hid (HP.out.below (show Below w.heap.size w wv by (repeat' (first | (with_reducible exact Below.refl _ _) | (with_reducible assumption) | (with_reducible refine Below.alloc ?_ ?_ _) | (with_reducible refine below_drewN ?_ _) | (with_reducible refine Below.drew ?_) | (with_reducible refine Below.setCell ?_ ?_ _) | (with_reducible refine below_call (by assumption) ?_ ?_) | (with_reducible refine below_grown (by assumption) ?_ ?_ ?_) | omega | (simp; done) | (simp; omega)))))
          have hbv := hb
          apply wp_region_pure (by kernel_rfl) ([] :: [0] :: [] :: [2] :: [] :: [1, 3, 4] :: [] :: [6] :: [] :: [8] :: [9] :: []) (RS.det [] _ :: RS.det [0] _ :: RS.det [] _ :: RS.det [2] _ :: RS.det [] _ :: RS.q [1, 3, 4] (SlJ wv.heap.size (set16 l b x)) :: RS.det [] _ :: RS.det [6] _ :: RS.det [] _ :: RS.det [8] _ :: RS.det [9] _ :: []) [] rfl (by kernel_rfl) (fun h => absurd rfl h) (by kernel_rfl) (by kernel_rfl) (st_det (st_det (st_det (st_det (st_det (st_q (fun _ _ _ hR h => SlJ.below h hR) (st_det (st_det (st_det (st_det (st_det st_nil))))))))))) _ (fun v => by simp; rfl)
          case hop =>
            simp only [Obls]
            refine ⟨?_, ?_, ?_, ?_, ?_, ?_, ?_, ?_, ?_, ?_, ?_, trivial⟩
            · (intro v w1 K hb hF hK; (try simp at hF); simp at hK; (try simp only [hF] at hK); have hz := hb.size; (try simp at hz))
              go_simp
              (try simp only [])
              exact hK _ _ rfl (by (repeat' (first | (with_reducible exact Below.refl _ _) | (with_reducible assumption) | (with_reducible refine Below.alloc ?_ ?_ _) | (with_reducible refine below_drewN ?_ _) | (with_reducible refine Below.drew ?_) | (with_reducible refine Below.setCell ?_ ?_ _) | (with_reducible refine below_call (by assumption) ?_ ?_) | go_size)))
            · (intro v w1 K hb hF hK; (try simp at hF); simp at hK; (try simp only [hF] at hK); have hz := hb.size; (try simp at hz); (try (have hk := bcl hb (w.heap.size) (by first | omega | (simp; done) | (simp; omega)); have hc := hk.1; have hf := hk.2.1; have hk := hk.2.2)))
              go_simp
              (try simp only [])
              exact hK _ _ rfl (by (repeat' (first | (with_reducible exact Below.refl _ _) | (with_reducible assumption) | (with_reducible refine Below.alloc ?_ ?_ _) | (with_reducible refine below_drewN ?_ _) | (with_reducible refine Below.drew ?_) | (with_reducible refine Below.setCell ?_ ?_ _) | (with_reducible refine below_call (by assumption) ?_ ?_) | go_size)))
            · (intro v w1 K hb hF hK; (try simp at hF); simp at hK; (try simp only [hF] at hK); have hz := hb.size; (try simp at hz))
              go_simp
              (try simp only [])
              exact hK _ _ rfl (by (repeat' (first | (with_reducible exact Below.refl _ _) | (with_reducible assumption) | (with_reducible refine Below.alloc ?_ ?_ _) | (with_reducible refine below_drewN ?_ _) | (with_reducible refine Below.drew ?_) | (with_reducible refine Below.setCell ?_ ?_ _) | (with_reducible refine below_call (by assumption) ?_ ?_) | go_size)))
            · (intro v w1 K hb hF hK; (try simp at hF); simp at hK; (try simp only [hF] at hK); have hz := hb.size; (try simp at hz); (try (have hk := bcl hb (w.heap.size) (by first | omega | (simp; done) | (simp; omega)); have hc := hk.1; have hf := hk.2.1; have hk := hk.2.2)))
              go_simp
              (try simp only [])
              exact hK _ _ rfl (by (repeat' (first | (with_reducible exact Below.refl _ _) | (with_reducible assumption) | (with_reducible refine Below.alloc ?_ ?_ _) | (with_reducible refine below_drewN ?_ _) | (with_reducible refine Below.drew ?_) | (with_reducible refine Below.setCell ?_ ?_ _) | (with_reducible refine below_call (by assumption) ?_ ?_) | go_size)))
            · (intro v w1 K hb hF hK; (try simp at hF); simp at hK; (try simp only [hF] at hK); have hz := hb.size; (try simp at hz))
              go_simp
              (try simp only [])
              exact hK _ _ rfl (by (repeat' (first | (with_reducible exact Below.refl _ _) | (with_reducible assumption) | (with_reducible refine Below.alloc ?_ ?_ _) | (with_reducible refine below_drewN ?_ _) | (with_reducible refine Below.drew ?_) | (with_reducible refine Below.setCell ?_ ?_ _) | (with_reducible refine below_call (by assumption) ?_ ?_) | go_size)))
            · (intro v w1 K hb hF hK; (try simp at hF); simp at hK; (try simp only [hF] at hK); have hz := hb.size; (try simp at hz); (try (have hk := bcl hb (w.heap.size) (by first | omega | (simp; done) | (simp; omega)); have hc := hk.1; have hf := hk.2.1; have hk := hk.2.2)))
              go_simp
              (first | (go_at_call 31; refine (withSlot_any c (HPv.out.below hb) hB0 hB1).mono ?_; rintro e w2 ⟨B2, d2, rfl, hown, hb⟩))
              (try simp only [])
              exact hK _ _ (⟨_, _, rfl, hown.lower (by omega)⟩) (by (repeat' (first | (with_reducible exact Below.refl _ _) | (with_reducible assumption) | (with_reducible refine Below.alloc ?_ ?_ _) | (with_reducible refine below_drewN ?_ _) | (with_reducible refine Below.drew ?_) | (with_reducible refine Below.setCell ?_ ?_ _) | (with_reducible refine below_call (by assumption) ?_ ?_) | go_size)))
            · (intro v w1 K hb hF hK; (try simp at hF); simp at hK; (try simp only [hF] at hK); have hz := hb.size; (try simp at hz))
              go_simp
              (try simp only [])
              exact hK _ _ rfl (by (repeat' (first | (with_reducible exact Below.refl _ _) | (with_reducible assumption) | (with_reducible refine Below.alloc ?_ ?_ _) | (with_reducible refine below_drewN ?_ _) | (with_reducible refine Below.drew ?_) | (with_reducible refine Below.setCell ?_ ?_ _) | (with_reducible refine below_call (by assumption) ?_ ?_) | go_size)))
            · (intro v w1 K hb hF hK; (try simp at hF); simp at hK; (try simp only [hF] at hK); have hz := hb.size; (try simp at hz); (try (have hk := bcl hb (w.heap.size) (by first | omega | (simp; done) | (simp; omega)); have hc := hk.1; have hf := hk.2.1; have hk := hk.2.2)))
              go_simp
              (try simp only [])
              exact hK _ _ rfl (by (repeat' (first | (with_reducible exact Below.refl _ _) | (with_reducible assumption) | (with_reducible refine Below.alloc ?_ ?_ _) | (with_reducible refine below_drewN ?_ _) | (with_reducible refine Below.drew ?_) | (with_reducible refine Below.setCell ?_ ?_ _) | (with_reducible refine below_call (by assumption) ?_ ?_) | go_size)))
            · (intro v w1 K hb hF hK; (try simp at hF); simp at hK; (try simp only [hF] at hK); have hz := hb.size; (try simp at hz))
              go_simp
              (try simp only [])
              exact hK _ _ rfl (by (repeat' (first | (with_reducible exact Below.refl _ _) | (with_reducible assumption) | (with_reducible refine Below.alloc ?_ ?_ _) | (with_reducible refine below_drewN ?_ _) | (with_reducible refine Below.drew ?_) | (with_reducible refine Below.setCell ?_ ?_ _) | (with_reducible refine below_call (by assumption) ?_ ?_) | go_size)))
            · (intro v w1 K hb hF hK; (try simp at hF); simp at hK; (try simp only [hF] at hK); have hz := hb.size; (try simp at hz); (try (have hk := bcl hb (w.heap.size) (by first | omega | (simp; done) | (simp; omega)); have hc := hk.1; have hf := hk.2.1; have hk := hk.2.2)))
              go_simp
              (try simp only [])
              exact hK _ _ rfl (by (repeat' (first | (with_reducible exact Below.refl _ _) | (with_reducible assumption) | (with_reducible refine Below.alloc ?_ ?_ _) | (with_reducible refine below_drewN ?_ _) | (with_reducible refine Below.drew ?_) | (with_reducible refine Below.setCell ?_ ?_ _) | (with_reducible refine below_call (by assumption) ?_ ?_) | go_size)))
            · (intro v w1 K hb hF hK; (try simp at hF); simp at hK; (try simp only [hF] at hK); have hz := hb.size; (try simp at hz))
              go_simp
              (try simp only [])
              exact hK _ _ rfl (by (repeat' (first | (with_reducible exact Below.refl _ _) | (with_reducible assumption) | (with_reducible refine Below.alloc ?_ ?_ _) | (with_reducible refine below_drewN ?_ _) | (with_reducible refine Below.drew ?_) | (with_reducible refine Below.setCell ?_ ?_ _) | (with_reducible refine below_call (by assumption) ?_ ?_) | go_size)))
          case hfo => exact trivial
          (intro v w1 hb hF; simp [List.range, List.range.loop] at hF; have hz := hb.size; (try simp at hz); (try (have hk := bcl hb (w.heap.size) (by first | omega | (simp; done) | (simp; omega)); have hc := hk.1; have hf := hk.2.1; have hk := hk.2.2)))
          obtain ⟨e0, e1, e2, e3, e4, ⟨B2, d2, e5, ho⟩, e6, e7, e8, e9, e10⟩ := hF
          simp only [List.length_cons, List.length_nil, List.drop_succ_cons, List.drop_zero, e0, e1, e2, e3, e4, e5, e6, e7, e8, e9, e10]
          clear e0 e1 e2 e3 e4 e5 e6 e7 e8 e9 e10 v
          have HO := Lib.hid ho
          clear ho
          have hk1 := blk_below (blk_below (blk_new1 w (.cells #[.slice A 16 c, .int .i64 t, .int .i64 b] 56) (.cells #[.slice none 0 0, .int .i64 0, .int .i64 0] 56)) hbv) hb
          have hkc1 := blk_cell hk1
          have hkf1 := blk_free hk1
          have hkl1 := blk_lt hk1
          clear hk1
          go_wp2
          ((try simp only [Exit.inBlock, Exit.then]); refine bodyPost_ret (by simp [results, Try.results26, go_sem, *]; try rfl) rfl ?_)
          rw [R.out]
          have hlen : (set16 l b x).length = 16 := by rw [set16_len, HL.out]
          have hzv := hbv.size
          simp at hzv
          refine ⟨B2, d2, by rw [hlen], ?_, by (repeat' (first | (with_reducible exact Below.refl _ _) | (with_reducible assumption) | (with_reducible refine Below.alloc ?_ ?_ _) | (with_reducible refine below_drewN ?_ _) | (with_reducible refine Below.drew ?_) | (with_reducible refine Below.setCell ?_ ?_ _) | (with_reducible refine below_call (by assumption) ?_ ?_) | (with_reducible refine below_grown (by assumption) ?_ ?_ ?_) | omega | (simp; done) | (simp; omega)))⟩
          rw [hlen]
          exact (HO.out.heap (fun g hg => by repeat (first | rfl | (with_reducible refine blk_far ?_ _ (by first | omega | (simp; omega)))))).lower (by omega)
  · have H1 := Lib.hid h1
    have e2 : ok = false := by rw [← hok, pushOk, show decide (0 ≤ x ∧ x ≤ 99) = false from h1]; simp
    have R := Lib.hid (NO.out e2)
    subst e2
    clear hok hv h1
    cases v
    all_goals
      go_enter Try.func26, Try.ntmps26
      go_wp2_with (first | (go_at_call 30; (with_reducible refine (validDeque_eq c (HP.out.below (by (repeat' (first | (with_reducible exact Below.refl _ _) | (with_reducible assumption) | (with_reducible refine Below.alloc ?_ ?_ _) | (with_reducible refine below_drewN ?_ _) | (with_reducible refine Below.drew ?_) | (with_reducible refine Below.setCell ?_ ?_ _) | (with_reducible refine below_call (by assumption) ?_ ?_) | (with_reducible refine below_grown (by assumption) ?_ ?_ ?_) | omega | (simp; done) | (simp; omega))))) hn (Hid.out (by with_reducible assumption))).mono ?_); rintro e w1 ⟨rfl, hb⟩; have hz := hb.size; (try simp at hz); (try (have hk := bcl hb (w.heap.size) (by first | omega | (simp; done) | (simp; omega)); have hc := hk.1; have hf := hk.2.1; have hk := hk.2.2)); (try (have hk := bcl hb (w.heap.size + 1) (by first | omega | (simp; done) | (simp; omega)); have hc := hk.1; have hf := hk.2.1; have hk := hk.2.2))) | (go_at_call 14; (with_reducible refine (inRange_eq (Hid.out (by with_reducible assumption)) _).mono ?_); rintro e w1 ⟨rfl, rfl⟩))
      ((try simp only [Exit.inBlock, Exit.then]); refine bodyPost_ret (by simp [results, Try.results26, go_sem, *]; try rfl) rfl ?_)
      rw [R.out]
      exact ⟨_, _, rfl, OwnJ.nil _ _, by (repeat' (first | (with_reducible exact Below.refl _ _) | (with_reducible assumption) | (with_reducible refine Below.alloc ?_ ?_ _) | (with_reducible refine below_drewN ?_ _) | (with_reducible refine Below.drew ?_) | (with_reducible refine Below.setCell ?_ ?_ _) | (with_reducible refine below_call (by assumption) ?_ ?_) | (with_reducible refine below_grown (by assumption) ?_ ?_ ?_) | omega | (simp; done) | (simp; omega)))⟩

end Go.Proofs.Ytadpmigppjjmhaa
