/-
  What the exact laws do with lists of numbers: comparisons, marks.
-/
import Derived.Test.YtikpaebemiobpaaIntF
import Derived.Test.YtikpaebemiobpaaRdr
namespace Go.Proofs.Ytikpaebemiobpaa
open Go.RowKit Pl

set_option linter.unusedSimpArgs false
set_option linter.unusedVariables false

set_option maxHeartbeats 1000000 in
theorem eqIntS_same {A A' : Option Addr} {n : Nat} {l : List Int} {w : World} (c c' : Nat) (h : IsI w A n l) (h' : IsI w A' n l) (hn : n ≤ 1000000000000) :
    Calls Try.prog 9 #[.slice A n c, .slice A' n c'] w fun e w' => e = .returned (.bool true) ∧ Below w.heap.size w w' := by
  have HP := Lib.hid h
  have HP' := Lib.hid h'
  clear h h'
  go_enter Try.func9, Try.ntmps9
  go_wp2
  go_loopw [5] (fun i wr => ∃ k : Nat, k ≤ n ∧ i = .int .i64 k ∧ Below w.heap.size w wr) (fun i _ => n - (intOf i).toNat)
  case atStart => exact ⟨0, by omega, rfl, by (repeat' (first | (with_reducible exact Below.refl _ _) | (with_reducible assumption) | (with_reducible refine Below.alloc ?_ ?_ _) | (with_reducible refine below_drewN ?_ _) | (with_reducible refine Below.drew ?_) | (with_reducible refine Below.setCell ?_ ?_ _) | (with_reducible refine below_call (by assumption) ?_ ?_) | (with_reducible refine below_grown (by assumption) ?_ ?_ ?_) | omega | (simp; done) | (simp; omega)))⟩
  case round =>
    obtain ⟨k, hk, rfl, hbel⟩ := hrel
    have hsz := hbel.size
    by_cases hlt : k < n
    · have eb : decide ((k : Int) < n) = true := by simp; omega
      have hki : (k : Int) < n := by omega
      obtain ⟨b, o, rfl, hbl, c0⟩ := (HP.out.below hbel).at_ hlt
      obtain ⟨b', o', rfl, hbl', c0'⟩ := (HP'.out.below hbel).at_ hlt
      go_wp2_with fail
      apply wp_region_pure (by kernel_rfl) ([] :: [] :: [0, 1] :: [2] :: [] :: [] :: [4, 5] :: [6] :: [3, 7] :: []) (RS.det [] _ :: RS.det [] _ :: RS.det [0, 1] _ :: RS.det [2] _ :: RS.det [] _ :: RS.det [] _ :: RS.det [4, 5] _ :: RS.det [6] _ :: RS.det [3, 7] _ :: []) [] rfl (by kernel_rfl) (fun h => absurd rfl h) (by kernel_rfl) (by kernel_rfl) (st_det (st_det (st_det (st_det (st_det (st_det (st_det (st_det (st_det st_nil))))))))) _ (fun v => by simp; rfl)
      case hop =>
        simp only [Obls]
        refine ⟨?_, ?_, ?_, ?_, ?_, ?_, ?_, ?_, ?_, trivial⟩
        · (intro v w1 K hb hF hK; (try simp at hF); simp at hK; (try simp only [hF] at hK); have hz := hb.size; (try simp at hz))
          go_simp
          (try simp only [])
          exact hK _ _ rfl (by (repeat' (first | (with_reducible exact Below.refl _ _) | (with_reducible assumption) | (with_reducible refine Below.alloc ?_ ?_ _) | (with_reducible refine below_drewN ?_ _) | (with_reducible refine Below.drew ?_) | (with_reducible refine Below.setCell ?_ ?_ _) | (with_reducible refine below_call (by assumption) ?_ ?_) | go_size)))
        · (intro v w1 K hb hF hK; (try simp at hF); simp at hK; (try simp only [hF] at hK); have hz := hb.size; (try simp at hz))
          go_simp
          (try simp only [])
          exact hK _ _ rfl (by (repeat' (first | (with_reducible exact Below.refl _ _) | (with_reducible assumption) | (with_reducible refine Below.alloc ?_ ?_ _) | (with_reducible refine below_drewN ?_ _) | (with_reducible refine Below.drew ?_) | (with_reducible refine Below.setCell ?_ ?_ _) | (with_reducible refine below_call (by assumption) ?_ ?_) | go_size)))
        · (intro v w1 K hb hF hK; (try simp at hF); simp at hK; (try simp only [hF] at hK); have hz := hb.size; (try simp at hz))
          go_simp
          (try simp only [])
          exact hK _ _ rfl (by (repeat' (first | (with_reducible exact Below.refl _ _) | (with_reducible assumption) | (with_reducible refine Below.alloc ?_ ?_ _) | (with_reducible refine below_drewN ?_ _) | (with_reducible refine Below.drew ?_) | (with_reducible refine Below.setCell ?_ ?_ _) | (with_reducible refine below_call (by assumption) ?_ ?_) | go_size)))
        · (intro v w1 K hb hF hK; (try simp at hF); simp at hK; (try simp only [hF] at hK); have hz := hb.size; (try simp at hz); (try (have hk := bcl hb (b) (by first | omega | (simp; done) | (simp; omega)); have hc := hk.1; have hf := hk.2.1; have hk := hk.2.2)); (try (have hk := bcl hb (b') (by first | omega | (simp; done) | (simp; omega)); have hc := hk.1; have hf := hk.2.1; have hk := hk.2.2)))
          go_simp
          (try simp only [])
          exact hK _ _ rfl (by (repeat' (first | (with_reducible exact Below.refl _ _) | (with_reducible assumption) | (with_reducible refine Below.alloc ?_ ?_ _) | (with_reducible refine below_drewN ?_ _) | (with_reducible refine Below.drew ?_) | (with_reducible refine Below.setCell ?_ ?_ _) | (with_reducible refine below_call (by assumption) ?_ ?_) | go_size)))
        · (intro v w1 K hb hF hK; (try simp at hF); simp at hK; (try simp only [hF] at hK); have hz := hb.size; (try simp at hz))
          go_simp
          (try simp only [])
          exact hK _ _ rfl (by (repeat' (first | (with_reducible exact Below.refl _ _) | (with_reducible assumption) | (with_reducible refine Below.alloc ?_ ?_ _) | (with_reducible refine below_drewN ?_ _) | (with_reducible refine Below.drew ?_) | (with_reducible refine Below.setCell ?_ ?_ _) | (with_reducible refine below_call (by assumption) ?_ ?_) | go_size)))
        · (intro v w1 K hb hF hK; (try simp at hF); simp at hK; (try simp only [hF] at hK); have hz := hb.size; (try simp at hz))
          go_simp
          (try simp only [])
          exact hK _ _ rfl (by (repeat' (first | (with_reducible exact Below.refl _ _) | (with_reducible assumption) | (with_reducible refine Below.alloc ?_ ?_ _) | (with_reducible refine below_drewN ?_ _) | (with_reducible refine Below.drew ?_) | (with_reducible refine Below.setCell ?_ ?_ _) | (with_reducible refine below_call (by assumption) ?_ ?_) | go_size)))
        · (intro v w1 K hb hF hK; (try simp at hF); simp at hK; (try simp only [hF] at hK); have hz := hb.size; (try simp at hz))
          go_simp
          (try simp only [])
          exact hK _ _ rfl (by (repeat' (first | (with_reducible exact Below.refl _ _) | (with_reducible assumption) | (with_reducible refine Below.alloc ?_ ?_ _) | (with_reducible refine below_drewN ?_ _) | (with_reducible refine Below.drew ?_) | (with_reducible refine Below.setCell ?_ ?_ _) | (with_reducible refine below_call (by assumption) ?_ ?_) | go_size)))
        · (intro v w1 K hb hF hK; (try simp at hF); simp at hK; (try simp only [hF] at hK); have hz := hb.size; (try simp at hz); (try (have hk := bcl hb (b) (by first | omega | (simp; done) | (simp; omega)); have hc := hk.1; have hf := hk.2.1; have hk := hk.2.2)); (try (have hk := bcl hb (b') (by first | omega | (simp; done) | (simp; omega)); have hc := hk.1; have hf := hk.2.1; have hk := hk.2.2)))
          go_simp
          (try simp only [])
          exact hK _ _ rfl (by (repeat' (first | (with_reducible exact Below.refl _ _) | (with_reducible assumption) | (with_reducible refine Below.alloc ?_ ?_ _) | (with_reducible refine below_drewN ?_ _) | (with_reducible refine Below.drew ?_) | (with_reducible refine Below.setCell ?_ ?_ _) | (with_reducible refine below_call (by assumption) ?_ ?_) | go_size)))
        · (intro v w1 K hb hF hK; (try simp at hF); simp at hK; (try simp only [hF] at hK); have hz := hb.size; (try simp at hz))
          go_simp
          (try simp only [])
          exact hK _ _ rfl (by (repeat' (first | (with_reducible exact Below.refl _ _) | (with_reducible assumption) | (with_reducible refine Below.alloc ?_ ?_ _) | (with_reducible refine below_drewN ?_ _) | (with_reducible refine Below.drew ?_) | (with_reducible refine Below.setCell ?_ ?_ _) | (with_reducible refine below_call (by assumption) ?_ ?_) | go_size)))
      case hfo => exact trivial
      (intro v w1 hb hF; simp [List.range, List.range.loop] at hF; have hz := hb.size; (try simp at hz); (try (have hk := bcl hb (b) (by first | omega | (simp; done) | (simp; omega)); have hc := hk.1; have hf := hk.2.1; have hk := hk.2.2)); (try (have hk := bcl hb (b') (by first | omega | (simp; done) | (simp; omega)); have hc := hk.1; have hf := hk.2.1; have hk := hk.2.2)))
      obtain ⟨e0, e1, e2, e3, e4, e5, e6, e7, e8⟩ := hF
      simp only [List.length_cons, List.length_nil, List.drop_succ_cons, List.drop_zero, e0, e1, e2, e3, e4, e5, e6, e7, e8]
      clear e0 e1 e2 e3 e4 e5 e6 e7 e8 v
      go_wp2
      go_roundw
      case rel => exact ⟨k + 1, by omega, by go_num, by (repeat' (first | (with_reducible exact Below.refl _ _) | (with_reducible assumption) | (with_reducible refine Below.alloc ?_ ?_ _) | (with_reducible refine below_drewN ?_ _) | (with_reducible refine Below.drew ?_) | (with_reducible refine Below.setCell ?_ ?_ _) | (with_reducible refine below_call (by assumption) ?_ ?_) | (with_reducible refine below_grown (by assumption) ?_ ?_ ?_) | omega | (simp; done) | (simp; omega)))⟩
      case measure => simp [intOf]; omega
    · obtain rfl : k = n := by omega
      have eb : decide ((k : Int) < k) = false := by simp
      go_wp2
      go_ret
      exact ⟨rfl, by (repeat' (first | (with_reducible exact Below.refl _ _) | (with_reducible assumption) | (with_reducible refine Below.alloc ?_ ?_ _) | (with_reducible refine below_drewN ?_ _) | (with_reducible refine Below.drew ?_) | (with_reducible refine Below.setCell ?_ ?_ _) | (with_reducible refine below_call (by assumption) ?_ ?_) | (with_reducible refine below_grown (by assumption) ?_ ?_ ?_) | omega | (simp; done) | (simp; omega)))⟩

/-- The numbers that mark a list. -/
def marksI (k : Int) (n : Nat) : List Int := (List.range n).map fun i : Nat => k + (i : Int)
theorem marksI_len (k : Int) (n : Nat) : (marksI k n).length = n := by simp [marksI]
theorem marksI_at {k : Int} {n i : Nat} (h : i < n) : nt (marksI k n) i = k + (i : Int) := by simp [marksI, nt, h]

/-- Cell by cell: the first k numbers are marked. -/
def HasMI (cur : Array Value) (n : Nat) (m : Int) (k : Nat) : Prop := n ≤ cur.size ∧ ∀ i, i < k → cur[i]? = some (.int .i64 (m + (i : Int)))
theorem HasMI.step {cur : Array Value} {n : Nat} {m : Int} {k : Nat} (h : HasMI cur n m k) (hk : k < n) : HasMI (cur.setIfInBounds k (.int .i64 (m + (k : Int)))) n m (k + 1) := by
  have h1 := h.1
  refine ⟨by simpa using h.1, fun i hi => ?_⟩
  by_cases e : i = k
  · subst e
    rw [Array.getElem?_setIfInBounds_self_of_lt (by omega)]
  · rw [Array.getElem?_setIfInBounds_ne (by omega)]; exact h.2 i (by omega)
theorem HasMI.done {cur : Array Value} {n : Nat} {m : Int} (h : HasMI cur n m n) : ∀ (i : Nat) (u : Value), (iv (marksI m n))[i]? = some u → cur[i]? = some u := fun i u hu => by
  have hi : i < n := by have := (List.getElem?_eq_some_iff.1 hu).1; rwa [iv_len, marksI_len] at this
  rw [iv_at (by rw [marksI_len]; exact hi), marksI_at hi] at hu
  rw [h.2 i hi]; exact hu

/-- What marking leaves. -/
def MarkedI (base : Nat) (v : Value) (n : Nat) (k : Int) (w : World) (e : Ending) (w' : World) : Prop := e = .returned (.int .i64 (k + (n : Int))) ∧ OwnJ base w' v (marksI k n) ∧ w.grownBy w' v.ownBlock

set_option maxHeartbeats 1000000 in
theorem markIntS_any {base : Nat} {A : Option Addr} {n c : Nat} {l : List Int} {w : World} {m : Int} (h : OwnJ base w (.slice A n c) l) (hn : n ≤ 1048576) (h0 : 0 ≤ m) (h1 : m ≤ 1000000000) :
    Calls Try.prog 10 #[.slice A n c, .int .i64 m] w (MarkedI base (.slice A n c) n m w) := by
  obtain ⟨A', c', e0, k1, k2, k3, k4⟩ := h
  cases e0
  rw [iv_len] at k1 k4 hn ⊢
  rcases Nat.eq_zero_or_pos l.length with hz | hz
  · have e2 := List.length_eq_zero_iff.1 hz
    subst e2
    clear k4 hz
    go_enter Try.func10, Try.ntmps10
    go_wp2
    go_loop [5, 1] (fun i mm => i = .int .i64 0 ∧ mm = .int .i64 m) (fun _ _ => 0)
    case atStart => exact ⟨rfl, rfl⟩
    case round =>
      obtain ⟨rfl, rfl⟩ := hrel
      go_wp2
      go_ret
      exact ⟨by simp, ⟨A, c, rfl, k1, k2, k3, fun h => absurd h (Nat.lt_irrefl _)⟩, World.grownBy.refl _ _⟩
  · obtain ⟨g, cur, rfl, hg, hh, _⟩ := k4 hz
    have hbg := k3 _ rfl
    simp only at hbg
    obtain ⟨n, hnl⟩ : ∃ n, l.length = n := ⟨_, rfl⟩
    rw [hnl] at hh
    have hgs := blk_lt hg
    have H0 : Hid (HasMI cur n m 0) := Lib.hid ⟨hh, fun i hi => absurd hi (Nat.not_lt_zero i)⟩
    clear k4 k3 hh
    rw [hnl] at hn hz k1 ⊢
    clear hnl
    go_enter Try.func10, Try.ntmps10
    go_wp2
    go_loopw [5, 1] (fun i mm wr => ∃ (k : Nat) (cur : Array Value), k ≤ n ∧ i = .int .i64 k ∧ mm = .int .i64 (m + (k : Int)) ∧ wr.heap[g]? = some (.cells cur 3 (0, 0)) ∧ HasMI cur n m k ∧ w.grownBy wr (some g)) (fun i _ _ => n - (intOf i).toNat)
    case atStart => exact ⟨0, cur, by omega, rfl, by simp, hg, H0.out, World.grownBy.refl _ _⟩
    case round =>
      obtain ⟨k, cur, hk, rfl, rfl, hb1, hm, hgr⟩ := hrel
      have hl1 := blk_lt hb1
      have hc1 := blk_cell hb1
      have hf1 := blk_free hb1
      have HB := Lib.hid hb1
      have HM := Lib.hid hm
      have HG := Lib.hid hgr
      have hcs : Hid (n ≤ cur.size) := Lib.hid hm.1
      clear hb1 hm hg H0 hgr
      by_cases hlt : k < n
      · have eb : decide ((k : Int) < n) = true := by simp; omega
        have hki : (k : Int) < n := by omega
        have c0 : ∃ u, wr.cell? ⟨g, k, none⟩ = some u := ⟨_, (hc1 _).trans (Array.getElem?_eq_getElem (by have := hcs.out; omega))⟩
        obtain ⟨u0, c0⟩ := c0
        clear hc1
        go_wp2
        go_roundw
        case rel => exact ⟨k + 1, _, by omega, by go_num, by rw [show m + ((k + 1 : Nat) : Int) = m + (k : Int) + 1 by omega], blk_set HB.out _ _, HM.out.step hlt, only_setCell HG.out (.inl rfl) _⟩
        case measure => simp [intOf]; omega
      · obtain rfl : k = n := by omega
        have eb : decide ((k : Int) < k) = false := by simp
        have HD := Lib.hid HM.out.done
        go_wp2
        go_ret
        exact ⟨rfl, ⟨_, c, by rw [iv_len, marksI_len], by rw [iv_len, marksI_len]; exact k1, k2, fun a e => (by cases e; exact hbg), fun _ => ⟨g, cur, rfl, HB.out, by rw [iv_len, marksI_len]; exact hcs.out, HD.out⟩⟩, HG.out⟩

set_option maxHeartbeats 1000000 in
theorem heldIntS_any {A : Option Addr} {n : Nat} {w : World} {m : Int} (c : Nat) (h : IsI w A n (marksI m n)) (hn : n ≤ 1048576) (h0 : 0 ≤ m) (h1 : m ≤ 1000000000) :
    Calls Try.prog 11 #[.slice A n c, .int .i64 m] w fun e w' => e = .returned (.int .i64 (m + (n : Int))) ∧ w = w' := by
  have HP := Lib.hid h
  clear h
  go_enter Try.func11, Try.ntmps11
  go_wp2
  go_loop [5, 1] (fun i mm => ∃ k : Nat, k ≤ n ∧ i = .int .i64 k ∧ mm = .int .i64 (m + (k : Int))) (fun i _ => n - (intOf i).toNat)
  case atStart => exact ⟨0, by omega, rfl, by simp⟩
  case round =>
    obtain ⟨k, hk, rfl, rfl⟩ := hrel
    by_cases hlt : k < n
    · have eb : decide ((k : Int) < n) = true := by simp; omega
      have hki : (k : Int) < n := by omega
      obtain ⟨b, o, rfl, hbl, c0⟩ := HP.out.at_ hlt
      rw [marksI_at hlt] at c0
      go_wp2
      go_round
      case rel => exact ⟨k + 1, by omega, by go_num, by rw [show m + ((k + 1 : Nat) : Int) = m + (k : Int) + 1 by omega]⟩
      case measure => simp [intOf]; omega
    · obtain rfl : k = n := by omega
      have eb : decide ((k : Int) < k) = false := by simp
      go_wp2
      go_ret
      exact ⟨rfl, rfl⟩

end Go.Proofs.Ytikpaebemiobpaa
