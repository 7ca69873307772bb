/-
  Lists of lists of points: as an exact law's argument; their sizes.
-/
import Derived.Test.YtbiddmimcdmnoaaOpenP
import Derived.Test.YtbiddmimcdmnoaaExQ
import Derived.Test.YtbiddmimcdmnoaaRings
import Derived.Test.YtbiddmimcdmnoaaPlF
namespace Go.Proofs.Ytbiddmimcdmnoaa
open Go.RowKit Pl Go.ChangeShapes Go.WideShapes Go.ChangeAt Go.Deep

set_option linter.unusedSimpArgs false
set_option linter.unusedVariables false

section
variable {H : Type} {enc : TypeId × Value → H} {P : Program} {w : World} {base : Nat} {spare : Nat → Bool} {held : Bool}
theorem ring_hd {t e : TypeId} {fs : Array Field} {fuel : Nat} {cs : List Value} {x : DataW H × List MemPlace}
    (h2 : fs.size = 2) (ht : P.underlying t = some (.slice e)) (hs : P.underlying e = some (.struct fs)) (hone : oneCellFields P fs = true) (hint : intFields P fs = true) (hC : P.cellsOf e = fs.size)
    (h : DataW.trod enc P w base spare held fuel t cs = some x) : ∃ u r, cs = [u] ∧ IsHd w u r := by
  have key : ∀ A n c, cs = [.slice A n c] → ∃ u r, cs = [u] ∧ IsHd w u r := fun A n c e => by
    subst e
    obtain ⟨q1, q2, _⟩ := slice_nums (A := A) (n := n) (c := c) ht hs hone hint hC (by omega) h
    obtain ⟨_, l, hl⟩ := pts_of (A := A) (n := n) (c := c) h2 ht hs hone hint hC ⟨fuel, h⟩
    have hn := hl.1
    refine ⟨_, l, rfl, A, c, ?_, ?_, q2, ?_⟩
    · rw [hn]
    · rw [hn]; exact q1
    · rw [hn]; exact hl
  rcases open_slice ht h with ⟨h1, _⟩ | ⟨a, len, cap, m, k, D, Pl, hcs, _⟩
  · exact key _ _ _ h1
  · exact key _ _ _ hcs

theorem rings_of {tt t e : TypeId} {fs : Array Field} {A : Option Addr} {n c : Nat} {d : DataW H} {p : List MemPlace}
    (h2 : fs.size = 2) (htt : P.underlying tt = some (.slice t)) (hCt : P.cellsOf t = 1) (ht : P.underlying t = some (.slice e)) (hs : P.underlying e = some (.struct fs)) (hone : oneCellFields P fs = true) (hint : intFields P fs = true) (hC : P.cellsOf e = fs.size)
    (h : DataW.Trod enc P w base spare held tt (.slice A n c) d p) : n ≤ maxLen ∧ ∃ L, IsRs w A n L := by
  obtain ⟨fuel, hf⟩ := h
  rcases open_slice1 htt hCt hf with ⟨h1, _⟩ | ⟨a, len, cap, m, k, V, D, Pl, hcs, hb, hl, hm, hmm, hx, hi⟩
  · replace h1 : [Value.slice A n c] = [.slice none 0 0] := h1
    simp only [List.cons.injEq, Value.slice.injEq, and_true] at h1
    obtain ⟨rfl, rfl, rfl⟩ := h1
    exact ⟨Nat.zero_le _, [], IsRs.nil _ _⟩
  · replace hcs : [Value.slice A n c] = [.slice (some a) len cap] := hcs
    simp only [List.cons.injEq, Value.slice.injEq, and_true] at hcs
    obtain ⟨rfl, rfl, rfl⟩ := hcs
    have hnm : n ≤ m := by rw [hmm]; split <;> omega
    refine ⟨by omega, ?_⟩
    have hr : ∀ i, ∃ r, i < n → IsHd w (V i) r := fun i => by
      by_cases hin : i < n
      · obtain ⟨_, htr⟩ := hi i (by omega)
        obtain ⟨u, r, e, hh⟩ := ring_hd h2 ht hs hone hint hC htr
        simp only [List.cons.injEq, and_true] at e
        subst e
        exact ⟨r, fun _ => hh⟩
      · exact ⟨[], fun h => absurd h hin⟩
    obtain ⟨f, hf'⟩ := Classical.axiomOfChoice hr
    refine ⟨(List.range n).map f, (List.range n).map V, ⟨by simp, fun hn => ?_⟩, by simp, fun i r hr' => ?_⟩
    · obtain ⟨ab, ao, spot⟩ := a
      have h0 := (hi 0 (by omega)).1
      have hspot : spot = none := by simpa [Addr.add] using World.cell?_spot h0
      subst hspot
      refine ⟨ab, ao, rfl, ?_, fun i u hu => ?_⟩
      · rcases Nat.lt_or_ge ab w.heap.size with h' | h'
        · exact h'
        · rw [add_off] at h0; simp [World.cell?, Array.getElem?_eq_none h'] at h0
      · have hin : i < n := by have := (List.getElem?_eq_some_iff.1 hu).1; simpa using this
        have := (hi i (by omega)).1
        rw [add_off] at this
        rw [this]
        simpa [hin] using hu
    · have hin : i < n := by have := (List.getElem?_eq_some_iff.1 hr').1; simpa using this
      have e : f i = r := by simpa [hin] using hr'
      exact ⟨V i, by simp [hin], by rw [← e]; exact hf' i hin⟩
end

/-- How much a list of lists of points counts. -/
def sizeR (L : List (List Pt)) : Nat := L.length + ringsLen L
theorem ringsLen_take {L : List (List Pt)} {k : Nat} {r : List Pt} (h : L[k]? = some r) : ringsLen (L.take (k + 1)) = ringsLen (L.take k) + r.length := by
  obtain ⟨hk, rfl⟩ := List.getElem?_eq_some_iff.1 h
  rw [List.take_succ_eq_append_getElem hk, ringsLen_append]
  simp [ringsLen]
theorem ringsLen_le (L : List (List Pt)) (k : Nat) : ringsLen (L.take k) ≤ ringsLen L := by
  have e := ringsLen_append (L.take k) (L.drop k)
  rw [List.take_append_drop] at e
  omega

set_option maxHeartbeats 400000 in
theorem szPointS_big {A : Option Addr} {n c : Nat} {left : Int} (h : left < n) (hm : n ≤ 9223372036854775807) (h0 : 0 ≤ left) (h1 : left ≤ 1048576) (w : World) :
    Calls Try.prog 6 #[.slice A n c, .int .i64 left] w fun e w' => e = .returned (.int .i64 (-1)) ∧ w = w' := by
  have hh : left - (n : Int) < 0 := by omega
  go_enter Try.func6, Try.ntmps6
  go_wp2
  go_ret
  exact ⟨by simp; try omega, rfl⟩

theorem make_rs (n : Nat) (hn : n ≤ 1048576) : ∃ Z : Array Value, Z.size = n ∧ ∀ w : World, (Instr.makeSlice 24 (.int .i64 (n : Int)) (.int .i64 (n : Int))).run Try.prog w = .ok (.slice (some ⟨w.heap.size, 0, none⟩) n n) (w.alloc (.cells Z 27)) := by
  obtain ⟨i0, hi0, hz0, hz1, hz2⟩ := info_parts ring_info
  refine ⟨madeCells (Value.slice none 0 0).cells (n * 1), by rw [size_madeCells, Nat.mul_one], fun w => ?_⟩
  have h := run_make (P := Try.prog) w 24 27 i0 _ Try.underlying24 hi0 hz0 .i64 .i64 n n (by omega) (Int.le_refl _) (by rw [hz2]; omega) (by omega)
  rw [hz1] at h
  simpa using h

/-- Cell by cell: the first k lists are there, each apart from the block that lists them. -/
def HasR (g : Nat) (cur : Array Value) (L : List (List Pt)) (k : Nat) (w : World) : Prop := cur.size = L.length ∧ ∀ (i : Nat) (r : List Pt), i < k → L[i]? = some r → ∃ u, cur[i]? = some u ∧ IsHd w u r ∧ ∀ b, u.ownBlock = some b → g < b
theorem HasR.below {g : Nat} {cur : Array Value} {L : List (List Pt)} {k : Nat} {w w' : World} (h : HasR g cur L k w) (hb : Below w.heap.size w w') : HasR g cur L k w' :=
  ⟨h.1, fun i r hi hr => by obtain ⟨u, h1, h2, h3⟩ := h.2 i r hi hr; exact ⟨u, h1, h2.below hb, h3⟩⟩
theorem HasR.step {g : Nat} {cur : Array Value} {L : List (List Pt)} {k : Nat} {w w' : World} {u : Value} {r : List Pt} (h : HasR g cur L k w) (hk : k < L.length) (hr : L[k]? = some r) (hu : IsHd w u r) (hb : ∀ b, u.ownBlock = some b → g < b)
    (hg : w.grownBy w' (some g)) : HasR g (cur.setIfInBounds k u) L (k + 1) w' := by
  have sep : ∀ v : Value, (∀ b, v.ownBlock = some b → g < b) → Sep v.ownBlock (some g) := fun v hv b hb' e => by cases e; have := hv _ hb'; omega
  refine ⟨by simpa using h.1, fun i r' hi hr' => ?_⟩
  by_cases e : i = k
  · subst e
    rw [hr] at hr'; cases hr'
    exact ⟨u, by rw [Array.getElem?_setIfInBounds_self_of_lt (by rw [h.1]; exact hk)], hu.grown hg (fun _ => sep u hb), hb⟩
  · obtain ⟨v, h1, h2, h3⟩ := h.2 i r' (by omega) hr'
    exact ⟨v, by rw [Array.getElem?_setIfInBounds_ne (by omega)]; exact h1, h2.grown hg (fun _ => sep v h3), h3⟩
theorem HasR.done {g : Nat} {cur : Array Value} {L : List (List Pt)} {w : World} (h : HasR g cur L L.length w) (hg : w.heap[g]? = some (.cells cur 27 (0, 0))) : IsRs w (some ⟨g, 0, none⟩) L.length L := by
  refine ⟨cur.toList, ⟨by rw [Array.length_toList]; exact h.1, fun _ => ⟨g, 0, rfl, blk_lt hg, fun i u hu => by rw [blk_cell hg, Nat.zero_add, ← Array.getElem?_toList]; exact hu⟩⟩, by rw [Array.length_toList]; exact h.1, fun i r hr => ?_⟩
  obtain ⟨u, h1, h2, _⟩ := h.2 i r (List.getElem?_eq_some_iff.1 hr).1 hr
  exact ⟨u, by rw [Array.getElem?_toList]; exact h1, h2⟩

/-- Lists of points that come back. -/
def RetRW (L : List (List Pt)) (w : World) (e : Ending) (w' : World) : Prop := ∃ A c, e = .returned (.slice A L.length c) ∧ L.length ≤ c ∧ c ≤ maxLen ∧ IsRs w' A L.length L ∧ Below w.heap.size w w'

set_option maxHeartbeats 1000000 in
theorem eqPointSS_same {A A' : Option Addr} {n : Nat} {L : List (List Pt)} {w : World} (c c' : Nat) (h : IsRs w A n L) (h' : IsRs w A' n L) (hn : n ≤ 1000000000000) (hL : ∀ r ∈ L, r.length ≤ 1048576) :
    Calls Try.prog 10 #[.slice A n c, .slice A' n c'] w fun e w' => e = .returned (.bool true) ∧ Below w.heap.size w w' := by
  have HP := Lib.hid h
  have HP' := Lib.hid h'
  have HM := Lib.hid hL
  clear h h' hL
  go_enter Try.func10, Try.ntmps10
  go_wp2
  go_loopw [5] (fun i wr => ∃ k : Nat, k ≤ n ∧ i = .int .i64 k ∧ Below w.heap.size w wr) (fun i _ => n - (intOf i).toNat)
  case atStart => exact ⟨0, by omega, rfl, by (repeat' (first | (with_reducible exact Below.refl _ _) | (with_reducible assumption) | (with_reducible refine Below.alloc ?_ ?_ _) | (with_reducible refine below_drewN ?_ _) | (with_reducible refine Below.drew ?_) | (with_reducible refine Below.setCell ?_ ?_ _) | (with_reducible refine below_call (by assumption) ?_ ?_) | (with_reducible refine below_grown (by assumption) ?_ ?_ ?_) | omega | (simp; done) | (simp; omega)))⟩
  case round =>
    obtain ⟨k, hk, rfl, hbel⟩ := hrel
    obtain ⟨wo, rfl⟩ : ∃ wo : World, wo = wr := ⟨_, rfl⟩
    have hsz := hbel.size
    by_cases hlt : k < n
    · have eb : decide ((k : Int) < n) = true := by simp; omega
      have hki : (k : Int) < n := by omega
      obtain ⟨r, b, o, B, cr, hr, rfl, hbl, x0, _, _, hp⟩ := (HP.out.below hbel).at_ hlt
      obtain ⟨r', b', o', B', cr', hr', rfl, hbl', x0', _, _, hp'⟩ := (HP'.out.below hbel).at_ hlt
      obtain rfl : r = r' := by rw [hr] at hr'; cases hr'; rfl
      have hrl : r.length ≤ 1048576 := HM.out r (List.mem_of_getElem? hr)
      have HQ := Lib.hid hp
      have HQ' := Lib.hid hp'
      clear hp hp' hr hr'
      go_wp2_with fail
      apply wp_region_pure (by kernel_rfl) ([] :: [] :: [0, 1] :: [2] :: [] :: [] :: [4, 5] :: [6] :: [3, 7] :: [8] :: []) (RS.det [] _ :: RS.det [] _ :: RS.det [0, 1] _ :: RS.det [2] _ :: RS.det [] _ :: RS.det [] _ :: RS.det [4, 5] _ :: RS.det [6] _ :: RS.det [3, 7] _ :: RS.det [8] _ :: []) [] rfl (by kernel_rfl) (fun h => absurd rfl h) (by kernel_rfl) (by kernel_rfl) (st_det (st_det (st_det (st_det (st_det (st_det (st_det (st_det (st_det (st_det st_nil)))))))))) _ (fun v => by simp; rfl)
      case hop =>
        simp only [Obls]
        refine ⟨?_, ?_, ?_, ?_, ?_, ?_, ?_, ?_, ?_, ?_, trivial⟩
        · (intro v w1 K hb hF hK; (try simp at hF); simp at hK; (try simp only [hF] at hK); have hz := hb.size; (try simp at hz))
          go_simp
          (try simp only [])
          exact hK _ _ rfl (by (repeat' (first | (with_reducible exact Below.refl _ _) | (with_reducible assumption) | (with_reducible refine Below.alloc ?_ ?_ _) | (with_reducible refine below_drewN ?_ _) | (with_reducible refine Below.drew ?_) | (with_reducible refine Below.setCell ?_ ?_ _) | (with_reducible refine below_call (by assumption) ?_ ?_) | go_size)))
        · (intro v w1 K hb hF hK; (try simp at hF); simp at hK; (try simp only [hF] at hK); have hz := hb.size; (try simp at hz))
          go_simp
          (try simp only [])
          exact hK _ _ rfl (by (repeat' (first | (with_reducible exact Below.refl _ _) | (with_reducible assumption) | (with_reducible refine Below.alloc ?_ ?_ _) | (with_reducible refine below_drewN ?_ _) | (with_reducible refine Below.drew ?_) | (with_reducible refine Below.setCell ?_ ?_ _) | (with_reducible refine below_call (by assumption) ?_ ?_) | go_size)))
        · (intro v w1 K hb hF hK; (try simp at hF); simp at hK; (try simp only [hF] at hK); have hz := hb.size; (try simp at hz))
          go_simp
          (try simp only [])
          exact hK _ _ rfl (by (repeat' (first | (with_reducible exact Below.refl _ _) | (with_reducible assumption) | (with_reducible refine Below.alloc ?_ ?_ _) | (with_reducible refine below_drewN ?_ _) | (with_reducible refine Below.drew ?_) | (with_reducible refine Below.setCell ?_ ?_ _) | (with_reducible refine below_call (by assumption) ?_ ?_) | go_size)))
        · (intro v w1 K hb hF hK; (try simp at hF); simp at hK; (try simp only [hF] at hK); have hz := hb.size; (try simp at hz); (try (have hk := bcl hb (b) (by first | omega | (simp; done) | (simp; omega)); have hc := hk.1; have hf := hk.2.1; have hk := hk.2.2)); (try (have hk := bcl hb (b') (by first | omega | (simp; done) | (simp; omega)); have hc := hk.1; have hf := hk.2.1; have hk := hk.2.2)))
          go_simp
          (try simp only [])
          exact hK _ _ rfl (by (repeat' (first | (with_reducible exact Below.refl _ _) | (with_reducible assumption) | (with_reducible refine Below.alloc ?_ ?_ _) | (with_reducible refine below_drewN ?_ _) | (with_reducible refine Below.drew ?_) | (with_reducible refine Below.setCell ?_ ?_ _) | (with_reducible refine below_call (by assumption) ?_ ?_) | go_size)))
        · (intro v w1 K hb hF hK; (try simp at hF); simp at hK; (try simp only [hF] at hK); have hz := hb.size; (try simp at hz))
          go_simp
          (try simp only [])
          exact hK _ _ rfl (by (repeat' (first | (with_reducible exact Below.refl _ _) | (with_reducible assumption) | (with_reducible refine Below.alloc ?_ ?_ _) | (with_reducible refine below_drewN ?_ _) | (with_reducible refine Below.drew ?_) | (with_reducible refine Below.setCell ?_ ?_ _) | (with_reducible refine below_call (by assumption) ?_ ?_) | go_size)))
        · (intro v w1 K hb hF hK; (try simp at hF); simp at hK; (try simp only [hF] at hK); have hz := hb.size; (try simp at hz))
          go_simp
          (try simp only [])
          exact hK _ _ rfl (by (repeat' (first | (with_reducible exact Below.refl _ _) | (with_reducible assumption) | (with_reducible refine Below.alloc ?_ ?_ _) | (with_reducible refine below_drewN ?_ _) | (with_reducible refine Below.drew ?_) | (with_reducible refine Below.setCell ?_ ?_ _) | (with_reducible refine below_call (by assumption) ?_ ?_) | go_size)))
        · (intro v w1 K hb hF hK; (try simp at hF); simp at hK; (try simp only [hF] at hK); have hz := hb.size; (try simp at hz))
          go_simp
          (try simp only [])
          exact hK _ _ rfl (by (repeat' (first | (with_reducible exact Below.refl _ _) | (with_reducible assumption) | (with_reducible refine Below.alloc ?_ ?_ _) | (with_reducible refine below_drewN ?_ _) | (with_reducible refine Below.drew ?_) | (with_reducible refine Below.setCell ?_ ?_ _) | (with_reducible refine below_call (by assumption) ?_ ?_) | go_size)))
        · (intro v w1 K hb hF hK; (try simp at hF); simp at hK; (try simp only [hF] at hK); have hz := hb.size; (try simp at hz); (try (have hk := bcl hb (b) (by first | omega | (simp; done) | (simp; omega)); have hc := hk.1; have hf := hk.2.1; have hk := hk.2.2)); (try (have hk := bcl hb (b') (by first | omega | (simp; done) | (simp; omega)); have hc := hk.1; have hf := hk.2.1; have hk := hk.2.2)))
          go_simp
          (try simp only [])
          exact hK _ _ rfl (by (repeat' (first | (with_reducible exact Below.refl _ _) | (with_reducible assumption) | (with_reducible refine Below.alloc ?_ ?_ _) | (with_reducible refine below_drewN ?_ _) | (with_reducible refine Below.drew ?_) | (with_reducible refine Below.setCell ?_ ?_ _) | (with_reducible refine below_call (by assumption) ?_ ?_) | go_size)))
        · (intro v w1 K hb hF hK; (try simp at hF); simp at hK; (try simp only [hF] at hK); have hz := hb.size; (try simp at hz); (try (have hk := bcl hb (b) (by first | omega | (simp; done) | (simp; omega)); have hc := hk.1; have hf := hk.2.1; have hk := hk.2.2)); (try (have hk := bcl hb (b') (by first | omega | (simp; done) | (simp; omega)); have hc := hk.1; have hf := hk.2.1; have hk := hk.2.2)))
          go_simp
          (first | (go_at_call 11; (with_reducible refine (eqPointS_same cr cr' (HQ.out.below (by (repeat' (first | (with_reducible exact Below.refl _ _) | (with_reducible assumption) | (with_reducible refine Below.alloc ?_ ?_ _) | (with_reducible refine below_drewN ?_ _) | (with_reducible refine Below.drew ?_) | (with_reducible refine Below.setCell ?_ ?_ _) | (with_reducible refine below_call (by assumption) ?_ ?_) | (with_reducible refine below_grown (by assumption) ?_ ?_ ?_) | omega | (simp; done) | (simp; omega))))) (HQ'.out.below (by (repeat' (first | (with_reducible exact Below.refl _ _) | (with_reducible assumption) | (with_reducible refine Below.alloc ?_ ?_ _) | (with_reducible refine below_drewN ?_ _) | (with_reducible refine Below.drew ?_) | (with_reducible refine Below.setCell ?_ ?_ _) | (with_reducible refine below_call (by assumption) ?_ ?_) | (with_reducible refine below_grown (by assumption) ?_ ?_ ?_) | omega | (simp; done) | (simp; omega))))) (by omega)).mono ?_); rintro e w1 ⟨rfl, hb⟩; have hz := hb.size; (try simp at hz); (try (have hk := bcl hb (b) (by first | omega | (simp; done) | (simp; omega)); have hc := hk.1; have hf := hk.2.1; have hk := hk.2.2)); (try (have hk := bcl hb (b') (by first | omega | (simp; done) | (simp; omega)); have hc := hk.1; have hf := hk.2.1; have hk := hk.2.2))))
          (try simp only [])
          exact hK _ _ rfl (by (repeat' (first | (with_reducible exact Below.refl _ _) | (with_reducible assumption) | (with_reducible refine Below.alloc ?_ ?_ _) | (with_reducible refine below_drewN ?_ _) | (with_reducible refine Below.drew ?_) | (with_reducible refine Below.setCell ?_ ?_ _) | (with_reducible refine below_call (by assumption) ?_ ?_) | go_size)))
        · (intro v w1 K hb hF hK; (try simp at hF); simp at hK; (try simp only [hF] at hK); have hz := hb.size; (try simp at hz))
          go_simp
          (try simp only [])
          exact hK _ _ rfl (by (repeat' (first | (with_reducible exact Below.refl _ _) | (with_reducible assumption) | (with_reducible refine Below.alloc ?_ ?_ _) | (with_reducible refine below_drewN ?_ _) | (with_reducible refine Below.drew ?_) | (with_reducible refine Below.setCell ?_ ?_ _) | (with_reducible refine below_call (by assumption) ?_ ?_) | go_size)))
      case hfo => exact trivial
      (intro v w1 hb hF; simp [List.range, List.range.loop] at hF; have hz := hb.size; (try simp at hz); (try (have hk := bcl hb (b) (by first | omega | (simp; done) | (simp; omega)); have hc := hk.1; have hf := hk.2.1; have hk := hk.2.2)); (try (have hk := bcl hb (b') (by first | omega | (simp; done) | (simp; omega)); have hc := hk.1; have hf := hk.2.1; have hk := hk.2.2)))
      obtain ⟨e0, e1, e2, e3, e4, e5, e6, e7, e8, e9⟩ := hF
      simp only [List.length_cons, List.length_nil, List.drop_succ_cons, List.drop_zero, e0, e1, e2, e3, e4, e5, e6, e7, e8, e9]
      clear e0 e1 e2 e3 e4 e5 e6 e7 e8 e9 v
      go_wp2
      go_roundw
      case rel => exact ⟨k + 1, by omega, by go_num, by (repeat' (first | (with_reducible exact Below.refl _ _) | (with_reducible assumption) | (with_reducible refine Below.alloc ?_ ?_ _) | (with_reducible refine below_drewN ?_ _) | (with_reducible refine Below.drew ?_) | (with_reducible refine Below.setCell ?_ ?_ _) | (with_reducible refine below_call (by assumption) ?_ ?_) | (with_reducible refine below_grown (by assumption) ?_ ?_ ?_) | omega | (simp; done) | (simp; omega)))⟩
      case measure => simp [intOf]; omega
    · obtain rfl : k = n := by omega
      have eb : decide ((k : Int) < k) = false := by simp
      go_wp2
      go_ret
      exact ⟨rfl, by (repeat' (first | (with_reducible exact Below.refl _ _) | (with_reducible assumption) | (with_reducible refine Below.alloc ?_ ?_ _) | (with_reducible refine below_drewN ?_ _) | (with_reducible refine Below.drew ?_) | (with_reducible refine Below.setCell ?_ ?_ _) | (with_reducible refine below_call (by assumption) ?_ ?_) | (with_reducible refine below_grown (by assumption) ?_ ?_ ?_) | omega | (simp; done) | (simp; omega)))⟩

end Go.Proofs.Ytbiddmimcdmnoaa
