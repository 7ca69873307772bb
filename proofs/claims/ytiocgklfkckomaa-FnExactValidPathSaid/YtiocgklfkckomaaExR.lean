/-
  Lists of lists of points: as an exact law's argument; their sizes.
-/
import Derived.Test.YtiocgklfkckomaaOpenP
import Derived.Test.YtiocgklfkckomaaExQ
import Derived.Test.YtiocgklfkckomaaRings
import Derived.Test.YtiocgklfkckomaaPlF
namespace Go.Proofs.Ytiocgklfkckomaa
open Go.RowKit Pl Go.ChangeShapes Go.WideShapes Go.ChangeAt Go.Deep

set_option linter.unusedSimpArgs false
set_option linter.unusedVariables false

section
variable {H : Type} {enc : TypeId × Value → H} {P : Program} {w : World} {base : Nat} {spare : Nat → Bool} {held : Bool}
theorem ring_hd {t e : TypeId} {fs : Array Field} {fuel : Nat} {cs : List Value} {x : DataW H × List MemPlace}
    (h2 : fs.size = 2) (ht : P.underlying t = some (.slice e)) (hs : P.underlying e = some (.struct fs)) (hone : oneCellFields P fs = true) (hint : intFields P fs = true) (hC : P.cellsOf e = fs.size)
    (h : DataW.trod enc P w base spare held fuel t cs = some x) : ∃ u r, cs = [u] ∧ IsHd w u r := by
  have key : ∀ A n c, cs = [.slice A n c] → ∃ u r, cs = [u] ∧ IsHd w u r := fun A n c e => by
    subst e
    obtain ⟨q1, q2, _⟩ := slice_nums (A := A) (n := n) (c := c) ht hs hone hint hC (by omega) h
    obtain ⟨_, l, hl⟩ := pts_of (A := A) (n := n) (c := c) h2 ht hs hone hint hC ⟨fuel, h⟩
    have hn := hl.1
    refine ⟨_, l, rfl, A, c, ?_, ?_, q2, ?_⟩
    · rw [hn]
    · rw [hn]; exact q1
    · rw [hn]; exact hl
  rcases open_slice ht h with ⟨h1, _⟩ | ⟨a, len, cap, m, k, D, Pl, hcs, _⟩
  · exact key _ _ _ h1
  · exact key _ _ _ hcs

theorem rings_of {tt t e : TypeId} {fs : Array Field} {A : Option Addr} {n c : Nat} {d : DataW H} {p : List MemPlace}
    (h2 : fs.size = 2) (htt : P.underlying tt = some (.slice t)) (hCt : P.cellsOf t = 1) (ht : P.underlying t = some (.slice e)) (hs : P.underlying e = some (.struct fs)) (hone : oneCellFields P fs = true) (hint : intFields P fs = true) (hC : P.cellsOf e = fs.size)
    (h : DataW.Trod enc P w base spare held tt (.slice A n c) d p) : n ≤ maxLen ∧ ∃ L, IsRs w A n L := by
  obtain ⟨fuel, hf⟩ := h
  rcases open_slice1 htt hCt hf with ⟨h1, _⟩ | ⟨a, len, cap, m, k, V, D, Pl, hcs, hb, hl, hm, hmm, hx, hi⟩
  · replace h1 : [Value.slice A n c] = [.slice none 0 0] := h1
    simp only [List.cons.injEq, Value.slice.injEq, and_true] at h1
    obtain ⟨rfl, rfl, rfl⟩ := h1
    exact ⟨Nat.zero_le _, [], IsRs.nil _ _⟩
  · replace hcs : [Value.slice A n c] = [.slice (some a) len cap] := hcs
    simp only [List.cons.injEq, Value.slice.injEq, and_true] at hcs
    obtain ⟨rfl, rfl, rfl⟩ := hcs
    have hnm : n ≤ m := by rw [hmm]; split <;> omega
    refine ⟨by omega, ?_⟩
    have hr : ∀ i, ∃ r, i < n → IsHd w (V i) r := fun i => by
      by_cases hin : i < n
      · obtain ⟨_, htr⟩ := hi i (by omega)
        obtain ⟨u, r, e, hh⟩ := ring_hd h2 ht hs hone hint hC htr
        simp only [List.cons.injEq, and_true] at e
        subst e
        exact ⟨r, fun _ => hh⟩
      · exact ⟨[], fun h => absurd h hin⟩
    obtain ⟨f, hf'⟩ := Classical.axiomOfChoice hr
    refine ⟨(List.range n).map f, (List.range n).map V, ⟨by simp, fun hn => ?_⟩, by simp, fun i r hr' => ?_⟩
    · obtain ⟨ab, ao, spot⟩ := a
      have h0 := (hi 0 (by omega)).1
      have hspot : spot = none := by simpa [Addr.add] using World.cell?_spot h0
      subst hspot
      refine ⟨ab, ao, rfl, ?_, fun i u hu => ?_⟩
      · rcases Nat.lt_or_ge ab w.heap.size with h' | h'
        · exact h'
        · rw [add_off] at h0; simp [World.cell?, Array.getElem?_eq_none h'] at h0
      · have hin : i < n := by have := (List.getElem?_eq_some_iff.1 hu).1; simpa using this
        have := (hi i (by omega)).1
        rw [add_off] at this
        rw [this]
        simpa [hin] using hu
    · have hin : i < n := by have := (List.getElem?_eq_some_iff.1 hr').1; simpa using this
      have e : f i = r := by simpa [hin] using hr'
      exact ⟨V i, by simp [hin], by rw [← e]; exact hf' i hin⟩
end

/-- How much a list of lists of points counts. -/
def sizeR (L : List (List Pt)) : Nat := L.length + ringsLen L
theorem ringsLen_take {L : List (List Pt)} {k : Nat} {r : List Pt} (h : L[k]? = some r) : ringsLen (L.take (k + 1)) = ringsLen (L.take k) + r.length := by
  obtain ⟨hk, rfl⟩ := List.getElem?_eq_some_iff.1 h
  rw [List.take_succ_eq_append_getElem hk, ringsLen_append]
  simp [ringsLen]
theorem ringsLen_le (L : List (List Pt)) (k : Nat) : ringsLen (L.take k) ≤ ringsLen L := by
  have e := ringsLen_append (L.take k) (L.drop k)
  rw [List.take_append_drop] at e
  omega

set_option maxHeartbeats 400000 in
theorem szPointS_big {A : Option Addr} {n c : Nat} {left : Int} (h : left < n) (hm : n ≤ 9223372036854775807) (h0 : 0 ≤ left) (h1 : left ≤ 1048576) (w : World) :
    Calls Try.prog 47 #[.slice A n c, .int .i64 left] w fun e w' => e = .returned (.int .i64 (-1)) ∧ w = w' := by
  have hh : left - (n : Int) < 0 := by omega
  go_enter Try.func47, Try.ntmps47
  go_wp2
  go_ret
  exact ⟨by simp; try omega, rfl⟩

/-- Cell by cell: the first k lists are there, each apart from the block that lists them. -/
def HasR (g : Nat) (cur : Array Value) (L : List (List Pt)) (k : Nat) (w : World) : Prop := cur.size = L.length ∧ ∀ (i : Nat) (r : List Pt), i < k → L[i]? = some r → ∃ u, cur[i]? = some u ∧ IsHd w u r ∧ ∀ b, u.ownBlock = some b → g < b
theorem HasR.below {g : Nat} {cur : Array Value} {L : List (List Pt)} {k : Nat} {w w' : World} (h : HasR g cur L k w) (hb : Below w.heap.size w w') : HasR g cur L k w' :=
  ⟨h.1, fun i r hi hr => by obtain ⟨u, h1, h2, h3⟩ := h.2 i r hi hr; exact ⟨u, h1, h2.below hb, h3⟩⟩
theorem HasR.step {g : Nat} {cur : Array Value} {L : List (List Pt)} {k : Nat} {w w' : World} {u : Value} {r : List Pt} (h : HasR g cur L k w) (hk : k < L.length) (hr : L[k]? = some r) (hu : IsHd w u r) (hb : ∀ b, u.ownBlock = some b → g < b)
    (hg : w.grownBy w' (some g)) : HasR g (cur.setIfInBounds k u) L (k + 1) w' := by
  have sep : ∀ v : Value, (∀ b, v.ownBlock = some b → g < b) → Sep v.ownBlock (some g) := fun v hv b hb' e => by cases e; have := hv _ hb'; omega
  refine ⟨by simpa using h.1, fun i r' hi hr' => ?_⟩
  by_cases e : i = k
  · subst e
    rw [hr] at hr'; cases hr'
    exact ⟨u, by rw [Array.getElem?_setIfInBounds_self_of_lt (by rw [h.1]; exact hk)], hu.grown hg (fun _ => sep u hb), hb⟩
  · obtain ⟨v, h1, h2, h3⟩ := h.2 i r' (by omega) hr'
    exact ⟨v, by rw [Array.getElem?_setIfInBounds_ne (by omega)]; exact h1, h2.grown hg (fun _ => sep v h3), h3⟩
theorem HasR.done {g : Nat} {cur : Array Value} {L : List (List Pt)} {w : World} (h : HasR g cur L L.length w) (hg : w.heap[g]? = some (.cells cur 63 (0, 0))) : IsRs w (some ⟨g, 0, none⟩) L.length L := by
  refine ⟨cur.toList, ⟨by rw [Array.length_toList]; exact h.1, fun _ => ⟨g, 0, rfl, blk_lt hg, fun i u hu => by rw [blk_cell hg, Nat.zero_add, ← Array.getElem?_toList]; exact hu⟩⟩, by rw [Array.length_toList]; exact h.1, fun i r hr => ?_⟩
  obtain ⟨u, h1, h2, _⟩ := h.2 i r (List.getElem?_eq_some_iff.1 hr).1 hr
  exact ⟨u, by rw [Array.getElem?_toList]; exact h1, h2⟩

/-- Lists of points that come back. -/
def RetRW (L : List (List Pt)) (w : World) (e : Ending) (w' : World) : Prop := ∃ A c, e = .returned (.slice A L.length c) ∧ L.length ≤ c ∧ c ≤ maxLen ∧ IsRs w' A L.length L ∧ Below w.heap.size w w'

end Go.Proofs.Ytiocgklfkckomaa
