/-
  A law's arguments: structs of numbers, and slices of them, as the functions take them.
-/
import Derived.Test.YtbiddmimcdmnoaaRdr
import Derived.ProofKit
import Derived.OpenShut
import Derived.ChangeSlices
import Derived.ChangeSame
import Derived.Deep.Slices
import Derived.Deep.Fields
namespace Go.Proofs.Ytbiddmimcdmnoaa
open Go.RowKit Pl Go.ChangeShapes Go.WideShapes Go.ChangeAt Go.Deep

section
variable {H : Type} {enc : TypeId × Value → H} {P : Program} {w : World} {base : Nat} {spare : Nat → Bool} {held : Bool}

/-- All fields are numbers. -/
def intFields (P : Program) (fs : Array Field) : Bool := fs.all fun f => match P.underlying f.type with | some (.int .i64) => true | _ => false
theorem intFields_at {fs : Array Field} (h : intFields P fs = true) {j : Nat} {f : Field} (hf : fs[j]? = some f) : P.underlying f.type = some (.int .i64) := by
  obtain ⟨hj, rfl⟩ := Array.getElem?_eq_some_iff.1 hf
  have := (Array.all_eq_true.1 h) j hj
  split at this
  · assumption
  · cases this
def numOf : Value → Int
  | .int _ z => z
  | _ => 0

theorem trod_nums {t : TypeId} {fs : Array Field} {fuel : Nat} {cs : List Value} {x : DataW H × List MemPlace} (hs : P.underlying t = some (.struct fs)) (hone : oneCellFields P fs = true) (hint : intFields P fs = true) (hC : P.cellsOf t = fs.size)
    (h : DataW.trod enc P w base spare held fuel t cs = some x) : cs = (cs.map numOf).map (Value.int .i64) ∧ cs.length = fs.size := by
  obtain ⟨xs, n, _, _, hl, hlen, hg⟩ := DataW.trod_struct hs h
  rw [hC] at hl
  refine ⟨?_, hl⟩
  apply List.ext_getElem (by simp)
  intro i h1 h2
  have hi : i < fs.size := by omega
  have hf : fs[i]? = some fs[i] := Array.getElem?_eq_getElem hi
  obtain ⟨o, k⟩ := hone_of hone i _ hf
  have h3 := hg i _ hf
  rw [o, k, List.drop_eq_getElem_cons h1, List.getElem?_eq_getElem (by omega)] at h3
  obtain ⟨z, hz, _⟩ := DataW.trod_int (intFields_at hint hf) h3
  simp only [List.take_succ_cons, List.take_zero, List.cons.injEq, and_true] at hz
  simp only [List.getElem_map, hz, numOf]

theorem agg_nums {r : Reach} {b0 : Nat} {t : TypeId} {fs : Array Field} {v : Value} {d : DataW H} {p : List MemPlace} (hs : P.underlying t = some (.struct fs)) (hone : oneCellFields P fs = true) (hint : intFields P fs = true) (hC : P.cellsOf t = fs.size)
    (hv : Value.okWide P w r b0 t v) (h : DataW.Trod enc P w base spare held t v d p) : ∃ zs : List Int, zs.length = fs.size ∧ v = .agg (zs.map (Value.int .i64)).toArray := by
  obtain ⟨cs, rfl, hsz⟩ := okWide_struct hs hv
  obtain ⟨fuel, hf⟩ := h
  obtain ⟨e, hl⟩ := trod_nums hs hone hint hC hf
  have e' : cs.toList = (cs.toList.map numOf).map (Value.int .i64) := e
  exact ⟨cs.toList.map numOf, by simp; omega, by rw [← e']⟩

theorem agg_nums6 {r : Reach} {b0 : Nat} {t : TypeId} {fs : Array Field} {v : Value} {d : DataW H} {p : List MemPlace} (h6 : fs.size = 6) (hs : P.underlying t = some (.struct fs)) (hone : oneCellFields P fs = true) (hint : intFields P fs = true) (hC : P.cellsOf t = fs.size)
    (hv : Value.okWide P w r b0 t v) (h : DataW.Trod enc P w base spare held t v d p) : ∃ a b c d' e f : Int, v = .agg #[.int .i64 a, .int .i64 b, .int .i64 c, .int .i64 d', .int .i64 e, .int .i64 f] := by
  obtain ⟨zs, hl, rfl⟩ := agg_nums hs hone hint hC hv h
  rw [h6] at hl
  match zs, hl with
  | [a, b, c, d', e, f], _ => exact ⟨a, b, c, d', e, f, rfl⟩
theorem agg_nums2 {r : Reach} {b0 : Nat} {t : TypeId} {fs : Array Field} {v : Value} {d : DataW H} {p : List MemPlace} (h2 : fs.size = 2) (hs : P.underlying t = some (.struct fs)) (hone : oneCellFields P fs = true) (hint : intFields P fs = true) (hC : P.cellsOf t = fs.size)
    (hv : Value.okWide P w r b0 t v) (h : DataW.Trod enc P w base spare held t v d p) : ∃ a b : Int, v = .agg #[.int .i64 a, .int .i64 b] := by
  obtain ⟨zs, hl, rfl⟩ := agg_nums hs hone hint hC hv h
  rw [h2] at hl
  match zs, hl with
  | [a, b], _ => exact ⟨a, b, rfl⟩

/-- A slice of structs of K numbers each. -/
theorem slice_nums {t e : TypeId} {fs : Array Field} {fuel : Nat} {A : Option Addr} {n c : Nat} {x : DataW H × List MemPlace} (ht : P.underlying t = some (.slice e)) (hs : P.underlying e = some (.struct fs)) (hone : oneCellFields P fs = true) (hint : intFields P fs = true) (hC : P.cellsOf e = fs.size) (h0 : 0 < fs.size)
    (h : DataW.trod enc P w base spare held fuel t [.slice A n c] = some x) :
    n ≤ c ∧ c ≤ maxLen ∧ ∃ z : Nat → Nat → Int, 0 < n → ∃ b o, A = some ⟨b, o, none⟩ ∧ b < w.heap.size ∧ ∀ i, i < n → ∀ j, j < fs.size → w.cell? ⟨b, o + (i * fs.size + j), none⟩ = some (.int .i64 (z i j)) := by
  rcases open_slice ht h with ⟨h1, _⟩ | ⟨a, len, cap, m, k, D, Pl, hcs, hb, hl, hm, hmm, hx, hi⟩
  · simp only [List.cons.injEq, Value.slice.injEq, and_true] at h1
    obtain ⟨rfl, rfl, rfl⟩ := h1
    exact ⟨Nat.le_refl _, Nat.zero_le _, fun _ _ => 0, fun h => absurd h (Nat.lt_irrefl _)⟩
  · simp only [List.cons.injEq, Value.slice.injEq, and_true] at hcs
    obtain ⟨rfl, rfl, rfl⟩ := hcs
    have hnm : n ≤ m := by rw [hmm]; split <;> omega
    have cell : ∀ i, i < n → ∀ j, j < fs.size → ∃ z : Int, w.cell? (a.add (i * fs.size + j)) = some (.int .i64 z) := fun i hin j hj => by
      obtain ⟨cs', hc, htr⟩ := hi i (by omega)
      rw [hC] at hc
      obtain ⟨e1, e2⟩ := trod_nums hs hone hint hC htr
      obtain ⟨_, _, hat⟩ := World.cells?_some hc
      have h3 := hat j hj
      rw [add_add] at h3
      rw [h3, e1]
      have hjl : j < cs'.length := by omega
      exact ⟨numOf cs'[j], by simp [hjl]⟩
    refine ⟨hl, hm, fun i j => match w.cell? (a.add (i * fs.size + j)) with | some (.int _ z) => z | _ => 0, fun hn => ?_⟩
    obtain ⟨z0, hz0⟩ := cell 0 hn 0 h0
    obtain ⟨ab, ao, spot⟩ := a
    have hspot : spot = none := by simpa [Addr.add] using World.cell?_spot hz0
    subst hspot
    have hadd : ∀ k, Addr.add ⟨ab, ao, none⟩ k = ⟨ab, ao + k, none⟩ := fun k => by by_cases h : k = 0 <;> simp [Addr.add, h]
    refine ⟨ab, ao, rfl, ?_, fun i hi' j hj => ?_⟩
    · rcases Nat.lt_or_ge ab w.heap.size with h' | h'
      · exact h'
      · rw [hadd] at hz0; simp [World.cell?, Array.getElem?_eq_none h'] at hz0
    · obtain ⟨z, hz⟩ := cell i hi' j hj
      simp only [hadd] at hz ⊢
      simp only [hz]
end

end Go.Proofs.Ytbiddmimcdmnoaa
