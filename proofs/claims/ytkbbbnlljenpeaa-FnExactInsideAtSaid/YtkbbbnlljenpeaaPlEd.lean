/-
  Plain laws on the edges of rings; edges, read.
-/
import Derived.Test.YtkbbbnlljenpeaaEdges
namespace Go.Proofs.Ytkbbbnlljenpeaa
open Go.RowKit Pl

set_option linter.unusedSimpArgs false
set_option linter.unusedVariables false

theorem IsEs.at_ {w : World} {A : Option Addr} {n : Nat} {l : List (Pt × Pt)} (h : IsEs w A n l) {k : Nat} (hk : k < n) :
    ∃ b o x y x' y', A = some ⟨b, o, none⟩ ∧ b < w.heap.size ∧ l[k]? = some ((x, y), (x', y')) ∧ w.cell? ⟨b, o + k * 4, none⟩ = some (.int .i64 x) ∧ w.cell? ⟨b, o + k * 4 + 1, none⟩ = some (.int .i64 y) ∧
      w.cell? ⟨b, o + k * 4 + 2, none⟩ = some (.int .i64 x') ∧ w.cell? ⟨b, o + k * 4 + 3, none⟩ = some (.int .i64 y') := by
  obtain ⟨b, o, e, hb, hc⟩ := h.2 (by omega)
  have hl : k < l.length := by rw [h.1]; exact hk
  obtain ⟨c0, c1, c2, c3⟩ := hc k l[k] (List.getElem?_eq_getElem hl)
  exact ⟨b, o, l[k].1.1, l[k].1.2, l[k].2.1, l[k].2.2, e, hb, List.getElem?_eq_getElem hl, c0, c1, c2, c3⟩
/-- A beginning of the edges. -/
def PreE (l : List (Pt × Pt)) (L : List (List Pt)) : Prop := ∃ m, l ++ m = edgesL L
theorem preE_take (L : List (List Pt)) (k : Nat) : PreE ((edgesL L).take k) L := ⟨(edgesL L).drop k, List.take_append_drop _ _⟩
theorem preE_rings (L : List (List Pt)) (k : Nat) : PreE (edgesL (L.take k)) L := ⟨edgesL (L.drop k), by rw [← edgesL_append, List.take_append_drop]⟩
theorem preE_in {L : List (List Pt)} {k : Nat} {r : List Pt} (h : L[k]? = some r) (j : Nat) : PreE (edgesL (L.take k) ++ (ringEdges r).take j) L := by
  obtain ⟨m, hm⟩ := preE_rings L (k + 1)
  rw [edgesL_take h] at hm
  refine ⟨(ringEdges r).drop j ++ m, ?_⟩
  rw [List.append_assoc, ← List.append_assoc _ _ m, List.take_append_drop, ← List.append_assoc]
  exact hm
theorem PreE.len {l : List (Pt × Pt)} {L : List (List Pt)} (h : PreE l L) : l.length ≤ ringsLen L := by
  obtain ⟨m, hm⟩ := h
  rw [← edgesL_len, ← hm, List.length_append]; omega
theorem PreE.mem {l : List (Pt × Pt)} {L : List (List Pt)} (h : PreE l L) : ∀ e ∈ l, e ∈ edgesL L := fun e he => by
  obtain ⟨m, hm⟩ := h
  rw [← hm]; exact List.mem_append_left _ he
theorem sum_small {f : Pt → Pt → Int} {M : Int} {l : List (Pt × Pt)} {L : List (List Pt)} (hM : 0 ≤ M) (hok : ringsOk L = true) (h : PreE l L) (hf : ∀ e ∈ edgesL L, -M ≤ f e.1 e.2 ∧ f e.1 e.2 ≤ M) : -(M * 200) ≤ sumE f l ∧ sumE f l ≤ M * 200 := by
  have h1 := sumE_small (f := f) (M := M) (l := l) (fun e he => hf e (h.mem e he))
  have h2 : (l.length : Int) ≤ 200 := by have := h.len; have := (ringsOk_parts hok).2.2; omega
  have h3 : M * (l.length : Int) ≤ M * 200 := Int.mul_le_mul_of_nonneg_left h2 hM
  omega
theorem sumE_one (f : Pt → Pt → Int) (l : List (Pt × Pt)) (a b : Pt) : sumE f (l ++ [(a, b)]) = sumE f l + f a b := by rw [sumE_append]; simp [sumE]
theorem mul_small {a b : Int} (h1 : -1000 ≤ a) (h2 : a ≤ 1000) (h3 : -1000 ≤ b) (h4 : b ≤ 1000) : -1000000 ≤ a * b ∧ a * b ≤ 1000000 := by
  have p1 := Int.mul_nonneg (show 0 ≤ 1000 - a by omega) (show 0 ≤ 1000 + b by omega)
  have p2 := Int.mul_nonneg (show 0 ≤ 1000 + a by omega) (show 0 ≤ 1000 - b by omega)
  have p3 := Int.mul_nonneg (show 0 ≤ 1000 - a by omega) (show 0 ≤ 1000 - b by omega)
  have p4 := Int.mul_nonneg (show 0 ≤ 1000 + a by omega) (show 0 ≤ 1000 + b by omega)
  simp only [Int.sub_mul, Int.add_mul, Int.mul_sub, Int.mul_add] at p1 p2 p3 p4
  omega
def areaF (a b : Pt) : Int := a.1 * b.2 - a.2 * b.1
theorem areaF_small {L : List (List Pt)} (hok : ringsOk L = true) : ∀ e ∈ edgesL L, -2000000 ≤ areaF e.1 e.2 ∧ areaF e.1 e.2 ≤ 2000000 := fun e he => by
  obtain ⟨⟨a1, a2, a3, a4⟩, b1, b2, b3, b4⟩ := edges_valid (ringsOk_parts hok).1 e he
  have := mul_small a1 a2 b3 b4
  have := mul_small a3 a4 b1 b2
  unfold areaF; omega
theorem area_edges {L : List (List Pt)} (hok : ringsOk L = true) : areaR L = sumE areaF (edgesL L) := by
  rw [areaR, if_pos hok, areaN, sumE_edges]; rfl

end Go.Proofs.Ytkbbbnlljenpeaa
