/-
  A law's argument, a slice of bytes, as the generators take it.
-/
import Derived.Test.YtadpmigppjjmhaaRdr
import Derived.ProofKit
import Derived.OpenShut
import Derived.ChangeSlices
namespace Go.Proofs.Ytadpmigppjjmhaa
open Go.RowKit Pl Go.ChangeShapes Go.WideShapes Go.ChangeAt

theorem code_of {H : Type} {enc : TypeId × Value → H} {P : Program} {W : World} {t e : TypeId} {A : Option Addr} {n c : Nat} {d : DataW H} {p : List MemPlace} (ht : P.underlying t = some (.slice e)) (he : P.underlying e = some (.int .u8)) (hc : P.cellsOf e = 1)
    (h : DataW.Trod enc P W 0 (fun _ => true) true t (.slice A n c) d p) : Code W A n c := by
  obtain ⟨fuel, hf⟩ := h
  rcases open_ints ht he hc hf with ⟨hcs, _⟩ | ⟨a, len, cap, zs, hcs, _, hl, hm, hz, _, hcell, hwz⟩
  · simp [Value.cells] at hcs
    obtain ⟨rfl, rfl, rfl⟩ := hcs
    exact ⟨Nat.le_refl _, Nat.zero_le _, fun _ => 0, fun h => absurd h (Nat.lt_irrefl _)⟩
  · simp [Value.cells] at hcs
    obtain ⟨rfl, rfl, rfl⟩ := hcs
    simp only [if_true] at hz
    refine ⟨hl, hm, fun i => zs.getD i 0, fun hn => ?_⟩
    obtain ⟨ab, ao, spot⟩ := a
    have hspot : spot = none := by simpa [Addr.add] using World.cell?_spot (hcell 0 (by omega))
    subst hspot
    refine ⟨ab, ao, rfl, ?_, fun i hi => ⟨by
      have := hcell i (by omega)
      have e : Addr.add ⟨ab, ao, none⟩ i = ⟨ab, ao + i, none⟩ := by by_cases h : i = 0 <;> simp [Addr.add, h]
      rw [e] at this; exact this, ?_⟩⟩
    · have h0 := hcell 0 (by omega)
      rcases Nat.lt_or_ge ab W.heap.size with h' | h'
      · exact h'
      · simp [World.cell?, Addr.add, Array.getElem?_eq_none h'] at h0
    · have hi' : i < zs.length := by omega
      have := hwz zs[i] (List.getElem_mem hi')
      simp only [Lit.wf, Bool.and_eq_true, decide_eq_true_eq] at this
      have e : zs.getD i 0 = zs[i] := by simp [hi']
      show 0 ≤ zs.getD i 0 ∧ zs.getD i 0 ≤ 255
      rw [e]
      exact this

end Go.Proofs.Ytadpmigppjjmhaa
