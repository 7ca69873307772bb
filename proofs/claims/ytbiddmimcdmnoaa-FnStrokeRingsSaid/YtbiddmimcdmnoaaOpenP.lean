/-
  An exact law's list of points, as the functions take it.
-/
import Derived.Test.YtbiddmimcdmnoaaOpen
import Derived.Test.YtbiddmimcdmnoaaExP
namespace Go.Proofs.Ytbiddmimcdmnoaa
open Go.RowKit Pl Go.ChangeShapes Go.WideShapes Go.ChangeAt Go.Deep

set_option linter.unusedSimpArgs false
set_option linter.unusedVariables false

theorem pts_of {H : Type} {enc : TypeId × Value → H} {P : Program} {w : World} {base : Nat} {spare : Nat → Bool} {held : Bool} {t e : TypeId} {fs : Array Field} {A : Option Addr} {n c : Nat} {d : DataW H} {p : List MemPlace}
    (h2 : fs.size = 2) (ht : P.underlying t = some (.slice e)) (hs : P.underlying e = some (.struct fs)) (hone : oneCellFields P fs = true) (hint : intFields P fs = true) (hC : P.cellsOf e = fs.size)
    (h : DataW.Trod enc P w base spare held t (.slice A n c) d p) : n ≤ maxLen ∧ ∃ l, IsPts w A n l := by
  obtain ⟨fuel, hf⟩ := h
  obtain ⟨h1, h3, z, hz⟩ := slice_nums (A := A) (n := n) (c := c) ht hs hone hint hC (by omega) hf
  refine ⟨by omega, (List.range n).map (fun i => (z i 0, z i 1)), by simp, fun hn => ?_⟩
  obtain ⟨b, o, e, hb, hc⟩ := hz hn
  refine ⟨b, o, e, hb, fun k hk => ?_⟩
  have hk' : k < n := by simpa using hk
  have c0 := hc k hk' 0 (by omega)
  have c1 := hc k hk' 1 (by omega)
  rw [h2] at c0 c1
  refine ⟨?_, ?_⟩
  · rw [show px (List.map (fun i => (z i 0, z i 1)) (List.range n)) k = z k 0 by simp [px, hk']]; exact c0
  · rw [show py (List.map (fun i => (z i 0, z i 1)) (List.range n)) k = z k 1 by simp [py, hk']]; exact c1

set_option maxHeartbeats 400000 in
theorem szPointS_short {A : Option Addr} {n c : Nat} (h : n ≤ 1048576) (w : World) :
    Calls Try.prog 6 #[.slice A n c, .int .i64 1048576] w fun e w' => e = .returned (.int .i64 (1048576 - (n : Int))) ∧ w = w' :=
  (szPointS_eq (by omega) (by omega) (by omega) w).mono fun e w' ⟨a, b⟩ => ⟨by rw [a, if_pos (by omega)], b⟩
set_option maxHeartbeats 400000 in
theorem szPointS_long {A : Option Addr} {n c : Nat} (h : 1048576 < n) (hm : n ≤ 9223372036854775807) (w : World) :
    Calls Try.prog 6 #[.slice A n c, .int .i64 1048576] w fun e w' => e = .returned (.int .i64 (-1)) ∧ w = w' := by
  have hh : (1048576 : Int) - (n : Int) < 0 := by omega
  go_enter Try.func6, Try.ntmps6
  go_wp2
  go_ret
  exact ⟨by simp; try omega, rfl⟩

end Go.Proofs.Ytbiddmimcdmnoaa
