/-
  The generator of strokes: points and half of a width.
-/
import Derived.Test.YtbiddmimcdmnoaaDrawL
import Derived.Test.YtbiddmimcdmnoaaSplM
namespace Go.Proofs.Ytbiddmimcdmnoaa
open Go.RowKit Pl

set_option linter.unusedSimpArgs false
set_option linter.unusedVariables false

theorem blk_newE (w : World) (o : Obj) {b : Nat} (h : w.heap.size = b) : (w.alloc o).heap[b]? = some o := by rw [← h]; exact blk_new w o

/-- A point in a new block. -/
structure OneB (x y : Int) (w w' : World) : Prop where
  at_ : w'.heap[w.heap.size]? = some (.cells #[.int .i64 x, .int .i64 y] 38 (0, 0))
  bel : Below w.heap.size w w'

/-- Points and half of a width. -/
def PtsHf (w : World) (e : Ending) (w' : World) : Prop :=
  ∃ v l x, e = .returned (.tuple #[v, .int .i64 x]) ∧ l.length ≤ 9 ∧ OwnP w.heap.size w' v l ∧ Below w.heap.size w w'

set_option maxRecDepth 100000 in
set_option maxHeartbeats 4000000 in
theorem DrawStrokeRings_any {A : Option Addr} {n c : Nat} {w : World} (h : Code w A n c) : Calls Try.prog 15 #[.slice A n c] w (PtsHf w) := by
  go_enter Try.func15, Try.ntmps15
  go_wp2_with fail
  refine (newReader_any (h.below (by (repeat' (first | (with_reducible exact Below.refl _ _) | (with_reducible assumption) | (with_reducible refine Below.alloc ?_ ?_ _) | (with_reducible refine below_drewN ?_ _) | (with_reducible refine Below.drew ?_) | (with_reducible refine Below.setCell ?_ ?_ _) | (with_reducible refine below_call (by assumption) ?_ ?_) | go_size))))).mono ?_
  rintro e w1 ⟨g, A', n', c', z, rfl, hg0, hr, hb⟩
  have hz := hb.size
  have hg1 := hr.lt
  have HB1 : Hid (Below w.heap.size w w1) := Lib.hid (by (repeat' (first | (with_reducible exact Below.refl _ _) | (with_reducible assumption) | (with_reducible refine Below.alloc ?_ ?_ _) | (with_reducible refine below_drewN ?_ _) | (with_reducible refine Below.drew ?_) | (with_reducible refine Below.setCell ?_ ?_ _) | (with_reducible refine below_call (by assumption) ?_ ?_) | (with_reducible refine below_grown (by assumption) ?_ ?_ ?_) | omega | (simp; done) | (simp; omega))))
  clear hb
  go_wp2_with fail
  refine (one_lit (l := [_, _, _, _, _, _, _]) (by repeat' (first | (with_reducible assumption) | (with_reducible apply Rd.alloc) | (with_reducible apply Rd.drewN) | (with_reducible apply rd_below (by assumption)) | (with_reducible apply Rd.setFar) | omega | (simp; omega))) (by omega) (by simp) rfl (by simp) (by simp) _).mono ?_
  rintro e w2 ⟨n0, rfl, hx, hr, hg⟩
  simp only [List.mem_cons, List.not_mem_nil, or_false] at hx
  have hz2 := hg.size
  simp at hz2
  obtain ⟨m, rfl, hm⟩ : ∃ m : Nat, n0 = (m : Int) ∧ m ≤ 9 := ⟨n0.toNat, by omega, by omega⟩
  clear hx
  have E0 : Hid (OwnPts w1.heap.size w2 (.slice (some ⟨w1.heap.size, 0, none⟩) 0 0) []) := Lib.hid (OwnPts.empty rfl (Nat.le_refl _) (by (repeat' (first | (with_reducible assumption) | (with_reducible exact blk_new _ _) | (with_reducible exact blk_new1 _ _ _) | (with_reducible exact blk_new2 _ _ _ _) | (with_reducible refine blk_alloc ?_ _) | (with_reducible refine blk_drewN ?_ _) | (with_reducible refine blk_down (by assumption) ?_) | (with_reducible refine blk_up (by assumption) (by omega) ?_) | (with_reducible refine blk_far ?_ _ (by simp; omega))))))
  have R0 := Lib.hid hr
  have G0 : Hid (w1.grownBy w2 (some g)) := Lib.hid (by (repeat' (first | (with_reducible exact World.grownBy.refl _ _) | (with_reducible assumption) | (with_reducible refine only_alloc ?_ _) | (with_reducible refine only_drewN ?_ _) | (with_reducible refine only_setCell ?_ (by first | exact .inl rfl | exact .inr (Nat.le_refl _) | (right; simp; done) | (right; simp; omega)) _) | (with_reducible refine grown_call (by assumption) ?_) | (with_reducible refine grown_below (by assumption) ?_ (by first | omega | (simp; done) | (simp; omega))))))
  clear hr hg
  go_wp2
  go_loopw [6, 5] (fun i v wr => ∃ (j : Nat) (l : List Pt), i = .int .i64 j ∧ j + l.length ≤ 9 ∧ OwnPts w1.heap.size wr v l ∧ Rd g A' n' c' z wr (1 + 11 * l.length) ∧ w1.grownBy wr (some g)) (fun i _ _ => (intOf i).toNat)
  case atStart => exact ⟨m, [], rfl, by simpa using hm, E0.out, R0.out, G0.out⟩
  case round =>
    obtain ⟨wo, rfl⟩ : ∃ wo : World, wo = wr := ⟨_, rfl⟩
    obtain ⟨j, l, rfl, hjl, hown, hr, hg⟩ := hrel
    have hsz := hg.size
    have HO := Lib.hid hown
    have R0 := Lib.hid hr
    have G0 := Lib.hid hg
    clear hown hr hg E0
    by_cases hj : 0 < j
    · have eb : decide ((0 : Int) < j) = true := by simp; omega
      have hj' : (0 : Int) < j := by omega
      go_wp2_with fail
      refine (anyPoint_any R0.out (by omega)).mono ?_
      rintro e w3 ⟨x, y, rfl, _, hr, hg⟩
      have hsz3 := hg.size
      have R1 := Lib.hid hr
      have G1 : Hid (w1.grownBy w3 (some g)) := Lib.hid (grown_call hg G0.out)
      have HO1 := Lib.hid (HO.out.grown hg (by omega))
      clear hr hg HO
      obtain ⟨A2, c2, rfl, hP2, h1, h2, h3⟩ := HO1.out.form
      have HP2 := Lib.hid hP2
      clear hP2
      have KP : Hid (OneB x y w3 (w3.alloc (.cells #[.int .i64 x, .int .i64 y] 38))) :=
        Lib.hid ⟨blk_new w3 _, by (repeat' (first | (with_reducible exact Below.refl _ _) | (with_reducible assumption) | (with_reducible refine Below.alloc ?_ ?_ _) | (with_reducible refine below_drewN ?_ _) | (with_reducible refine Below.drew ?_) | (with_reducible refine Below.setCell ?_ ?_ _) | (with_reducible refine below_call (by assumption) ?_ ?_) | (with_reducible refine below_grown (by assumption) ?_ ?_ ?_) | omega | (simp; done) | (simp; omega)))⟩
      rcases Nat.eq_zero_or_pos l.length with h0 | h0
      · have eb3 : ¬ (0 : Int) < l.length := by omega
        have eb2 : decide ((0 : Int) < l.length) = false := decide_eq_false eb3
        have HL0 := Lib.hid h0
        clear h0
        go_wp2_with (at_builtin
                     refine append_pts rfl (.tmp 36) (.tmp 38) rfl w1.heap.size _ _ rfl (HO1.out.below (by (repeat' (first | (with_reducible exact Below.refl _ _) | (with_reducible assumption) | (with_reducible refine Below.alloc ?_ ?_ _) | (with_reducible refine below_drewN ?_ _) | (with_reducible refine Below.drew ?_) | (with_reducible refine Below.setCell ?_ ?_ _) | (with_reducible refine below_call (by assumption) ?_ ?_) | (with_reducible refine below_grown (by assumption) ?_ ?_ ?_) | omega | (simp; done) | (simp; omega))))) _ 1 _ _ _ rfl (blk_new1 _ _ _) (by omega) (by simp; omega) ?_
                     intro v3 w4 hown3 hg3)
        go_roundw
        case rel => exact ⟨j - 1, l ++ [(x, y)], by rw [show ((j - 1 : Nat) : Int) = (j : Int) - 1 by omega], by simp; omega, hown3, Rd.more (Rd.own (rd_below (by (repeat' (first | (with_reducible exact Below.refl _ _) | (with_reducible assumption) | (with_reducible refine Below.alloc ?_ ?_ _) | (with_reducible refine below_drewN ?_ _) | (with_reducible refine Below.drew ?_) | (with_reducible refine Below.setCell ?_ ?_ _) | (with_reducible refine below_call (by assumption) ?_ ?_) | (with_reducible refine below_grown (by assumption) ?_ ?_ ?_) | omega | (simp; done) | (simp; omega)))) R1.out) hg3 (fun r hr => by have := HO1.out.row r hr; omega)) (by simp; omega), only_own hg3 (grown_below (w := w3) (by (repeat' (first | (with_reducible exact Below.refl _ _) | (with_reducible assumption) | (with_reducible refine Below.alloc ?_ ?_ _) | (with_reducible refine below_drewN ?_ _) | (with_reducible refine Below.drew ?_) | (with_reducible refine Below.setCell ?_ ?_ _) | (with_reducible refine below_call (by assumption) ?_ ?_) | (with_reducible refine below_grown (by assumption) ?_ ?_ ?_) | omega | (simp; done) | (simp; omega)))) G1.out trivial) (fun r hr => HO1.out.row r hr)⟩
        case measure => simp [intOf]; omega
      · have eb3 : (0 : Int) < l.length := by omega
        have eb2 : decide ((0 : Int) < l.length) = true := decide_eq_true eb3
        go_wp2_with fail
        generalize (w3.alloc (.cells #[.int .i64 x, .int .i64 y] 38)) = w4 at KP ⊢
        have hk4 := KP.out.bel
        have hz4 := hk4.size
        have hb4 := KP.out.at_
        have hl4 := blk_lt hb4
        refine (pick_any (rd_below hk4 R1.out) (by omega) _).mono ?_
        rintro e w5 ⟨p0, rfl, hp0, hp1, hr, hg⟩
        have R2 := Lib.hid hr
        have hz5 := hg.size
        have hb5 := blk_grown hb4 hg (by have := R1.out.lt; omega)
        have hl5 := blk_lt hb5
        have HO2 : Hid (OwnPts w1.heap.size w5 (.slice A2 l.length c2) l) := Lib.hid ((HO1.out.below hk4).grown hg (by omega))
        have G2 : Hid (w1.grownBy w5 (some g)) := Lib.hid (grown_call hg (grown_below hk4 G1.out trivial))
        obtain ⟨q, hq⟩ : ∃ q, w3.heap.size = q := ⟨_, rfl⟩
        rw [hq] at hb5 hl5 hsz3 hl4 hz4 ⊢
        have hgq : g < q := by have := R1.out.lt; omega
        have hs1q : w1.heap.size ≤ q := by have := G1.out.size; omega
        have hcq := blk_cell hb5
        have hfq := blk_free hb5
        have HQ5 := Lib.hid hb5
        have HSP : Hid (∀ g', (Value.slice A2 l.length c2).ownBlock = some g' → g' < q) := Lib.hid fun g' h => by have := HO1.out.lt g' h; omega
        clear hr hg hk4 hb4 hb5 KP hq
        by_cases hp : p0 = 0
        · subst hp
          obtain ⟨Ax, cx, e, hPx, _, _, _⟩ := HO2.out.form
          cases e
          obtain ⟨b, o, rfl, hbl, c0, c1⟩ := hPx.at_ (k := l.length - 1) (by omega)
          obtain ⟨d, hd⟩ : ∃ d, l.length - 1 = d := ⟨_, rfl⟩
          have t1 : (l.length : Int) - 1 = (d : Nat) := by omega
          have hdl : (d : Int) < l.length := by omega
          rw [hd] at c0 c1
          clear hPx hd
          go_wp2_with (at_builtin
                       refine append_pts rfl (.tmp 36) (.tmp 38) rfl w1.heap.size _ _ rfl ((HO2.out.other (w' := w5.setCell ⟨q, 1, none⟩ (.int .i64 (py l d))) (row := some q) (only_setCell (World.grownBy.refl _ _) (.inl rfl) _) (fun g' h e => by have := HSP.out g' h; cases e; omega)).below (by (repeat' (first | (with_reducible exact Below.refl _ _) | (with_reducible assumption) | (with_reducible refine Below.alloc ?_ ?_ _) | (with_reducible refine below_drewN ?_ _) | (with_reducible refine Below.drew ?_) | (with_reducible refine Below.setCell ?_ ?_ _) | (with_reducible refine below_call (by assumption) ?_ ?_) | (with_reducible refine below_grown (by assumption) ?_ ?_ ?_) | omega | (simp; done) | (simp; omega))))) _ 1 _ _ _ rfl (blk_newE _ _ (by simp)) (by omega) (by simp; omega) ?_
                       intro v3 w6 hown3 hg3)
          go_roundw
          case rel => exact ⟨j - 1, l ++ [(x, py l d)], by rw [show ((j - 1 : Nat) : Int) = (j : Int) - 1 by omega], by simp; omega, hown3, Rd.more (Rd.own (rd_below (by (repeat' (first | (with_reducible exact Below.refl _ _) | (with_reducible assumption) | (with_reducible refine Below.alloc ?_ ?_ _) | (with_reducible refine below_drewN ?_ _) | (with_reducible refine Below.drew ?_) | (with_reducible refine Below.setCell ?_ ?_ _) | (with_reducible refine below_call (by assumption) ?_ ?_) | (with_reducible refine below_grown (by assumption) ?_ ?_ ?_) | omega | (simp; done) | (simp; omega)))) (Rd.setFar (by simpa using hgq) R2.out)) hg3 (fun r hr => by have := HO2.out.row r hr; omega)) (by simp; omega), only_own hg3 (only_alloc (only_setCell G2.out (.inr (by simpa using hs1q)) _) _) (fun r hr => HO2.out.row r hr)⟩
          case measure => simp [intOf]; omega
        · have eb4 : decide (p0 = 0) = false := by simpa using hp
          have eb5 : (p0 == 0) = false := by simpa using hp
          go_wp2_with (at_builtin
                       refine append_pts rfl (.tmp 36) (.tmp 38) rfl w1.heap.size _ _ rfl (HO2.out.below (by (repeat' (first | (with_reducible exact Below.refl _ _) | (with_reducible assumption) | (with_reducible refine Below.alloc ?_ ?_ _) | (with_reducible refine below_drewN ?_ _) | (with_reducible refine Below.drew ?_) | (with_reducible refine Below.setCell ?_ ?_ _) | (with_reducible refine below_call (by assumption) ?_ ?_) | (with_reducible refine below_grown (by assumption) ?_ ?_ ?_) | omega | (simp; done) | (simp; omega))))) _ 1 _ _ _ rfl (blk_new _ _) (by omega) (by simp; omega) ?_
                       intro v3 w6 hown3 hg3)
          go_roundw
          case rel => exact ⟨j - 1, l ++ [(x, y)], by rw [show ((j - 1 : Nat) : Int) = (j : Int) - 1 by omega], by simp; omega, hown3, Rd.more (Rd.own (rd_below (by (repeat' (first | (with_reducible exact Below.refl _ _) | (with_reducible assumption) | (with_reducible refine Below.alloc ?_ ?_ _) | (with_reducible refine below_drewN ?_ _) | (with_reducible refine Below.drew ?_) | (with_reducible refine Below.setCell ?_ ?_ _) | (with_reducible refine below_call (by assumption) ?_ ?_) | (with_reducible refine below_grown (by assumption) ?_ ?_ ?_) | omega | (simp; done) | (simp; omega)))) R2.out) hg3 (fun r hr => by have := HO2.out.row r hr; omega)) (by simp; omega), only_own hg3 (grown_below (w := w5) (by (repeat' (first | (with_reducible exact Below.refl _ _) | (with_reducible assumption) | (with_reducible refine Below.alloc ?_ ?_ _) | (with_reducible refine below_drewN ?_ _) | (with_reducible refine Below.drew ?_) | (with_reducible refine Below.setCell ?_ ?_ _) | (with_reducible refine below_call (by assumption) ?_ ?_) | (with_reducible refine below_grown (by assumption) ?_ ?_ ?_) | omega | (simp; done) | (simp; omega)))) G2.out trivial) (fun r hr => HO2.out.row r hr)⟩
          case measure => simp [intOf]; omega
    · obtain rfl : j = 0 := by omega
      have eb : decide ((0 : Int) < ((0 : Nat) : Int)) = false := by decide
      have OP := Lib.hid HO.out.weak
      have hr := R0.out
      have hbo : Below w.heap.size w wo := below_grown G0.out HB1.out (by omega) (by omega)
      go_wp2_with fail
      refine (one_lit (l := [_, _, _, _, _, _, _]) (by repeat' (first | (with_reducible assumption) | (with_reducible apply Rd.alloc) | (with_reducible apply Rd.drewN) | (with_reducible apply rd_below (by assumption)) | (with_reducible apply Rd.setFar) | omega | (simp; omega))) (by omega) (by simp) rfl (by simp) (by simp) _).mono ?_
      rintro e w3 ⟨x, rfl, _, hr, hg⟩
      have hb3 : Below w.heap.size w w3 := below_grown hg (by (repeat' (first | (with_reducible exact Below.refl _ _) | (with_reducible assumption) | (with_reducible refine Below.alloc ?_ ?_ _) | (with_reducible refine below_drewN ?_ _) | (with_reducible refine Below.drew ?_) | (with_reducible refine Below.setCell ?_ ?_ _) | (with_reducible refine below_call (by assumption) ?_ ?_) | (with_reducible refine below_grown (by assumption) ?_ ?_ ?_) | omega | (simp; done) | (simp; omega)))) (by simp; omega) (by omega)
      go_wp2
      go_ret2
      exact ⟨_, l, x, rfl, by omega, ((OP.out.below (by (repeat' (first | (with_reducible exact Below.refl _ _) | (with_reducible assumption) | (with_reducible refine Below.alloc ?_ ?_ _) | (with_reducible refine below_drewN ?_ _) | (with_reducible refine Below.drew ?_) | (with_reducible refine Below.setCell ?_ ?_ _) | (with_reducible refine below_call (by assumption) ?_ ?_) | (with_reducible refine below_grown (by assumption) ?_ ?_ ?_) | omega | (simp; done) | (simp; omega))))).grown hg (by omega)).lower (by omega), hb3⟩

end Go.Proofs.Ytbiddmimcdmnoaa
