/-
  The generator of lists of points.
-/
import Derived.Test.YtnmbeocgnmnpfaaDraw
import Derived.Test.YtnmbeocgnmnpfaaDrawP
import Derived.Test.YtnmbeocgnmnpfaaPtsH
namespace Go.Proofs.Ytnmbeocgnmnpfaa
open Go.RowKit Pl

set_option linter.unusedSimpArgs false
set_option linter.unusedVariables false

theorem Rd.own {g : Nat} {A : Option Addr} {n c : Nat} {z : Nat → Int} {w w' : World} {k : Nat} {row : Option Nat} (h : Rd g A n c z w k) (hg : w.grownBy w' row) (hrow : ∀ r, row = some r → g < r) : Rd g A n c z w' k := by
  refine ⟨?_, fun hn => ?_, h.far, h.cap, h.few⟩
  · obtain ⟨p, hp, hb⟩ := h.pos
    exact ⟨p, hp, (hg.block g h.lt (fun e => by have := hrow g e.symm; omega)).trans hb⟩
  · obtain ⟨b, o, rfl, hbl, hc⟩ := h.code hn
    have hf := h.far hn b o rfl
    have hblk := hg.block b hbl (fun e => by have := hrow b e.symm; omega)
    exact ⟨b, o, rfl, Nat.lt_of_lt_of_le hbl hg.size, fun i hi => ⟨(World.cell?_of_block (a := ⟨b, o + i, none⟩) hblk).trans (hc i hi).1, (hc i hi).2⟩⟩
theorem only_own {a w w1 : World} {g : Nat} {row : Option Nat} (h2 : w.grownBy w1 row) (h1 : a.grownBy w (some g)) (hrow : ∀ r, row = some r → a.heap.size ≤ r) : a.grownBy w1 (some g) :=
  ⟨h2.os.trans h1.os, h2.tape.trans h1.tape, h2.output.trans h1.output, Nat.le_trans h1.size h2.size, fun i hi hne => (h2.block i (Nat.lt_of_lt_of_le hi h1.size) (fun e => by have := hrow i e.symm; omega)).trans (h1.block i hi hne)⟩
theorem OwnPts.grown {base g : Nat} {w w' : World} {v : Value} {l : List Pt} (h : OwnPts base w v l) (hg : w.grownBy w' (some g)) (hne : g < base) : OwnPts base w' v l := by
  refine ⟨h.1, ?_⟩
  rcases h.2 with h | ⟨g', cap, cur, e, hb', hg', r⟩
  · exact .inl h
  · exact .inr ⟨g', cap, cur, e, hb', blk_grown hg' hg (by omega), r⟩
theorem OwnPts.alloc {base : Nat} {w : World} {v : Value} {l : List Pt} (h : OwnPts base w v l) (o : Obj) : OwnPts base (w.alloc o) v l := h.below ((Below.refl _ _).alloc (Nat.le_refl _) o)
theorem OwnP.grown {base g : Nat} {w w' : World} {v : Value} {l : List Pt} (h : OwnP base w v l) (hg : w.grownBy w' (some g)) (hne : g < base) : OwnP base w' v l := by
  obtain ⟨A, c, e, h1, h2, h3, h4⟩ := h
  refine ⟨A, c, e, h1, h2, h3, fun hn => ?_⟩
  obtain ⟨g', cur, e', hg', hh⟩ := h4 hn
  have := h3 _ e'
  exact ⟨g', cur, e', blk_grown hg' hg (by simp only at this; omega), hh⟩
theorem Has.set {cur : Array Value} {l : List Pt} {i : Nat} {x y : Int} (h : Has cur l) (hi : i < l.length) : Has ((cur.setIfInBounds (i * 2) (.int .i64 x)).setIfInBounds (i * 2 + 1) (.int .i64 y)) (l.set i (x, y)) := by
  have h1 := h.1
  refine ⟨by simpa using h.1, fun j hj => ?_⟩
  rw [List.length_set] at hj
  obtain ⟨c0, c1⟩ := h.2 j hj
  by_cases e : j = i
  · subst e
    have e1 : px (l.set j (x, y)) j = x := by simp [px, hj]
    have e2 : py (l.set j (x, y)) j = y := by simp [py, hj]
    rw [e1, e2]
    constructor
    · rw [Array.getElem?_setIfInBounds_ne (by omega), Array.getElem?_setIfInBounds_self_of_lt (by omega)]
    · rw [Array.getElem?_setIfInBounds_self_of_lt (by simp; omega)]
  · have e1 : px (l.set i (x, y)) j = px l j := by simp [px, List.getElem?_set, Ne.symm e]
    have e2 : py (l.set i (x, y)) j = py l j := by simp [py, List.getElem?_set, Ne.symm e]
    rw [e1, e2]
    constructor
    · rw [Array.getElem?_setIfInBounds_ne (by omega), Array.getElem?_setIfInBounds_ne (by omega)]; exact c0
    · rw [Array.getElem?_setIfInBounds_ne (by omega), Array.getElem?_setIfInBounds_ne (by omega)]; exact c1

/-- Some points, drawn. -/
def AnyPts (g : Nat) (A : Option Addr) (n c : Nat) (z : Nat → Int) (w : World) (k : Nat) (e : Ending) (w' : World) : Prop :=
  ∃ v l, e = .returned v ∧ l.length ≤ 41 ∧ OwnP w.heap.size w' v l ∧ Rd g A n c z w' (k + 200) ∧ w.grownBy w' (some g)

set_option maxHeartbeats 2000000 in
theorem anyPoints_any {g : Nat} {A : Option Addr} {n c : Nat} {z : Nat → Int} {w : World} {k : Nat} (h : Rd g A n c z w k) (hk : k ≤ 980000) :
    Calls Try.prog 26 #[.pointer (some ⟨g, 0, none⟩)] w (AnyPts g A n c z w k) := by
  have hgl := h.lt
  go_enter Try.func26, Try.ntmps26
  go_wp2_with fail
  refine (one_lit (l := [_, _, _, _, _, _, _, _, _]) (by repeat' (first | (with_reducible assumption) | (with_reducible apply Rd.alloc) | (with_reducible apply Rd.drewN) | (with_reducible apply rd_below (by assumption)) | (with_reducible apply Rd.setFar) | omega | (simp; omega))) (by omega) (by simp) rfl (by simp) (by simp) _).mono ?_
  rintro e w1 ⟨n0, rfl, hx, hr, hg⟩
  simp only [List.mem_cons, List.not_mem_nil, or_false] at hx
  have hz1 := hg.size
  simp at hz1
  obtain ⟨m, rfl, hm⟩ : ∃ m : Nat, n0 = (m : Int) ∧ m ≤ 41 := ⟨n0.toNat, by omega, by omega⟩
  clear hx
  have E0 : Hid (OwnPts w.heap.size w1 (.slice (some ⟨w.heap.size, 0, none⟩) 0 0) []) := Lib.hid (OwnPts.empty rfl (Nat.le_refl _) (by (repeat' (first | (with_reducible assumption) | (with_reducible exact blk_new _ _) | (with_reducible exact blk_new1 _ _ _) | (with_reducible exact blk_new2 _ _ _ _) | (with_reducible refine blk_alloc ?_ _) | (with_reducible refine blk_drewN ?_ _) | (with_reducible refine blk_down (by assumption) ?_) | (with_reducible refine blk_up (by assumption) (by omega) ?_) | (with_reducible refine blk_far ?_ _ (by simp; omega))))))
  have R0 := Lib.hid hr
  have G0 : Hid (w.grownBy w1 (some g)) := Lib.hid (by (repeat' (first | (with_reducible exact World.grownBy.refl _ _) | (with_reducible assumption) | (with_reducible refine only_alloc ?_ _) | (with_reducible refine only_drewN ?_ _) | (with_reducible refine only_setCell ?_ (by first | exact .inl rfl | exact .inr (Nat.le_refl _) | (right; simp; done) | (right; simp; omega)) _) | (with_reducible refine grown_call (by assumption) ?_) | (with_reducible refine grown_below (by assumption) ?_ (by first | omega | (simp; done) | (simp; omega))))))
  clear hr hg
  go_wp2
  go_loopw [4, 3] (fun i v wr => ∃ (j : Nat) (l : List Pt), i = .int .i64 j ∧ j + l.length ≤ 41 ∧ OwnPts w.heap.size wr v l ∧ Rd g A n c z wr (k + 1 + 2 * l.length) ∧ w.grownBy wr (some g)) (fun i _ _ => (intOf i).toNat)
  case atStart => exact ⟨m, [], rfl, by simpa using hm, E0.out, R0.out, G0.out⟩
  case round =>
    obtain ⟨j, l, rfl, hjl, hown, hr, hg⟩ := hrel
    have hsz := hg.size
    have HO := Lib.hid hown
    have R0 := Lib.hid hr
    have G0 := Lib.hid hg
    clear hown hr hg E0
    by_cases hj : 0 < j
    · have eb : decide ((0 : Int) < j) = true := by simp; omega
      go_wp2_with fail
      refine (somePoint_any R0.out (by omega)).mono ?_
      rintro e w2 ⟨x, y, rfl, _, _, _, _, hr, hg⟩
      have hsz2 := hg.size
      have R1 := Lib.hid hr
      have G1 := Lib.hid hg
      clear hr hg
      go_wp2_with (at_builtin
                   refine append_pts rfl (.tmp 13) (.tmp 16) rfl w.heap.size _ _ rfl ((HO.out.grown G1.out hgl).alloc _) w2.heap.size 1 _ _ _ rfl (blk_new w2 _) (by omega) (by simp; omega) ?_
                   intro v3 w3 hown3 hg3)
      go_roundw
      case rel => exact ⟨j - 1, l ++ [(x, y)], by rw [show ((j - 1 : Nat) : Int) = (j : Int) - 1 by omega], by simp; omega, hown3, Rd.more ((R1.out.alloc _).own hg3 (fun r hr => by have := HO.out.row r hr; omega)) (by simp; omega), only_own hg3 (only_alloc (grown_call G1.out G0.out) _) (fun r hr => HO.out.row r hr)⟩
      case measure => simp [intOf]; omega
    · obtain rfl : j = 0 := by omega
      have eb : decide ((0 : Int) < ((0 : Nat) : Int)) = false := by decide
      obtain ⟨A2, c2, e2, h1, h2, h3, h4⟩ := HO.out.weak
      subst e2
      rcases Nat.eq_zero_or_pos l.length with h0 | h0
      · have eb3 : ¬ (0 : Int) < l.length := by omega
        have eb2 : decide ((0 : Int) < l.length) = false := decide_eq_false eb3
        clear h0
        go_wp2
        go_ret
        exact ⟨_, l, rfl, by omega, ⟨A2, c2, rfl, h1, h2, h3, h4⟩, Rd.more R0.out (by omega), G0.out⟩
      · have eb3 : (0 : Int) < l.length := by omega
        have eb2 : decide ((0 : Int) < l.length) = true := decide_eq_true eb3
        obtain ⟨gb, cur, rfl, hgb, hh⟩ := h4 h0
        have hbg := h3 _ rfl
        simp only at hbg
        have HH := Lib.hid hh
        have HG := Lib.hid hgb
        clear h3 h4 hh hgb
        go_wp2_with fail
        refine (pick_any R0.out (by omega) _).mono ?_
        rintro e w2 ⟨p0, rfl, hp0, hp1, hr, hg⟩
        have R1 := Lib.hid hr
        have G1 : Hid (w.grownBy w2 (some g)) := Lib.hid (grown_call hg G0.out)
        have HG1 := Lib.hid (blk_grown HG.out hg (by omega))
        clear hr hg
        by_cases hp : p0 = 0
        · subst hp
          go_wp2_with fail
          refine (pick_any R1.out (by omega) _).mono ?_
          rintro e w3 ⟨p1, rfl, hq0, hq1, hr, hg⟩
          have R2 := Lib.hid hr
          have G2 : Hid (w.grownBy w3 (some g)) := Lib.hid (grown_call hg G1.out)
          have HG2 := Lib.hid (blk_grown HG1.out hg (by omega))
          clear hr hg
          obtain ⟨i, rfl, hi⟩ : ∃ i : Nat, p1 = (i : Int) ∧ i < l.length := ⟨p1.toNat, by omega, by omega⟩
          clear hq0 hq1
          go_wp2_with fail
          refine (anyPoint_any R2.out (by omega)).mono ?_
          rintro e w4 ⟨x, y, rfl, _, hr, hg⟩
          have R3 := Lib.hid hr
          have G3 : Hid (w.grownBy w4 (some g)) := Lib.hid (grown_call hg G2.out)
          have hq := blk_grown HG2.out hg (by omega)
          have HG3 := Lib.hid hq
          have hc1 := blk_cell hq
          have hf1 := blk_free hq
          have hii : (i : Int) < l.length := by omega
          obtain ⟨d0, d1⟩ := HH.out.2 i hi
          have c0 := (hc1 (i * 2)).trans d0
          have c1 := (hc1 (i * 2 + 1)).trans d1
          clear hr hg hq hc1 d0 d1
          go_wp2
          go_ret
          refine ⟨_, l.set i (x, y), rfl, by simp; omega, ⟨_, c2, by rw [List.length_set]; rfl, by rw [List.length_set]; exact h1, h2, fun a e => (by cases e; exact hbg), fun _ => ⟨gb, _, rfl, blk_set (blk_set HG3.out _ _) _ _, HH.out.set hi⟩⟩, ?_, only_setCell (only_setCell G3.out (.inr (by simpa using hbg)) _) (.inr (by simpa using hbg)) _⟩
          exact Rd.more (Rd.setFar (by simp; omega) (Rd.setFar (by simp; omega) R3.out)) (by omega)
        · have eb4 : decide (p0 = 0) = false := by simpa using hp
          have eb5 : (p0 == 0) = false := by simpa using hp
          go_wp2
          go_ret
          exact ⟨_, l, rfl, by omega, ⟨_, c2, rfl, h1, h2, fun a e => (by cases e; exact hbg), fun _ => ⟨gb, cur, rfl, HG1.out, HH.out⟩⟩, Rd.more R1.out (by omega), G1.out⟩

set_option maxHeartbeats 400000 in
theorem DrawBoxOf_any {A : Option Addr} {n c : Nat} {w : World} (h : Code w A n c) : Calls Try.prog 10 #[.slice A n c] w (fun e w' => ∃ v l, e = .returned v ∧ l.length ≤ 41 ∧ OwnP w.heap.size w' v l ∧ Below w.heap.size w w') := by
  go_enter Try.func10, Try.ntmps10
  go_wp2_with fail
  refine (newReader_any (h.below (by (repeat' (first | (with_reducible exact Below.refl _ _) | (with_reducible assumption) | (with_reducible refine Below.alloc ?_ ?_ _) | (with_reducible refine below_drewN ?_ _) | (with_reducible refine Below.drew ?_) | (with_reducible refine Below.setCell ?_ ?_ _) | (with_reducible refine below_call (by assumption) ?_ ?_) | go_size))))).mono ?_
  rintro e w1 ⟨g, A', n', c', z, rfl, hg0, hr, hb⟩
  have hz := hb.size
  go_wp2_with fail
  refine (anyPoints_any hr (by omega)).mono ?_
  rintro e w2 ⟨v, l, rfl, hl, hv, hr, hg⟩
  go_wp2
  go_ret
  exact ⟨v, l, rfl, hl, hv.lower (by omega), by (repeat' (first | (with_reducible exact Below.refl _ _) | (with_reducible assumption) | (with_reducible refine Below.alloc ?_ ?_ _) | (with_reducible refine below_drewN ?_ _) | (with_reducible refine Below.drew ?_) | (with_reducible refine Below.setCell ?_ ?_ _) | (with_reducible refine below_call (by assumption) ?_ ?_) | (with_reducible refine below_grown (by assumption) ?_ ?_ ?_) | omega | (simp; done) | (simp; omega)))⟩

/-- Points and two numbers. -/
def PtsXY (w : World) (e : Ending) (w' : World) : Prop :=
  ∃ v l x y, e = .returned (.tuple #[v, .int .i64 x, .int .i64 y]) ∧ l.length ≤ 41 ∧ (-1001 ≤ x ∧ x ≤ 1001) ∧ (-1001 ≤ y ∧ y ≤ 1001) ∧ OwnP w.heap.size w' v l ∧ Below w.heap.size w w'

set_option maxHeartbeats 1000000 in
theorem DrawMovePoints_any {A : Option Addr} {n c : Nat} {w : World} (h : Code w A n c) : Calls Try.prog 21 #[.slice A n c] w (PtsXY w) := by
  go_enter Try.func21, Try.ntmps21
  go_wp2_with fail
  refine (newReader_any (h.below (by (repeat' (first | (with_reducible exact Below.refl _ _) | (with_reducible assumption) | (with_reducible refine Below.alloc ?_ ?_ _) | (with_reducible refine below_drewN ?_ _) | (with_reducible refine Below.drew ?_) | (with_reducible refine Below.setCell ?_ ?_ _) | (with_reducible refine below_call (by assumption) ?_ ?_) | go_size))))).mono ?_
  rintro e w1 ⟨g, A', n', c', z, rfl, hg0, hr, hb⟩
  have hz := hb.size
  have hg1 := hr.lt
  go_wp2_with fail
  refine (anyPoints_any hr (by omega)).mono ?_
  rintro e w2 ⟨v, l, rfl, hl, hv, hr, hg⟩
  have hgl := hr.lt
  have hz2 := hg.size
  go_wp2_with fail
  refine (anyUnit_any hr (by omega)).mono ?_
  rintro e w3 ⟨x, rfl, hx, hr3, hg3⟩
  have hz3 := hg3.size
  go_wp2_with fail
  refine (anyUnit_any hr3 (by omega)).mono ?_
  rintro e w4 ⟨y, rfl, hy, hr4, hg4⟩
  go_wp2
  go_ret3
  exact ⟨v, l, x, y, rfl, hl, hx, hy, ((hv.grown hg3 hg1).grown hg4 hg1).lower (by omega), by (repeat' (first | (with_reducible exact Below.refl _ _) | (with_reducible assumption) | (with_reducible refine Below.alloc ?_ ?_ _) | (with_reducible refine below_drewN ?_ _) | (with_reducible refine Below.drew ?_) | (with_reducible refine Below.setCell ?_ ?_ _) | (with_reducible refine below_call (by assumption) ?_ ?_) | (with_reducible refine below_grown (by assumption) ?_ ?_ ?_) | omega | (simp; done) | (simp; omega)))⟩

end Go.Proofs.Ytnmbeocgnmnpfaa
