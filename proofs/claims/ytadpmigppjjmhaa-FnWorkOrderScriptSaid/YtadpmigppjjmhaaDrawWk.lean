/-
  The generator of work: tiles, workers and turns.
-/
import Derived.Test.YtadpmigppjjmhaaWk
import Derived.Test.YtadpmigppjjmhaaRdr
namespace Go.Proofs.Ytadpmigppjjmhaa
open Go.RowKit Pl

set_option linter.unusedSimpArgs false
set_option linter.unusedVariables false

theorem turn_info : (Try.prog.info? 33).map (fun i => (i.zero, i.size, i.bytes)) = some (some (.agg #[.int .i64 0, .int .i64 0]), 2, 16) := by kernel_rfl
theorem Rd.ownC {g : Nat} {A : Option Addr} {n c : Nat} {z : Nat → Int} {w w' : World} {k : Nat} {row : Option Nat} (h : Rd g A n c z w k) (hg : w.grownBy w' row) (hrow : ∀ r, row = some r → g < r) : Rd g A n c z w' k := by
  refine ⟨?_, fun hn => ?_, h.far, h.cap, h.few⟩
  · obtain ⟨p, hp, hb⟩ := h.pos
    exact ⟨p, hp, (hg.block g h.lt (fun e => by have := hrow g e.symm; omega)).trans hb⟩
  · obtain ⟨b, o, rfl, hbl, hc⟩ := h.code hn
    have hf := h.far hn b o rfl
    have hblk := hg.block b hbl (fun e => by have := hrow b e.symm; omega)
    exact ⟨b, o, rfl, Nat.lt_of_lt_of_le hbl hg.size, fun i hi => ⟨(World.cell?_of_block (a := ⟨b, o + i, none⟩) hblk).trans (hc i hi).1, (hc i hi).2⟩⟩
theorem only_ownC {a w w1 : World} {g : Nat} {row : Option Nat} (h2 : w.grownBy w1 row) (h1 : a.grownBy w (some g)) (hrow : ∀ r, row = some r → a.heap.size ≤ r) : a.grownBy w1 (some g) :=
  ⟨h2.os.trans h1.os, h2.tape.trans h1.tape, h2.output.trans h1.output, Nat.le_trans h1.size h2.size, fun i hi hne => (h2.block i (Nat.lt_of_lt_of_le hi h1.size) (fun e => by have := hrow i e.symm; omega)).trans (h1.block i hi hne)⟩
/-- The block of pairs. -/
theorem OwnC.open {T : TypeId} {base : Nat} {w : World} {v : Value} {l : List Pt} (h : OwnC T base w v l) (hn : 0 < l.length) : ∃ g c cur, v = .slice (some ⟨g, 0, none⟩) l.length c ∧ base ≤ g ∧ l.length ≤ c ∧ w.heap[g]? = some (.cells cur T (0, 0)) ∧ l.length * 2 ≤ cur.size ∧ ∀ i, i < l.length → cur[i * 2]? = some (.int .i64 (px l i)) ∧ cur[i * 2 + 1]? = some (.int .i64 (py l i)) := by
  rcases h.2 with ⟨rfl, h0⟩ | ⟨g, cap, cur, rfl, hb, hg, hl, hc, hsz, ht⟩
  · omega
  · refine ⟨g, cap, cur, rfl, hb, hl, hg, by omega, fun i hi => ?_⟩
    have hat : ∀ j, j < l.length * 2 → cur[j]? = (cellsP l)[j]? := fun j hj => by rw [← ht, List.getElem?_take, if_pos hj, Array.getElem?_toList]
    obtain ⟨d0, d1⟩ := cellsP_at l i hi
    exact ⟨by rw [hat _ (by omega), d0], by rw [hat _ (by omega), d1]⟩
theorem isPts_blk {w : World} {g n : Nat} {cur : Array Value} {T : TypeId} {l : List Pt} (h : w.heap[g]? = some (.cells cur T (0, 0))) (hl : l.length = n) (hat : ∀ i, i < n → cur[i * 2]? = some (.int .i64 (px l i)) ∧ cur[i * 2 + 1]? = some (.int .i64 (py l i))) : IsPts w (some ⟨g, 0, none⟩) n l := by
  refine ⟨hl, fun _ => ⟨g, 0, rfl, blk_lt h, fun i hi => ?_⟩⟩
  rw [hl] at hi
  obtain ⟨d0, d1⟩ := hat i hi
  rw [blk_cell h, blk_cell h, Nat.zero_add]
  exact ⟨d0, d1⟩
theorem first_set {cur : Array Value} {l : List Pt} {n : Nat} (hl : l.length = n) (hs : n * 2 ≤ cur.size) (hn : 0 < n) (hat : ∀ i, i < n → cur[i * 2]? = some (.int .i64 (px l i)) ∧ cur[i * 2 + 1]? = some (.int .i64 (py l i))) (p q : Int) :
    ∀ i, i < n → ((cur.setIfInBounds 0 (.int .i64 p)).setIfInBounds 1 (.int .i64 q))[i * 2]? = some (.int .i64 (px (l.set 0 (p, q)) i)) ∧ ((cur.setIfInBounds 0 (.int .i64 p)).setIfInBounds 1 (.int .i64 q))[i * 2 + 1]? = some (.int .i64 (py (l.set 0 (p, q)) i)) := fun i hi => by
  obtain ⟨d0, d1⟩ := hat i hi
  by_cases e : i = 0
  · subst e
    have e1 : px (l.set 0 (p, q)) 0 = p := by simp [px, List.getD, show 0 < l.length by omega]
    have e2 : py (l.set 0 (p, q)) 0 = q := by simp [py, List.getD, show 0 < l.length by omega]
    rw [e1, e2]
    constructor
    · rw [Array.getElem?_setIfInBounds_ne (by omega), Array.getElem?_setIfInBounds_self_of_lt (by omega)]
    · rw [Array.getElem?_setIfInBounds_self_of_lt (by simp; omega)]
  · have e1 : px (l.set 0 (p, q)) i = px l i := by simp [px, List.getElem?_set, Ne.symm e]
    have e2 : py (l.set 0 (p, q)) i = py l i := by simp [py, List.getElem?_set, Ne.symm e]
    rw [e1, e2]
    constructor
    · rw [Array.getElem?_setIfInBounds_ne (by omega), Array.getElem?_setIfInBounds_ne (by omega)]; exact d0
    · rw [Array.getElem?_setIfInBounds_ne (by omega), Array.getElem?_setIfInBounds_ne (by omega)]; exact d1

/-- Workers and turns, drawn. -/
def AnyTs (g : Nat) (A : Option Addr) (n c : Nat) (z : Nat → Int) (w : World) (k : Nat) (e : Ending) (w' : World) : Prop :=
  ∃ (B : Option Addr) (d : Nat) (l : List Pt) (x : Int), e = .returned (.tuple #[.int .i64 x, .slice B l.length d]) ∧ (0 ≤ x ∧ x ≤ 5) ∧ l.length ≤ 31 ∧ l.length ≤ d ∧ IsPts w' B l.length l ∧ (∀ a, B = some a → w.heap.size ≤ a.block) ∧ Rd g A n c z w' (k + 100) ∧ w.grownBy w' (some g)

set_option maxRecDepth 100000 in
set_option maxHeartbeats 4000000 in
theorem anyTurns_any {g : Nat} {A : Option Addr} {n c : Nat} {z : Nat → Int} {w : World} {k : Nat} (h : Rd g A n c z w k) (hk : k ≤ 980000) :
    Calls Try.prog 10 #[.pointer (some ⟨g, 0, none⟩)] w (AnyTs g A n c z w k) := by
  have hgl := h.lt
  go_enter Try.func10, Try.ntmps10
  go_wp2_with fail
  refine (one_lit (l := [_, _, _, _, _, _]) (by repeat' (first | (with_reducible assumption) | (with_reducible apply Rd.alloc) | (with_reducible apply Rd.drewN) | (with_reducible apply rd_below (by assumption)) | (with_reducible apply Rd.setFar) | omega | (simp; omega))) (by omega) (by simp) rfl (by simp) (by simp) _).mono ?_
  rintro e w1 ⟨x, rfl, hx, hr, hg⟩
  simp only [List.mem_cons, List.not_mem_nil, or_false] at hx
  have hz1 := hg.size
  simp at hz1
  have hgl1 := hr.lt
  have R1 := Lib.hid hr
  have G1 : Hid (w.grownBy w1 (some g)) := Lib.hid (by (repeat' (first | (with_reducible exact World.grownBy.refl _ _) | (with_reducible assumption) | (with_reducible refine only_alloc ?_ _) | (with_reducible refine only_drewN ?_ _) | (with_reducible refine only_setCell ?_ (by first | exact .inl rfl | exact .inr (Nat.le_refl _) | (right; simp; done) | (right; simp; omega)) _) | (with_reducible refine grown_call (by assumption) ?_) | (with_reducible refine grown_below (by assumption) ?_ (by first | omega | (simp; done) | (simp; omega))))))
  clear hr hg
  go_wp2_with fail
  refine (one_lit (l := [_, _, _, _, _, _]) (by have hr := R1.out; exact (by repeat' (first | (with_reducible assumption) | (with_reducible apply Rd.alloc) | (with_reducible apply Rd.drewN) | (with_reducible apply rd_below (by assumption)) | (with_reducible apply Rd.setFar) | omega | (simp; omega)))) (by omega) (by simp) rfl (by simp) (by simp) _).mono ?_
  rintro e w2 ⟨n0, rfl, hn0, hr, hg⟩
  simp only [List.mem_cons, List.not_mem_nil, or_false] at hn0
  have hz2 := hg.size
  simp at hz2
  obtain ⟨m, rfl, hm⟩ : ∃ m : Nat, n0 = (m : Int) ∧ m ≤ 31 := ⟨n0.toNat, by omega, by omega⟩
  have hx05 : 0 ≤ x ∧ x ≤ 5 := by omega
  clear hn0 hx
  obtain ⟨hx0, hx5⟩ := hx05
  have E0 : Hid (OwnC 33 w.heap.size w2 (.slice (some ⟨w1.heap.size, 0, none⟩) 0 0) []) := Lib.hid (OwnC.empty rfl (by omega) (by (repeat' (first | (with_reducible assumption) | (with_reducible exact blk_new _ _) | (with_reducible exact blk_new1 _ _ _) | (with_reducible exact blk_new2 _ _ _ _) | (with_reducible refine blk_alloc ?_ _) | (with_reducible refine blk_drewN ?_ _) | (with_reducible refine blk_down (by assumption) ?_) | (with_reducible refine blk_up (by assumption) (by omega) ?_) | (with_reducible refine blk_far ?_ _ (by simp; omega))))))
  have R0 := Lib.hid hr
  have G0 : Hid (w.grownBy w2 (some g)) := Lib.hid (by have g1 := G1.out; (repeat' (first | (with_reducible exact World.grownBy.refl _ _) | (with_reducible assumption) | (with_reducible refine only_alloc ?_ _) | (with_reducible refine only_drewN ?_ _) | (with_reducible refine only_setCell ?_ (by first | exact .inl rfl | exact .inr (Nat.le_refl _) | (right; simp; done) | (right; simp; omega)) _) | (with_reducible refine grown_call (by assumption) ?_) | (with_reducible refine grown_below (by assumption) ?_ (by first | omega | (simp; done) | (simp; omega))))))
  clear hr hg
  go_wp2
  go_loopw [6, 5] (fun i v wr => ∃ (j : Nat) (l : List Pt), i = .int .i64 j ∧ j + l.length ≤ 31 ∧ OwnC 33 w.heap.size wr v l ∧ Rd g A n c z wr (k + 2 + 2 * l.length) ∧ w.grownBy wr (some g)) (fun i _ _ => (intOf i).toNat)
  case atStart => exact ⟨m, [], rfl, by simpa using hm, E0.out, R0.out, G0.out⟩
  case round =>
    obtain ⟨wo, rfl⟩ : ∃ wo : World, wo = wr := ⟨_, rfl⟩
    obtain ⟨j, l, rfl, hjl, hown, hr, hg⟩ := hrel
    have hsz := hg.size
    have HO := Lib.hid hown
    have R0 := Lib.hid hr
    have G0 := Lib.hid hg
    clear hown hr hg E0
    by_cases hj : 0 < j
    · have eb : decide ((0 : Int) < j) = true := by simp; omega
      have hj' : (0 : Int) < j := by omega
      go_wp2_with fail
      refine (pick_any R0.out (by omega) _).mono ?_
      rintro e w3 ⟨p, rfl, hp0, hp1, hr, hg⟩
      have hz3 := hg.size
      have R1 := Lib.hid hr
      have HO1 := Lib.hid (HO.out.grown hg (by omega))
      have G1 : Hid (w.grownBy w3 (some g)) := Lib.hid (grown_call hg G0.out)
      clear hr hg
      go_wp2_with fail
      refine (pick_any R1.out (by omega) _).mono ?_
      rintro e w4 ⟨q, rfl, hq0, hq1, hr, hg⟩
      have hz4 := hg.size
      have R2 := Lib.hid hr
      have HO2 := Lib.hid (HO1.out.grown hg (by omega))
      have G2 : Hid (w.grownBy w4 (some g)) := Lib.hid (grown_call hg G1.out)
      clear hr hg
      go_wp2_with (at_builtin
                   refine append_c rfl (.tmp 18) (.tmp 28) 33 23 Try.underlying23 turn_info rfl w.heap.size _ l rfl (HO2.out.below (by (repeat' (first | (with_reducible exact Below.refl _ _) | (with_reducible assumption) | (with_reducible refine Below.alloc ?_ ?_ _) | (with_reducible refine below_drewN ?_ _) | (with_reducible refine Below.drew ?_) | (with_reducible refine Below.setCell ?_ ?_ _) | (with_reducible refine below_call (by assumption) ?_ ?_) | (with_reducible refine below_grown (by assumption) ?_ ?_ ?_) | omega | (simp; done) | (simp; omega))))) _ 1 _ _ _ rfl (blk_new _ _) (by omega) (by simp; omega) ?_
                   intro v5 w5 hown5 hg5 hat5)
      go_roundw
      case rel => exact ⟨j - 1, l ++ [(p, q)], by rw [show ((j - 1 : Nat) : Int) = (j : Int) - 1 by omega], by simp; omega, hown5, Rd.more ((R2.out.alloc _).ownC hg5 (fun r hr => by have := (HO2.out.row r hr).1; omega)) (by simp; omega), only_ownC hg5 (only_alloc G2.out _) (fun r hr => by have := (HO2.out.row r hr).1; omega)⟩
      case measure => simp [intOf]; omega
    · obtain rfl : j = 0 := by omega
      have eb : decide ((0 : Int) < ((0 : Nat) : Int)) = false := by decide
      rcases Nat.eq_zero_or_pos l.length with h0 | h0
      · obtain ⟨B, d, rfl, hI, hd, _, hB⟩ := HO.out.form
        have HI := Lib.hid hI
        have hl0 : l = [] := List.length_eq_zero_iff.1 h0
        subst hl0
        clear hI h0
        go_wp2
        go_ret2
        exact ⟨B, d, [], x, rfl, ⟨hx0, hx5⟩, by omega, hd, HI.out, fun a ha => by have := hB a ha; omega, Rd.more R0.out (by omega), G0.out⟩
      · have eb3 : (0 : Int) < l.length := by omega
        have eb2 : decide ((0 : Int) < l.length) = true := decide_eq_true eb3
        obtain ⟨g2, d, cur, rfl, hb2, hd, hblk, hs2, hat⟩ := HO.out.open h0
        have HBK := Lib.hid hblk
        have HAT := Lib.hid hat
        clear hblk hat
        go_wp2_with fail
        refine (pick_any R0.out (by omega) _).mono ?_
        rintro e w3 ⟨p, rfl, hp0, hp1, hr, hg⟩
        have hz3 := hg.size
        have R1 := Lib.hid hr
        have G1 : Hid (w.grownBy w3 (some g)) := Lib.hid (grown_call hg G0.out)
        have HBK1 := Lib.hid (blk_grown HBK.out hg (by omega))
        clear hr hg
        by_cases hp : p = 0
        · subst hp
          go_wp2_with fail
          refine (one_lit (l := [_, _, _]) R1.out (by omega) (by simp) rfl (by simp) (by simp) _).mono ?_
          rintro e w4 ⟨a, rfl, _, hr, hg⟩
          have hz4 := hg.size
          simp at hz4
          have R2 := Lib.hid hr
          have G2 : Hid (w.grownBy w4 (some g)) := Lib.hid (grown_call hg (only_alloc G1.out _))
          have HBK2 := Lib.hid (blk_grown (blk_alloc HBK1.out _) hg (by omega))
          clear hr hg
          go_wp2_with fail
          refine (one_lit (l := [_, _]) R2.out (by omega) (by simp) rfl (by simp) (by simp) _).mono ?_
          rintro e w5 ⟨b, rfl, _, hr, hg⟩
          have hz5 := hg.size
          simp at hz5
          have R3 := Lib.hid hr
          have G3 : Hid (w.grownBy w5 (some g)) := Lib.hid (grown_call hg (only_alloc G2.out _))
          have hbk3 := blk_grown (blk_alloc HBK2.out _) hg (by omega)
          have hc3 := blk_cell hbk3
          have hf3 := blk_free hbk3
          have hl3 := blk_lt hbk3
          obtain ⟨a0, a1⟩ := HAT.out 0 h0
          have x0 := (hc3 0).trans a0
          have x1 := (hc3 1).trans a1
          have HBK3 := Lib.hid hbk3
          have HFS := Lib.hid (first_set rfl hs2 h0 HAT.out a b)
          clear hr hg hbk3 hc3 a0 a1
          go_wp2
          go_ret2
          refine ⟨some ⟨g2, 0, none⟩, d, l.set 0 (a, b), x, by rw [List.length_set]; rfl, ⟨hx0, hx5⟩, by rw [List.length_set]; omega, by rw [List.length_set]; exact hd, ?_, fun y hy => by cases hy; simp only; omega, Rd.more (Rd.setFar (by simp; omega) (Rd.setFar (by simp; omega) R3.out)) (by omega), only_setCell (only_setCell G3.out (.inr (by simp; omega)) _) (.inr (by simp; omega)) _⟩
          rw [List.length_set]
          exact isPts_blk (blk_set (blk_set HBK3.out _ _) _ _) (by rw [List.length_set]) HFS.out
        · have eb4 : decide (p = 0) = false := by simpa using hp
          have eb5 : (p == 0) = false := by simpa using hp
          go_wp2
          go_ret2
          exact ⟨some ⟨g2, 0, none⟩, d, l, x, rfl, ⟨hx0, hx5⟩, by omega, hd, isPts_blk HBK1.out rfl HAT.out, fun y hy => by cases hy; simp only; omega, Rd.more R1.out (by omega), G1.out⟩

/-- Tiles, workers and turns. -/
def Works (w : World) (e : Ending) (w' : World) : Prop :=
  ∃ (B : Option Addr) (d : Nat) (l : List Pt) (x y : Int), e = .returned (.tuple #[.int .i64 x, .int .i64 y, .slice B l.length d]) ∧ (-1 ≤ x ∧ x ≤ 17) ∧ (0 ≤ y ∧ y ≤ 5) ∧ l.length ≤ 31 ∧ l.length ≤ d ∧ IsPts w' B l.length l ∧ Below w.heap.size w w'

set_option maxHeartbeats 1000000 in
theorem DrawWorkOrder_any {A : Option Addr} {n c : Nat} {w : World} (h : Code w A n c) : Calls Try.prog 5 #[.slice A n c] w (Works w) := by
  go_enter Try.func5, Try.ntmps5
  go_wp2_with fail
  refine (newReader_any (h.below (by (repeat' (first | (with_reducible exact Below.refl _ _) | (with_reducible assumption) | (with_reducible refine Below.alloc ?_ ?_ _) | (with_reducible refine below_drewN ?_ _) | (with_reducible refine Below.drew ?_) | (with_reducible refine Below.setCell ?_ ?_ _) | (with_reducible refine below_call (by assumption) ?_ ?_) | go_size))))).mono ?_
  rintro e w1 ⟨g, A', n', c', z, rfl, hg0, hr, hb⟩
  have hz := hb.size
  have hg1 := hr.lt
  have HB1 : Hid (Below w.heap.size w w1) := Lib.hid (by (repeat' (first | (with_reducible exact Below.refl _ _) | (with_reducible assumption) | (with_reducible refine Below.alloc ?_ ?_ _) | (with_reducible refine below_drewN ?_ _) | (with_reducible refine Below.drew ?_) | (with_reducible refine Below.setCell ?_ ?_ _) | (with_reducible refine below_call (by assumption) ?_ ?_) | (with_reducible refine below_grown (by assumption) ?_ ?_ ?_) | omega | (simp; done) | (simp; omega))))
  clear hb
  go_wp2_with fail
  refine (anyTurns_any hr (by omega)).mono ?_
  rintro e w2 ⟨B, d, l, y, rfl, hy, hl, hld, hI, hB, hr2, hg2⟩
  have hz2 := hg2.size
  have HI := Lib.hid hI
  clear hI
  go_wp2_with fail
  refine (one_lit (l := [_, _, _, _, _, _, _, _]) hr2 (by omega) (by simp) rfl (by simp) (by simp) _).mono ?_
  rintro e w3 ⟨x, rfl, hx, hr3, hg3⟩
  simp only [List.mem_cons, List.not_mem_nil, or_false] at hx
  have hb3 : Below w.heap.size w w3 := below_grown hg3 (by have hb1 := HB1.out; have hb2 := below_grown hg2 hb1 (by omega) (by omega); (repeat' (first | (with_reducible exact Below.refl _ _) | (with_reducible assumption) | (with_reducible refine Below.alloc ?_ ?_ _) | (with_reducible refine below_drewN ?_ _) | (with_reducible refine Below.drew ?_) | (with_reducible refine Below.setCell ?_ ?_ _) | (with_reducible refine below_call (by assumption) ?_ ?_) | (with_reducible refine below_grown (by assumption) ?_ ?_ ?_) | omega | (simp; done) | (simp; omega)))) (by simp; omega) (by omega)
  go_wp2
  go_ret3
  have hI3 : IsPts w3 B l.length l := by
    rcases Nat.eq_zero_or_pos l.length with h0 | h0
    · rw [List.length_eq_zero_iff.1 h0]; exact IsPts.nil _ _
    · obtain ⟨b, o, e, hp⟩ := HI.out.2 h0
      have hb := hB _ e
      simp only at hb
      refine ⟨rfl, fun _ => ⟨b, o, e, Nat.lt_of_lt_of_le hp.1 (by have := hg3.size; simp at this; omega), fun i hi => ?_⟩⟩
      have hblk : w3.heap[b]? = w2.heap[b]? := (hg3.block b (by simp; have := hp.1; omega) (by simp; omega)).trans (RowKit.Below.heap_alloc w2 _ b hp.1)
      exact ⟨(World.cell?_of_block (a := ⟨b, _, none⟩) hblk).trans (hp.2 i hi).1, (World.cell?_of_block (a := ⟨b, _, none⟩) hblk).trans (hp.2 i hi).2⟩
  exact ⟨B, d, l, x, y, rfl, by omega, hy, hl, hld, hI3, hb3⟩

end Go.Proofs.Ytadpmigppjjmhaa
