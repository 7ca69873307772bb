/-
  Copies of a path.
-/
import Derived.Test.YtiocgklfkckomaaVerbs
namespace Go.Proofs.Ytiocgklfkckomaa
open Go.RowKit Pl

set_option linter.unusedSimpArgs false
set_option linter.unusedVariables false

theorem IsHd.far {w : World} {u : Value} {r : List Pt} (h : IsHd w u r) {p : Addr} (x : Value) (hne : ∀ b, u.ownBlock = some b → b ≠ p.block) : IsHd (w.setCell p x) u r :=
  h.grown (row := some p.block) (only_setCell (World.grownBy.refl _ _) (.inl rfl) _) (fun _ b hb e => by cases e; exact hne _ hb rfl)

/-- A verb that comes back: its list is of the call's own. -/
def RetV (kd : Int) (l : List Pt) (w : World) (e : Ending) (w' : World) : Prop := ∃ u, e = .returned (.agg #[.int .i64 kd, u]) ∧ IsHd w' u l ∧ (∀ b, u.ownBlock = some b → w.heap.size ≤ b) ∧ Below w.heap.size w w'

set_option maxHeartbeats 1000000 in
theorem toVerb_any {A : Option Addr} {n : Nat} {l : List Pt} {kd : Int} {w : World} (c : Nat) (h : IsPts w A n l) (hn : n ≤ 1048576) :
    Calls Try.prog 34 #[.agg #[.int .i64 kd, .slice A n c]] w (RetV kd l w) := by
  have HP := Lib.hid h
  clear h
  go_enter Try.func34, Try.ntmps34
  go_wp2_with fail
  refine (toPointS_any c (HP.out.below (by (repeat' (first | (with_reducible exact Below.refl _ _) | (with_reducible assumption) | (with_reducible refine Below.alloc ?_ ?_ _) | (with_reducible refine below_drewN ?_ _) | (with_reducible refine Below.drew ?_) | (with_reducible refine Below.setCell ?_ ?_ _) | (with_reducible refine below_call (by assumption) ?_ ?_) | (with_reducible refine below_grown (by assumption) ?_ ?_ ?_) | omega | (simp; done) | (simp; omega))))) hn).mono ?_
  rintro e w1 ⟨v, rfl, ho, hb1⟩
  have hz1 := hb1.size
  simp at hz1
  obtain ⟨A1, c1, rfl, h1, h2, hP, hB⟩ := ho.form
  have hk2 := blk_below (blk_alloc (blk_new1 w (.cells #[.int .i64 kd, .slice A n c] 62) (.cells #[.int .i64 0, .slice none 0 0] 65)) (.cells #[.int .i64 kd, .slice none 0 0] 65)) hb1
  have hk3 := blk_below (blk_new2 w (.cells #[.int .i64 kd, .slice A n c] 62) (.cells #[.int .i64 0, .slice none 0 0] 65) (.cells #[.int .i64 kd, .slice none 0 0] 65)) hb1
  have hc2 := blk_cell hk2
  have hf2 := blk_free hk2
  have hl2 := blk_lt hk2
  have hc3 := blk_cell hk3
  have hf3 := blk_free hk3
  have hl3 := blk_lt hk3
  have HU : Hid (IsHd w1 (.slice A1 l.length c1) l) := Lib.hid ⟨A1, c1, rfl, h1, h2, hP⟩
  have HB : Hid (∀ b, (Value.slice A1 l.length c1).ownBlock = some b → w.heap.size + 3 ≤ b) := Lib.hid fun b hb => by
    cases A1 with
    | none => cases hb
    | some a => simp only [Value.ownBlock, Option.some.injEq] at hb; have := hB a rfl; simp at this; omega
  clear ho hP hB hk2 hk3 h1 h2
  go_wp2
  ((try simp only [Exit.inBlock, Exit.then]); refine bodyPost_ret (by simp [results, Try.results34, go_sem, *]; try rfl) rfl ?_)
  refine ⟨_, rfl, ?_, fun b hb => by have := HB.out b hb; omega, by (repeat' (first | (with_reducible exact Below.refl _ _) | (with_reducible assumption) | (with_reducible refine Below.alloc ?_ ?_ _) | (with_reducible refine below_drewN ?_ _) | (with_reducible refine Below.drew ?_) | (with_reducible refine Below.setCell ?_ ?_ _) | (with_reducible refine below_call (by assumption) ?_ ?_) | (with_reducible refine below_grown (by assumption) ?_ ?_ ?_) | omega | (simp; done) | (simp; omega)))⟩
  repeat' (first | exact HU.out | (refine IsHd.far ?_ _ (fun b hb => by have := HB.out b hb; simp; omega)))

/-- Cell by cell: the first k verbs are there. -/
def HasV (g : Nat) (cur : Array Value) (L : List Vb) (k : Nat) (w : World) : Prop := cur.size = L.length * 2 ∧ ∀ (i : Nat) (r : Vb), i < k → L[i]? = some r → cur[i * 2]? = some (.int .i64 r.1) ∧ ∃ u, cur[i * 2 + 1]? = some u ∧ IsHd w u r.2 ∧ ∀ b, u.ownBlock = some b → g < b
theorem HasV.below {g : Nat} {cur : Array Value} {L : List Vb} {k : Nat} {w w' : World} (h : HasV g cur L k w) (hb : Below w.heap.size w w') : HasV g cur L k w' :=
  ⟨h.1, fun i r hi hr => by obtain ⟨h0, u, h1, h2, h3⟩ := h.2 i r hi hr; exact ⟨h0, u, h1, h2.below hb, h3⟩⟩
theorem HasV.step {g : Nat} {cur : Array Value} {L : List Vb} {k : Nat} {w w' : World} {u : Value} {r : Vb} (h : HasV g cur L k w) (hk : k < L.length) (hr : L[k]? = some r) (hu : IsHd w u r.2) (hb : ∀ b, u.ownBlock = some b → g < b)
    (hg : w.grownBy w' (some g)) : HasV g ((cur.setIfInBounds (k * 2) (.int .i64 r.1)).setIfInBounds (k * 2 + 1) u) L (k + 1) w' := by
  have hs := h.1
  have sep : ∀ v : Value, (∀ b, v.ownBlock = some b → g < b) → Sep v.ownBlock (some g) := fun v hv b hb' e => by cases e; have := hv _ hb'; omega
  refine ⟨by simpa using h.1, fun i r' hi hr' => ?_⟩
  by_cases e : i = k
  · subst e
    rw [hr] at hr'; cases hr'
    refine ⟨?_, u, ?_, hu.grown hg (fun _ => sep u hb), hb⟩
    · rw [Array.getElem?_setIfInBounds_ne (by omega), Array.getElem?_setIfInBounds_self_of_lt (by omega)]
    · rw [Array.getElem?_setIfInBounds_self_of_lt (by simp; omega)]
  · obtain ⟨h0, v, h1, h2, h3⟩ := h.2 i r' (by omega) hr'
    refine ⟨?_, v, ?_, h2.grown hg (fun _ => sep v h3), h3⟩
    · rw [Array.getElem?_setIfInBounds_ne (by omega), Array.getElem?_setIfInBounds_ne (by omega)]; exact h0
    · rw [Array.getElem?_setIfInBounds_ne (by omega), Array.getElem?_setIfInBounds_ne (by omega)]; exact h1
theorem HasV.done {g : Nat} {cur : Array Value} {L : List Vb} {w : World} {T : TypeId} (h : HasV g cur L L.length w) (hg : w.heap[g]? = some (.cells cur T (0, 0))) : IsVbs w (some ⟨g, 0, none⟩) L.length L :=
  ⟨rfl, fun _ => ⟨g, 0, rfl, blk_lt hg, fun i r hr => by
    obtain ⟨h0, u, h1, h2, _⟩ := h.2 i r (List.getElem?_eq_some_iff.1 hr).1 hr
    exact ⟨by rw [blk_cell hg, Nat.zero_add]; exact h0, u, by rw [blk_cell hg, Nat.zero_add]; exact h1, h2⟩⟩⟩
theorem verb_info : (Try.prog.info? 65).map (fun i => (i.zero, i.size, i.bytes)) = some (some (.agg #[.int .i64 0, .slice none 0 0]), 2, 32) := by kernel_rfl
theorem make_vs (n : Nat) (hn : n ≤ 1048576) : ∃ Z : Array Value, Z.size = n * 2 ∧ ∀ w : World, (Instr.makeSlice 41 (.int .i64 (n : Int)) (.int .i64 (n : Int))).run Try.prog w = .ok (.slice (some ⟨w.heap.size, 0, none⟩) n n) (w.alloc (.cells Z 65)) := by
  obtain ⟨i0, hi0, hz0, hz1, hz2⟩ := info_parts verb_info
  refine ⟨madeCells (Value.agg #[.int .i64 0, .slice none 0 0]).cells (n * 2), size_madeCells _ _, fun w => ?_⟩
  have h := run_make (P := Try.prog) w 41 65 i0 _ Try.underlying41 hi0 hz0 .i64 .i64 n n (by omega) (Int.le_refl _) (by rw [hz2]; omega) (by omega)
  rw [hz1] at h
  simpa using h
def RetVS (L : List Vb) (w : World) (e : Ending) (w' : World) : Prop := ∃ A c, e = .returned (.slice A L.length c) ∧ IsVbs w' A L.length L ∧ Below w.heap.size w w'

set_option maxHeartbeats 1000000 in
theorem toVerbS_any {A : Option Addr} {n : Nat} {L : List Vb} {w : World} (c : Nat) (h : IsVbs w A n L) (hsz : sizeV L ≤ 1048576) :
    Calls Try.prog 17 #[.slice A n c] w (RetVS L w) := by
  have hS : n + pointsV L L.length ≤ 1048576 := by rw [sizeV, h.1] at hsz; rw [h.1]; exact hsz
  have HP := Lib.hid h
  have HL := Lib.hid h.1
  obtain ⟨Z, hZ, hmk⟩ := make_vs n (by omega)
  have HZ := Lib.hid hZ
  clear h hZ hsz
  go_enter Try.func17, Try.ntmps17
  go_wp2
  clear hmk
  go_loopw [4] (fun i wr => ∃ (k : Nat) (cur : Array Value), k ≤ n ∧ i = .int .i64 k ∧ wr.heap[w.heap.size]? = some (.cells cur 65 (0, 0)) ∧ HasV w.heap.size cur L k wr ∧ Below w.heap.size w wr) (fun i _ => n - (intOf i).toNat)
  case atStart => exact ⟨0, Z, by omega, rfl, blk_new w _, ⟨by rw [HZ.out, HL.out], fun i r hi _ => absurd hi (Nat.not_lt_zero i)⟩, by (repeat' (first | (with_reducible exact Below.refl _ _) | (with_reducible assumption) | (with_reducible refine Below.alloc ?_ ?_ _) | (with_reducible refine below_drewN ?_ _) | (with_reducible refine Below.drew ?_) | (with_reducible refine Below.setCell ?_ ?_ _) | (with_reducible refine below_call (by assumption) ?_ ?_) | (with_reducible refine below_grown (by assumption) ?_ ?_ ?_) | omega | (simp; done) | (simp; omega)))⟩
  case round =>
    obtain ⟨k, cur, hk, rfl, hb1, hm, hbel⟩ := hrel
    obtain ⟨wo, rfl⟩ : ∃ wo : World, wo = wr := ⟨_, rfl⟩
    have hsz := hbel.size
    have hl1 := blk_lt hb1
    have hc1 := blk_cell hb1
    have HB := Lib.hid hb1
    have HH := Lib.hid hm
    have hcs : Hid (cur.size = n * 2) := Lib.hid (by rw [hm.1, HL.out])
    clear hb1 hm
    by_cases hlt : k < n
    · have eb : decide ((k : Int) < n) = true := by simp; omega
      have hki : (k : Int) < n := by omega
      obtain ⟨b, o, kd, r, B, cr, rfl, hbl, hr, x0, x1, q1, q2, hp⟩ := (HP.out.below hbel).at_ hlt
      have hrl : r.length ≤ 1048576 := by have := verb_small hr; simp only at this; omega
      have c0 : ∃ u, wo.cell? ⟨w.heap.size, k * 2, none⟩ = some u := ⟨_, (hc1 _).trans (Array.getElem?_eq_getElem (by have := hcs.out; omega))⟩
      have c1 : ∃ u, wo.cell? ⟨w.heap.size, k * 2 + 1, none⟩ = some u := ⟨_, (hc1 _).trans (Array.getElem?_eq_getElem (by have := hcs.out; omega))⟩
      obtain ⟨u0, c0⟩ := c0
      obtain ⟨u1, c1⟩ := c1
      clear hc1
      have HR := Lib.hid hr
      have HQ := Lib.hid hp
      clear hr hp
      go_wp2_with fail
      refine (toVerb_any cr HQ.out hrl).mono ?_
      rintro e w2 ⟨u, rfl, hu, hub, hb2⟩
      have hz2 := hb2.size
      have hbk := blk_below HB.out hb2
      have hl2 := blk_lt hbk
      have hf2 := blk_free hbk
      have d0 : w2.cell? ⟨w.heap.size, k * 2, none⟩ = some u0 := (hb2.cell (p := ⟨w.heap.size, k * 2, none⟩) hl1).trans c0
      have d1 : w2.cell? ⟨w.heap.size, k * 2 + 1, none⟩ = some u1 := (hb2.cell (p := ⟨w.heap.size, k * 2 + 1, none⟩) hl1).trans c1
      have HBK := Lib.hid hbk
      have HV : Hid (∀ b, u.ownBlock = some b → w.heap.size < b) := Lib.hid fun b hb => by have := hub b hb; omega
      obtain ⟨B2, c2, rfl, h1, h2, h3⟩ := hu
      have HU : Hid (IsHd w2 (.slice B2 r.length c2) r) := Lib.hid ⟨B2, c2, rfl, h1, h2, h3⟩
      clear hub hbk c0 c1 h3 h1 h2
      go_wp2
      go_roundw
      case rel => exact ⟨k + 1, _, by omega, by go_num, blk_set (blk_set HBK.out _ _) _ _, (HH.out.below hb2).step (r := (kd, r)) (by rw [HL.out]; exact hlt) HR.out HU.out HV.out (only_setCell (g := w.heap.size) (p := ⟨w.heap.size, k * 2 + 1, none⟩) (only_setCell (g := w.heap.size) (p := ⟨w.heap.size, k * 2, none⟩) (World.grownBy.refl _ _) (.inl rfl) _) (.inl rfl) _), by (repeat' (first | (with_reducible exact Below.refl _ _) | (with_reducible assumption) | (with_reducible refine Below.alloc ?_ ?_ _) | (with_reducible refine below_drewN ?_ _) | (with_reducible refine Below.drew ?_) | (with_reducible refine Below.setCell ?_ ?_ _) | (with_reducible refine below_call (by assumption) ?_ ?_) | (with_reducible refine below_grown (by assumption) ?_ ?_ ?_) | omega | (simp; done) | (simp; omega)))⟩
      case measure => simp [intOf]; omega
    · obtain rfl : k = n := by omega
      have eb : decide ((k : Int) < k) = false := by simp
      have HD : Hid (IsVbs wo (some ⟨w.heap.size, 0, none⟩) L.length L) := Lib.hid (by have := HH.out; rw [← HL.out] at this; exact this.done HB.out)
      go_wp2
      go_ret
      exact ⟨some ⟨w.heap.size, 0, none⟩, k, by rw [HL.out]; rfl, HD.out, by (repeat' (first | (with_reducible exact Below.refl _ _) | (with_reducible assumption) | (with_reducible refine Below.alloc ?_ ?_ _) | (with_reducible refine below_drewN ?_ _) | (with_reducible refine Below.drew ?_) | (with_reducible refine Below.setCell ?_ ?_ _) | (with_reducible refine below_call (by assumption) ?_ ?_) | (with_reducible refine below_grown (by assumption) ?_ ?_ ?_) | omega | (simp; done) | (simp; omega)))⟩

end Go.Proofs.Ytiocgklfkckomaa
