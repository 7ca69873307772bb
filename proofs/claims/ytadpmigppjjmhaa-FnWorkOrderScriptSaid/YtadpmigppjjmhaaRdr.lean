/-
  The generators' reader: what newReader, pick and one leave. Of a number that pick gives only its range is said.
-/
import Derived.Test.YtadpmigppjjmhaaLeaf
import Derived.Test.YtadpmigppjjmhaaReg
import Derived.BigQuiet
import Derived.Deep.QuietTactic
namespace Go.Proofs.Ytadpmigppjjmhaa
open Go.RowKit Pl

theorem ofInt_i64 (a : Nat) (ha : a < 9223372036854775808) : (BitVec.ofInt 64 (a : Int)).toNat = a := by
  rw [BitVec.ofInt_natCast, BitVec.toNat_ofNat]; exact Nat.mod_eq_of_lt (by omega)
theorem i64_xor_nat (a b : Nat) (ha : a < 9223372036854775808) (hb : b < 9223372036854775808) : bits .xor .i64 (a : Int) (b : Int) = ((a ^^^ b : Nat) : Int) := by
  have hx : a ^^^ b < 2 ^ 63 := Nat.xor_lt_two_pow (by omega) (by omega)
  show IntKind.i64.wrap ((BitVec.ofInt 64 (a : Int) ^^^ BitVec.ofInt 64 (b : Int)).toNat : Int) = _
  rw [BitVec.toNat_xor, ofInt_i64 a ha, ofInt_i64 b hb, IntKind.wrap_i64]
  omega

/-- The bytes of the code, as they lie in the world. -/
def IsCode (w : World) (A : Option Addr) (n : Nat) (z : Nat → Int) : Prop :=
  0 < n → ∃ b o, A = some ⟨b, o, none⟩ ∧ b < w.heap.size ∧ ∀ i, i < n → w.cell? ⟨b, o + i, none⟩ = some (.int .u8 (z i)) ∧ 0 ≤ z i ∧ z i ≤ 255

/-- The reader lies in block g, at a position up to k; its code lies elsewhere. -/
structure Rd (g : Nat) (A : Option Addr) (n c : Nat) (z : Nat → Int) (w : World) (k : Nat) : Prop where
  pos : ∃ p : Nat, p ≤ k ∧ w.heap[g]? = some (.cells #[.slice A n c, .int .i64 (p : Int)] 44 (0, 0))
  code : IsCode w A n z
  far : 0 < n → ∀ b o, A = some ⟨b, o, none⟩ → b < g
  cap : n ≤ c ∧ c ≤ maxLen
  few : n ≤ 2000

theorem Rd.lt {g : Nat} {A : Option Addr} {n c : Nat} {z : Nat → Int} {w : World} {k : Nat} (h : Rd g A n c z w k) : g < w.heap.size := by
  obtain ⟨p, _, hb⟩ := h.pos
  rcases Nat.lt_or_ge g w.heap.size with h | h
  · exact h
  · rw [Array.getElem?_eq_none h] at hb; cases hb

theorem Rd.step {g : Nat} {A : Option Addr} {n c : Nat} {z : Nat → Int} {w : World} {k p : Nat} (h : Rd g A n c z w k) (hp : p ≤ k) (hb : w.heap[g]? = some (.cells #[.slice A n c, .int .i64 (p : Int)] 44 (0, 0))) (q : Nat) :
    Rd g A n c z ((w.setCell ⟨g, 1, none⟩ (.int .i64 ((p : Int) + 1))).drewN q) (k + 1) ∧ w.grownBy ((w.setCell ⟨g, 1, none⟩ (.int .i64 ((p : Int) + 1))).drewN q) (some g) := by
  refine ⟨⟨⟨p + 1, by omega, ?_⟩, ?_, h.far, h.cap, h.few⟩, ⟨rfl, rfl, rfl, by simp [World.setCell], fun i hi hne => ?_⟩⟩
  · show (w.setCell ⟨g, 1, none⟩ _).heap[g]? = _
    simp [World.setCell, Array.getElem?_modify, hb]
  · intro hn
    obtain ⟨b, o, rfl, hbl, hcell⟩ := h.code hn
    have hne := h.far hn b o rfl
    refine ⟨b, o, rfl, by simpa [World.setCell] using hbl, fun i hi => ⟨?_, (hcell i hi).2⟩⟩
    show (w.setCell ⟨g, 1, none⟩ _).cell? ⟨b, o + i, none⟩ = _
    rw [World.cell?_setCell_other w _ _ _ (fun e => by injection e with e1; omega)]
    exact (hcell i hi).1
  · show (w.setCell ⟨g, 1, none⟩ _).heap[i]? = _
    exact Below.heap_setCell _ _ _ _ (fun e => hne (by rw [e]))

theorem Rd.alloc {g : Nat} {A : Option Addr} {n c : Nat} {z : Nat → Int} {w : World} {k : Nat} (h : Rd g A n c z w k) (o : Obj) : Rd g A n c z (w.alloc o) k := by
  refine ⟨?_, fun hn => ?_, h.far, h.cap, h.few⟩
  · obtain ⟨p, hp, hb⟩ := h.pos
    exact ⟨p, hp, (Below.heap_alloc w o g h.lt).trans hb⟩
  · obtain ⟨b, o', rfl, hbl, hc⟩ := h.code hn
    exact ⟨b, o', rfl, by simp; omega, fun i hi => ⟨(World.cell?_alloc_lt w _ _ hbl).trans (hc i hi).1, (hc i hi).2⟩⟩
theorem Rd.drewN {g : Nat} {A : Option Addr} {n c : Nat} {z : Nat → Int} {w : World} {k : Nat} (h : Rd g A n c z w k) (q : Nat) : Rd g A n c z (w.drewN q) k := ⟨h.pos, h.code, h.far, h.cap, h.few⟩
/-- Only block g, and what is new, has turned. -/
theorem only_drewN {a w : World} {row : Option Nat} (h : a.grownBy w row) (n : Nat) : a.grownBy (w.drewN n) row := ⟨h.os, h.tape, h.output, h.size, h.block⟩
theorem only_alloc {a w : World} {row : Option Nat} (h : a.grownBy w row) (o : Obj) : a.grownBy (w.alloc o) row :=
  ⟨h.os, h.tape, h.output, Nat.le_trans h.size (by simp), fun i hi hne => (Below.heap_alloc w o i (Nat.lt_of_lt_of_le hi h.size)).trans (h.block i hi hne)⟩
theorem only_setCell {a w : World} {g : Nat} (h : a.grownBy w (some g)) {p : Addr} (hp : p.block = g ∨ a.heap.size ≤ p.block) (u : Value) : a.grownBy (w.setCell p u) (some g) :=
  ⟨h.os, h.tape, h.output, by simpa [World.setCell] using h.size, fun i hi hne => (Below.heap_setCell w p u i (by
    rintro rfl
    rcases hp with hp | hp
    · exact hne (by rw [hp])
    · omega)).trans (h.block i hi hne)⟩
theorem grown_call {a w w1 : World} {g : Nat} (h2 : w.grownBy w1 (some g)) (h1 : a.grownBy w (some g)) : a.grownBy w1 (some g) :=
  ⟨h2.os.trans h1.os, h2.tape.trans h1.tape, h2.output.trans h1.output, Nat.le_trans h1.size h2.size, fun i hi hne => (h2.block i (Nat.lt_of_lt_of_le hi h1.size) hne).trans (h1.block i hi hne)⟩
theorem grown_below {a w w1 : World} {g : Nat} (h2 : Below w.heap.size w w1) (h1 : a.grownBy w (some g)) (_ : True) : a.grownBy w1 (some g) :=
  ⟨h2.os.trans h1.os, h2.tape.trans h1.tape, h2.output.trans h1.output, Nat.le_trans h1.size h2.size, fun i hi hne => (h2.block i (Nat.lt_of_lt_of_le hi h1.size)).trans (h1.block i hi hne)⟩
theorem below_grown {B : Nat} {a w w1 : World} {g : Nat} (h2 : w.grownBy w1 (some g)) (h1 : Below B a w) (hB : B ≤ w.heap.size) (hg : B ≤ g) : Below B a w1 :=
  ⟨h2.os.trans h1.os, h2.tape.trans h1.tape, h2.output.trans h1.output, Nat.le_trans h1.size h2.size, fun i hi => (h2.block i (by omega) (by simp; omega)).trans (h1.block i hi)⟩
theorem blk_new1 (w : World) (a b : Obj) : ((w.alloc a).alloc b).heap[w.heap.size + 1]? = some b := by have := blk_new (w.alloc a) b; simpa using this
theorem blk_new2 (w : World) (a b c : Obj) : (((w.alloc a).alloc b).alloc c).heap[w.heap.size + 1 + 1]? = some c := by have := blk_new ((w.alloc a).alloc b) c; simpa using this
theorem blk_far04 {w : World} {g : Nat} {o : Option Obj} (h : w.heap[g]? = o) {g' : Nat} (hne : g ≠ g') (u v x y : Value) :
    ((((w.setCell ⟨g', 0, none⟩ u).setCell ⟨g', 1, none⟩ v).setCell ⟨g', 2, none⟩ x).setCell ⟨g', 3, none⟩ y).heap[g]? = o := blk_far4 h hne u v x y
theorem blk_drewN {w : World} {g : Nat} {o : Option Obj} (h : w.heap[g]? = o) (n : Nat) : (w.drewN n).heap[g]? = o := h
theorem blk_down {w w' : World} {g : Nat} {o : Obj} (hb : RowKit.Below w.heap.size w w') (h : w.heap[g]? = some o) : w'.heap[g]? = some o := blk_below h hb
theorem blk_up {w w' : World} {g r : Nat} {o : Obj} (hb : w.grownBy w' (some r)) (hne : g ≠ r) (h : w.heap[g]? = some o) : w'.heap[g]? = some o := blk_grown h hb hne
theorem gcl {W w1 : World} {g : Nat} (hg : W.grownBy w1 (some g)) (k : Nat) (hk : k < W.heap.size) (hne : k ≠ g) : (∀ o, w1.cell? ⟨k, o, none⟩ = W.cell? ⟨k, o, none⟩) ∧ (∀ o, w1.frozen? ⟨k, o, none⟩ = W.frozen? ⟨k, o, none⟩) ∧ k < w1.heap.size :=
  ⟨fun o => World.cell?_of_block (a := ⟨k, o, none⟩) (hg.block k hk (by simpa using hne)), fun o => World.frozen?_of_block (a := ⟨k, o, none⟩) (hg.block k hk (by simpa using hne)), Nat.lt_of_lt_of_le hk hg.size⟩
theorem pk_lt {x m : Int} (hm : 0 < m) (h : x < m ∨ x = 0) : x < m := by omega
theorem Rd.setFar {g : Nat} {A : Option Addr} {n c : Nat} {z : Nat → Int} {w : World} {k : Nat} {p : Addr} {u : Value} (hp : g < p.block) (h : Rd g A n c z w k) : Rd g A n c z (w.setCell p u) k := by
  refine ⟨?_, fun hn => ?_, h.far, h.cap, h.few⟩
  · obtain ⟨q, hq, hb⟩ := h.pos
    exact ⟨q, hq, (Below.heap_setCell w p u g (by omega)).trans hb⟩
  · obtain ⟨b, o', rfl, hbl, hc⟩ := h.code hn
    have := h.far hn b o' rfl
    exact ⟨b, o', rfl, by simpa [World.setCell] using hbl, fun i hi => ⟨(World.cell?_setCell_other w p _ u (fun e => by rw [e] at hp; simp at hp; omega)).trans (hc i hi).1, (hc i hi).2⟩⟩

/-- What pick gives: a number from 0 on, below m if m is positive; the reader a step on. -/
def Picked (g : Nat) (A : Option Addr) (n c : Nat) (z : Nat → Int) (w : World) (k : Nat) (m : Int) (e : Ending) (w' : World) : Prop :=
  ∃ x : Int, e = .returned (.int .i64 x) ∧ 0 ≤ x ∧ (x < m ∨ x = 0) ∧ Rd g A n c z w' (k + 1) ∧ w.grownBy w' (some g)

set_option maxHeartbeats 400000 in
theorem pick_any {g : Nat} {A : Option Addr} {n c : Nat} {z : Nat → Int} {w : World} {k : Nat} (h : Rd g A n c z w k) (hk : k ≤ 1000000) (m : Int) :
    Calls Try.prog 17 #[.pointer (some ⟨g, 0, none⟩), .int .i64 m] w (Picked g A n c z w k m) := by
  obtain ⟨p, hp, hb⟩ := h.pos
  have hst := Lib.hid (h.step hp hb)
  have hc := blk_cell hb
  have hf := blk_free hb
  clear hb
  have hcode := Lib.hid h.code
  have hfar := Lib.hid h.far
  have hfew := h.few
  clear h
  by_cases hm : m < 1
  · go_enter Try.func17, Try.ntmps17
    go_wp2
    go_ret
    exact ⟨0, rfl, by omega, .inr rfl, hst.out 0⟩
  rcases Nat.eq_zero_or_pos n with hn | hn
  · subst hn
    go_enter Try.func17, Try.ntmps17
    go_wp2
    go_ret
    exact ⟨0, rfl, by omega, .inr rfl, hst.out 0⟩
  obtain ⟨b, o, rfl, hbl, hcell⟩ := hcode.out hn
  have hne : b ≠ g := by have := hfar.out hn b o rfl; omega
  clear hfar hcode
  have hz : ((n : Int) == 0) = false := by simp; omega
  have hm1 : 1 ≤ m := by omega
  clear hm
  by_cases hpn : p < n
  · obtain ⟨hc1, hz1, hz2⟩ := hcell p hpn
    clear hcell
    go_enter Try.func17, Try.ntmps17
    go_wp2
    go_ret
    exact ⟨_, rfl, Int.emod_nonneg _ (by omega), .inl (Int.emod_lt_of_pos _ (by omega)), hst.out 0⟩
  · obtain ⟨i1, hi1, e3⟩ : ∃ i1 : Nat, i1 < n ∧ ((p : Int)).tmod n = (i1 : Int) := ⟨p % n, Nat.mod_lt _ hn, by rw [Int.tmod_eq_emod_of_nonneg (by omega)]; simp⟩
    obtain ⟨i2, hi2, e4⟩ : ∃ i2 : Nat, i2 < n ∧ ((p : Int) * 7 + 3).tmod n = (i2 : Int) := ⟨(p * 7 + 3) % n, Nat.mod_lt _ hn, by rw [Int.tmod_eq_emod_of_nonneg (by omega)]; simp⟩
    obtain ⟨q, hd0, hd, e5⟩ : ∃ q : Int, 0 ≤ q ∧ q ≤ p ∧ ((p : Int)).tdiv n = q := ⟨(p : Int) / n, Int.ediv_nonneg (by omega) (by omega), Int.ediv_le_self _ (by omega), by rw [Int.tdiv_eq_ediv_of_nonneg (by omega)]⟩
    obtain ⟨hc1, hz1, hz2⟩ := hcell i1 hi1
    obtain ⟨hc2, hz3, hz4⟩ := hcell i2 hi2
    clear hcell
    generalize z i1 = y1 at *
    generalize z i2 = y2 at *
    have s1 : IntKind.i64.wrap ((p : Int) * 7) = (p : Int) * 7 := IntWalk.i64_in _ (by omega)
    have s2 : IntKind.i64.wrap ((p : Int) * 7 + 3) = (p : Int) * 7 + 3 := IntWalk.i64_in _ (by omega)
    have s3 : IntKind.i64.wrap (y1 * 131) = y1 * 131 := IntWalk.i64_in _ (by omega)
    have s4 : IntKind.i64.wrap (y2 * 1117) = y2 * 1117 := IntWalk.i64_in _ (by omega)
    have s5 : IntKind.i64.wrap (y1 * 131 + y2 * 1117) = y1 * 131 + y2 * 1117 := IntWalk.i64_in _ (by omega)
    have s6 : IntKind.i64.wrap ((p : Int) * 29) = (p : Int) * 29 := IntWalk.i64_in _ (by omega)
    have s7 : IntKind.i64.wrap (y1 * 131 + y2 * 1117 + (p : Int) * 29) = y1 * 131 + y2 * 1117 + (p : Int) * 29 := IntWalk.i64_in _ (by omega)
    have s8 : IntKind.i64.wrap (q * 53) = q * 53 := IntWalk.i64_in _ (by omega)
    have s9 : IntKind.i64.wrap (y1 * 131 + y2 * 1117 + (p : Int) * 29 + q * 53) = y1 * 131 + y2 * 1117 + (p : Int) * 29 + q * 53 := IntWalk.i64_in _ (by omega)
    go_enter Try.func17, Try.ntmps17
    go_wp2_with fail
    go_quiet (fail)
    clear s1 s2 s3 s4 s5 s6 s7 s8 s9 e3 e4 e5 hc1 hc2
    obtain ⟨x, hx, hxb⟩ : ∃ x : Nat, y1 * 131 + y2 * 1117 + (p : Int) * 29 + q * 53 = (x : Int) ∧ x ≤ 1000000000 := ⟨(y1 * 131 + y2 * 1117 + (p : Int) * 29 + q * 53).toNat, by omega, by omega⟩
    rw [hx]
    clear hx
    obtain ⟨y, hy⟩ : ∃ y : Nat, bits .xor .i64 (x : Int) ((x : Int) / 64) = (y : Int) := ⟨x ^^^ (x / 64), by
      have := i64_xor_nat x (x / 64) (by omega) (by omega)
      rw [← this]; simp⟩
    go_wp2
    go_ret
    exact ⟨_, rfl, Int.emod_nonneg _ (by omega), .inl (Int.emod_lt_of_pos _ (by omega)), hst.out _⟩

/-- The code as an argument. -/
def Code (w : World) (A : Option Addr) (n c : Nat) : Prop := n ≤ c ∧ c ≤ maxLen ∧ ∃ z, IsCode w A n z

theorem IsCode.below {w w' : World} {A : Option Addr} {n : Nat} {z : Nat → Int} (h : IsCode w A n z) (hb : Below w.heap.size w w') : IsCode w' A n z := fun hn => by
  obtain ⟨b, o, rfl, hbl, hc⟩ := h hn
  exact ⟨b, o, rfl, Nat.lt_of_lt_of_le hbl hb.size, fun i hi => ⟨(hb.cell (p := ⟨b, o + i, none⟩) hbl).trans (hc i hi).1, (hc i hi).2⟩⟩

theorem Code.below {w w' : World} {A : Option Addr} {n c : Nat} (h : Code w A n c) (hb : Below w.heap.size w w') : Code w' A n c := ⟨h.1, h.2.1, by obtain ⟨z, hz⟩ := h.2.2; exact ⟨z, hz.below hb⟩⟩

theorem Rd.below {g : Nat} {A : Option Addr} {n c : Nat} {z : Nat → Int} {w w' : World} {k : Nat} (h : Rd g A n c z w k) (hb : Below w.heap.size w w') : Rd g A n c z w' k :=
  ⟨by obtain ⟨p, hp, hp'⟩ := h.pos; exact ⟨p, hp, (hb.block g h.lt).trans hp'⟩, h.code.below hb, h.far, h.cap, h.few⟩

theorem Rd.more {g : Nat} {A : Option Addr} {n c : Nat} {z : Nat → Int} {w : World} {k k' : Nat} (h : Rd g A n c z w k) (hk : k ≤ k') : Rd g A n c z w k' :=
  ⟨by obtain ⟨p, hp, hp'⟩ := h.pos; exact ⟨p, by omega, hp'⟩, h.code, h.far, h.cap, h.few⟩

theorem rd_below {g : Nat} {A : Option Addr} {n c : Nat} {z : Nat → Int} {w w' : World} {k : Nat} (hb : Below w.heap.size w w') (h : Rd g A n c z w k) : Rd g A n c z w' k := h.below hb

/-- A reader that stands at its beginning. -/
def IsRdr (w : World) (v : Value) (w' : World) : Prop := ∃ g A n c z, v = .pointer (some ⟨g, 0, none⟩) ∧ w.heap.size ≤ g ∧ Rd g A n c z w' 0

set_option maxHeartbeats 400000 in
theorem newReader_any {A : Option Addr} {n c : Nat} {w : World} (h : Code w A n c) :
    Calls Try.prog 9 #[.slice A n c] w fun e w' => ∃ g A' n' c' z, e = .returned (.pointer (some ⟨g, 0, none⟩)) ∧ w.heap.size ≤ g ∧ Rd g A' n' c' z w' 0 ∧ Below w.heap.size w w' := by
  obtain ⟨hn, hc, z, hz⟩ := h
  have fin : ∀ n', n' ≤ n → n' ≤ 2000 → Rd w.heap.size A n' c z (w.alloc (.cells #[.slice A n' c, .int .i64 0] 44)) 0 := fun n' h1 h2 => by
    refine ⟨⟨0, Nat.le_refl _, by show (w.heap.push _)[w.heap.size]? = _; simp⟩, fun hp => ?_, fun hp b o e => ?_, ⟨by omega, hc⟩, h2⟩
    · obtain ⟨b, o, rfl, hbl, hcl⟩ := hz (by omega)
      refine ⟨b, o, rfl, by simp; omega, fun i hi => ⟨?_, (hcl i (by omega)).2⟩⟩
      rw [World.cell?_alloc_lt w _ _ hbl]
      exact (hcl i (by omega)).1
    · obtain ⟨b', o', h1, hbl, _⟩ := hz (by omega)
      rw [e] at h1
      cases h1
      omega
  have Fin := Lib.hid fin
  clear fin
  by_cases h2 : 2000 < n
  · go_enter Try.func9, Try.ntmps9
    go_wp2
    go_ret
    exact ⟨_, _, _, _, _, rfl, Nat.le_refl _, Fin.out 2000 (by omega) (by omega), by (repeat' (first | (with_reducible exact Below.refl _ _) | (with_reducible assumption) | (with_reducible refine Below.alloc ?_ ?_ _) | (with_reducible refine below_drewN ?_ _) | (with_reducible refine Below.drew ?_) | (with_reducible refine Below.setCell ?_ ?_ _) | (with_reducible refine below_call (by assumption) ?_ ?_) | go_size))⟩
  · go_enter Try.func9, Try.ntmps9
    go_wp2
    go_ret
    exact ⟨_, _, _, _, _, rfl, Nat.le_refl _, Fin.out n (by omega) (by omega), by (repeat' (first | (with_reducible exact Below.refl _ _) | (with_reducible assumption) | (with_reducible refine Below.alloc ?_ ?_ _) | (with_reducible refine below_drewN ?_ _) | (with_reducible refine Below.drew ?_) | (with_reducible refine Below.setCell ?_ ?_ _) | (with_reducible refine below_call (by assumption) ?_ ?_) | go_size))⟩

/-- One of the numbers. -/
def One (g : Nat) (A : Option Addr) (n c : Nat) (z : Nat → Int) (w : World) (k : Nat) (P : Int → Prop) (e : Ending) (w' : World) : Prop :=
  ∃ x : Int, e = .returned (.int .i64 x) ∧ P x ∧ Rd g A n c z w' (k + 1) ∧ w.grownBy w' (some g)

set_option maxHeartbeats 400000 in
theorem one_any {g : Nat} {A : Option Addr} {n c : Nat} {z : Nat → Int} {w : World} {k : Nat} (h : Rd g A n c z w k) (hk : k ≤ 1000000) (P : Int → Prop) {b : Nat} {cs : Array Value} {m d : Nat} {T : TypeId}
    (hb : w.heap[b]? = some (.cells cs T (0, 0))) (hm : cs.size = m) (h1 : 0 < m) (hm2 : m < 1000) (hne : b ≠ g) (hP : ∀ i, i < m → ∃ x, cs[i]? = some (.int .i64 x) ∧ P x) :
    Calls Try.prog 11 #[.pointer (some ⟨g, 0, none⟩), .slice (some ⟨b, 0, none⟩) m d] w (One g A n c z w k P) := by
  have HP := Lib.hid hP
  clear hP
  have Hb := Lib.hid hb
  clear hb
  have Hm := Lib.hid hm
  clear hm
  go_enter Try.func11, Try.ntmps11
  have hbs : b < w.heap.size := by
    rcases Nat.lt_or_ge b w.heap.size with h' | h'
    · exact h'
    · have hb := Hb.out; rw [Array.getElem?_eq_none h'] at hb; cases hb
  go_wp2_with fail
  refine (pick_any h hk _).mono ?_
  rintro e w1 ⟨x, rfl, hx0, hx1, hr, hg⟩
  obtain ⟨i, rfl⟩ := Int.eq_ofNat_of_zero_le hx0
  have him : i < m := by omega
  obtain ⟨y, hy, hPy⟩ := HP.out i him
  have hb1 := hg.block b hbs (by simpa using hne)
  rw [Hb.out] at hb1
  have hc := blk_cell hb1 i
  rw [hy] at hc
  clear hb1 hx0 hx1 hy
  go_wp2
  go_ret
  exact ⟨y, rfl, hPy, hr, hg⟩

/-- One of the numbers of a list that has just been written out. -/
theorem one_lit {g : Nat} {A : Option Addr} {n c : Nat} {z : Nat → Int} {w : World} {k b m : Nat} {l : List Int} (h : Rd g A n c z w k) (hk : k ≤ 1000000) (hb : w.heap.size = b) (hm : l.length = m) (h1 : 0 < m) (h2 : m < 1000) (d : Nat) {T : TypeId} :
    Calls Try.prog 11 #[.pointer (some ⟨g, 0, none⟩), .slice (some ⟨b, 0, none⟩) m d] (w.alloc (.cells (l.map (Value.int .i64)).toArray T)) (One g A n c z (w.alloc (.cells (l.map (Value.int .i64)).toArray T)) k (· ∈ l)) := by
  subst hb
  subst hm
  exact one_any (h.alloc _) hk _ (blk_new w _) (by simp) h1 h2 (by have := h.lt; omega) (fun i hi => ⟨l[i], by simp [hi], List.getElem_mem hi⟩)

theorem ones_of {cs : Array Value} {l : List Int} (h : cs = (l.map (Value.int .i64)).toArray) : ∀ i, i < cs.size → ∃ x, cs[i]? = some (.int .i64 x) ∧ x ∈ l := by
  subst h
  intro i hi
  have hi' : i < l.length := by simpa using hi
  exact ⟨l[i], by simp [hi'], List.getElem_mem hi'⟩

/-! ### Regions that draw and hold calls that take the reader -/
section
variable {P : Program} {ops : Array Oper} {Q : Exit → Act → World → Prop}

def OblsR (P : Program) (N : Nat) (ops : Array Oper) (Q : Exit → Act → World → Prop) (F : (Nat → Value) → Act) (S : List RS) (g : Nat) (A : Option Addr) (n c : Nat) (z : Nat → Int) (K : Nat) (w0 : World) : List Oper → List RS → Prop
  | o :: l, s :: r => (∀ (v : Nat → Value) (j : Nat) (w : World) (Kc : Act → World → Prop), j < N → Rd g A n c z w (K + 10 * j) → w0.grownBy w (some g) → Facts S v w s.use →
        (∀ u w', s.post u w' → w.grownBy w' (some g) → Rd g A n c z w' (K + 10 * j + 10) → Kc ((F v).put o.dst u) w') →
        if Region.wanted o (yielded ops (F v).tmps) then o.wp P (F v) w Kc Q else Kc ((F v).put o.dst undef) w) ∧ OblsR P N ops Q F S g A n c z K w0 l r
  | _, _ => True

theorem oblR_of {F : (Nat → Value) → Act} {S : List RS} {w0 : World} {g : Nat} {A : Option Addr} {n c : Nat} {z : Nat → Int} {K N : Nat} :
    ∀ {l : List Oper} {r : List RS}, OblsR P N ops Q F S g A n c z K w0 l r → RegObl P N ops (fun j w => Rd g A n c z w (K + 10 * j) ∧ w0.grownBy w (some g)) (fun w w' => w.grownBy w' (some g)) Q F S l r
  | [], _, _ => by simp [RegObl]
  | _ :: _, [], _ => by simp [RegObl]
  | _ :: _, _ :: _, h => ⟨fun v j w K' hj hC hF hK => h.1 v j w K' hj hC.1 hC.2 hF fun u w' hp hR hr => hK u w' hp hR ⟨by rw [show K + 10 * (j + 1) = K + 10 * j + 10 by omega]; exact hr, grown_call hR hC.2⟩, oblR_of h.2⟩

/-- A block that is made here, beside the reader's. -/
def IsBoxR (g B : Nat) (cs : Array Value) (T : TypeId) (v : Value) (w : World) : Prop := ∃ b, v = .pointer (some ⟨b, 0, none⟩) ∧ B ≤ b ∧ b < w.heap.size ∧ b ≠ g ∧ w.heap[b]? = some (.cells cs T (0, 0))
@[simp] def RS.boxR (use : List Nat) (g B : Nat) (cs : Array Value) (T : TypeId) : RS := ⟨use, IsBoxR g B cs T⟩
theorem st_boxR {use : List Nat} {g B : Nat} {cs : Array Value} {T : TypeId} {S : List RS} (h : Stable (fun w w' => w.grownBy w' (some g)) S) : Stable (fun w w' => w.grownBy w' (some g)) (RS.boxR use g B cs T :: S) :=
  ⟨fun _ _ _ hR ⟨b, h1, h2, h3, h4, h5⟩ => ⟨b, h1, h2, Nat.lt_of_lt_of_le h3 hR.size, h4, (hR.block b h3 (by simpa using h4)).trans h5⟩, h⟩
theorem isBoxR_new {g B : Nat} {w : World} (cs : Array Value) (T : TypeId) (h : B ≤ w.heap.size) (hg : g < w.heap.size) : IsBoxR g B cs T (.pointer (some ⟨w.heap.size, 0, none⟩)) (w.alloc (.cells cs T)) :=
  ⟨_, rfl, h, by simp, by omega, blk_new w _⟩
def IsSlR (g B : Nat) (cs : Array Value) (T : TypeId) (m : Nat) (v : Value) (w : World) : Prop := ∃ b, v = .slice (some ⟨b, 0, none⟩) m m ∧ B ≤ b ∧ b < w.heap.size ∧ b ≠ g ∧ w.heap[b]? = some (.cells cs T (0, 0))
@[simp] def RS.slR (use : List Nat) (g B : Nat) (cs : Array Value) (T : TypeId) (m : Nat) : RS := ⟨use, IsSlR g B cs T m⟩
theorem st_slR {use : List Nat} {g B : Nat} {cs : Array Value} {T : TypeId} {m : Nat} {S : List RS} (h : Stable (fun w w' => w.grownBy w' (some g)) S) : Stable (fun w w' => w.grownBy w' (some g)) (RS.slR use g B cs T m :: S) :=
  ⟨fun _ _ _ hR ⟨b, h1, h2, h3, h4, h5⟩ => ⟨b, h1, h2, Nat.lt_of_lt_of_le h3 hR.size, h4, (hR.block b h3 (by simpa using h4)).trans h5⟩, h⟩
theorem isSlR_new {g B : Nat} {w : World} (cs : Array Value) (T : TypeId) (m : Nat) (h : B ≤ w.heap.size) (hg : g < w.heap.size) : IsSlR g B cs T m (.slice (some ⟨w.heap.size, 0, none⟩) m m) (w.alloc (.cells cs T)) :=
  ⟨_, rfl, h, by simp, by omega, blk_new w _⟩

theorem wp_region_rdr {id : Nat} {a0 : Act} {w0 : World} {l : List Oper} {g : Nat} {A : Option Addr} {n c : Nat} {z : Nat → Int} {K : Nat} (hm : P.follows .mixedOrders = true) (uses : List (List Nat)) (S : List RS) (free : List Nat) (hu : S.map (·.use) = uses)
    (hsel : Region.noSelect l.toArray = true) (hQ : free ≠ [] → ∀ c a d v w, Q (.panic c) (Act.put a d v) w → Q (.panic c) a w)
    (hc : regCheck l uses free = true) (htk : takeOk l.toArray free (Array.replicate l.length false) = true) (hst : Stable (fun w w' => w.grownBy w' (some g)) S)
    (F : (Nat → Value) → Act) (hF : ∀ v, puts a0 (l.take S.length) 0 v = F v)
    (hop : OblsR P l.length l.toArray Q F S g A n c z K w0 l S) (hfo : FreeOk a0 l S free)
    (hend : ∀ (v : Nat → Value) (w : World), Rd g A n c z w (K + 10 * l.length) → w0.grownBy w (some g) → Facts S v w (List.range S.length) → wpList P l.toArray Q (l.drop S.length) (F v) w) (hr : Rd g A n c z w0 K) :
    (Code.region id l.toArray true).wp P Q a0 w0 := by
  have e : puts a0 (l.take S.length) 0 = F := funext hF
  exact wp_region_facts hm (fun j w => Rd g A n c z w (K + 10 * j) ∧ w0.grownBy w (some g)) (fun w w' => w.grownBy w' (some g)) S free hsel hQ (by rw [hu]; exact hc) htk hst ⟨hr.drewN 1, only_drewN (World.grownBy.refl _ _) 1⟩ (by rw [e]; exact oblR_of hop) hfo
    fun v k w hk hC hf => by rw [e]; exact hend v w (hC.1.more (by omega)) hC.2 hf
end

end Go.Proofs.Ytadpmigppjjmhaa
