/-
  The generator of pictures: colors and lists of colors.
-/
import Derived.Test.YtiocgklfkckomaaGap
import Derived.Test.YtiocgklfkckomaaNum
import Derived.Test.YtiocgklfkckomaaRegQ
import Derived.Laws.AppendOwn
import Derived.RegionTactic
namespace Go.Proofs.Ytiocgklfkckomaa
open Go.RowKit Pl

set_option linter.unusedSimpArgs false
set_option linter.unusedVariables false

theorem Rd.own {g : Nat} {A : Option Addr} {n c : Nat} {z : Nat → Int} {w w' : World} {k : Nat} {row : Option Nat} (h : Rd g A n c z w k) (hg : w.grownBy w' row) (hrow : ∀ r, row = some r → g < r) : Rd g A n c z w' k := by
  refine ⟨?_, fun hn => ?_, h.far, h.cap, h.few⟩
  · obtain ⟨p, hp, hb⟩ := h.pos
    exact ⟨p, hp, (hg.block g h.lt (fun e => by have := hrow g e.symm; omega)).trans hb⟩
  · obtain ⟨b, o, rfl, hbl, hc⟩ := h.code hn
    have hf := h.far hn b o rfl
    have hblk := hg.block b hbl (fun e => by have := hrow b e.symm; omega)
    exact ⟨b, o, rfl, Nat.lt_of_lt_of_le hbl hg.size, fun i hi => ⟨(World.cell?_of_block (a := ⟨b, o + i, none⟩) hblk).trans (hc i hi).1, (hc i hi).2⟩⟩
theorem only_own {a w w1 : World} {g : Nat} {row : Option Nat} (h2 : w.grownBy w1 row) (h1 : a.grownBy w (some g)) (hrow : ∀ r, row = some r → a.heap.size ≤ r) : a.grownBy w1 (some g) :=
  ⟨h2.os.trans h1.os, h2.tape.trans h1.tape, h2.output.trans h1.output, Nat.le_trans h1.size h2.size, fun i hi hne => (h2.block i (Nat.lt_of_lt_of_le hi h1.size) (fun e => by have := hrow i e.symm; omega)).trans (h1.block i hi hne)⟩
theorem Rd.drew' {g : Nat} {A : Option Addr} {n c : Nat} {z : Nat → Int} {w : World} {k : Nat} (h : Rd g A n c z w k) : Rd g A n c z w.drew k := ⟨h.pos, h.code, h.far, h.cap, h.few⟩

/-- A block of whole numbers. -/
def Nums (w : World) (g m : Nat) : Prop := ∃ cur T, w.heap[g]? = some (.cells cur T (0, 0)) ∧ m ≤ cur.size ∧ ∀ j, j < m → ∃ x : Int, cur[j]? = some (.int .i64 x)
section
variable {w w' : World} {g m : Nat}
theorem Nums.lt (h : Nums w g m) : g < w.heap.size := by obtain ⟨_, _, h, _⟩ := h; exact blk_lt h
theorem Nums.at_ (h : Nums w g m) {j : Nat} (hj : j < m) : ∃ x : Int, w.cell? ⟨g, j, none⟩ = some (.int .i64 x) := by
  obtain ⟨cur, T, h, _, hx⟩ := h
  obtain ⟨x, hx⟩ := hx j hj
  exact ⟨x, (blk_cell h j).trans hx⟩
theorem Nums.free (h : Nums w g m) (j : Nat) : w.frozen? ⟨g, j, none⟩ = false := by obtain ⟨_, _, h, _⟩ := h; exact blk_free h j
theorem Nums.below (h : Nums w g m) (hb : Below w.heap.size w w') : Nums w' g m := by obtain ⟨cur, T, h, r⟩ := h; exact ⟨cur, T, blk_below h hb, r⟩
theorem Nums.grown {r : Nat} (h : Nums w g m) (hb : w.grownBy w' (some r)) (hne : g ≠ r) : Nums w' g m := by obtain ⟨cur, T, h, q⟩ := h; exact ⟨cur, T, blk_grown h hb hne, q⟩
theorem Nums.alloc (h : Nums w g m) (o : Obj) : Nums (w.alloc o) g m := by obtain ⟨cur, T, h, q⟩ := h; exact ⟨cur, T, blk_alloc h o, q⟩
theorem Nums.drew (h : Nums w g m) : Nums w.drew g m := h
theorem Nums.far (h : Nums w g m) {p : Addr} (u : Value) (hne : g ≠ p.block) : Nums (w.setCell p u) g m := by obtain ⟨cur, T, h, q⟩ := h; exact ⟨cur, T, blk_far h u hne, q⟩
theorem Nums.set (h : Nums w g m) (j : Nat) (x : Int) : Nums (w.setCell ⟨g, j, none⟩ (.int .i64 x)) g m := by
  obtain ⟨cur, T, h, hs, hx⟩ := h
  refine ⟨_, T, blk_set h j _, by simpa using hs, fun i hi => ?_⟩
  by_cases e : i = j
  · subst e; exact ⟨x, by rw [Array.getElem?_setIfInBounds_self_of_lt (by omega)]⟩
  · rw [Array.getElem?_setIfInBounds_ne (Ne.symm e)]; exact hx i hi
theorem Nums.set4 (h : Nums w g m) (i j k l : Nat) (x y z u : Int) : Nums ((((w.setCell ⟨g, i, none⟩ (.int .i64 x)).setCell ⟨g, j, none⟩ (.int .i64 y)).setCell ⟨g, k, none⟩ (.int .i64 z)).setCell ⟨g, l, none⟩ (.int .i64 u)) g m := (((h.set i x).set j y).set k z).set l u
theorem Nums.cs {n : Nat} (h : Nums w g (n * 4)) : ∃ l, IsCs w (some ⟨g, 0, none⟩) n l := by
  have hx : ∀ j, ∃ x : Int, j < n * 4 → w.cell? ⟨g, j, none⟩ = some (.int .i64 x) := fun j => by
    by_cases hj : j < n * 4
    · obtain ⟨x, hx⟩ := h.at_ hj; exact ⟨x, fun _ => hx⟩
    · exact ⟨0, fun h => absurd h hj⟩
  obtain ⟨f, hf⟩ := Classical.axiomOfChoice hx
  refine ⟨(List.range n).map fun i => (f (i * 4), f (i * 4 + 1), f (i * 4 + 2), f (i * 4 + 3)), by simp, fun _ => ⟨g, 0, rfl, h.lt, fun i hi => ?_⟩⟩
  have e : cl ((List.range n).map fun i => (f (i * 4), f (i * 4 + 1), f (i * 4 + 2), f (i * 4 + 3))) i = (f (i * 4), f (i * 4 + 1), f (i * 4 + 2), f (i * 4 + 3)) := by rw [cl_eq (by simpa using hi)]; simp
  rw [e]
  simp only [Nat.zero_add]
  exact ⟨hf _ (by omega), hf _ (by omega), hf _ (by omega), hf _ (by omega)⟩
end

/-- Colors that the call has made: only that they are numbers. -/
def OwnN (base : Nat) (w : World) (v : Value) (k : Nat) : Prop := ∃ xs, w.ownsRow base 49 4 v k xs ∧ ∀ u ∈ xs, ∃ x : Int, u = .int .i64 x
section
variable {base k : Nat} {w w' : World} {v : Value}
theorem OwnN.empty {g : Nat} {T : TypeId} (hT : T = 49) (hb : base ≤ g) (h : w.heap[g]? = some (.cells #[] T (0, 0))) : OwnN base w (.slice (some ⟨g, 0, none⟩) 0 0) 0 := by
  subst hT; exact ⟨[], ⟨rfl, .inr ⟨g, 0, #[], rfl, hb, h, Nat.le_refl _, Nat.zero_le _, rfl, rfl⟩⟩, fun u hu => by cases hu⟩
theorem OwnN.below (h : OwnN base w v k) (hb : Below w.heap.size w w') : OwnN base w' v k := by
  obtain ⟨xs, h, hx⟩ := h
  refine ⟨xs, ⟨h.1, ?_⟩, hx⟩
  rcases h.2 with h | ⟨g, cap, cur, e, hb', hg, r⟩
  · exact .inl h
  · exact .inr ⟨g, cap, cur, e, hb', blk_below hg hb, r⟩
theorem OwnN.grown {g : Nat} (h : OwnN base w v k) (hg : w.grownBy w' (some g)) (hne : g < base) : OwnN base w' v k := by
  obtain ⟨xs, h, hx⟩ := h
  refine ⟨xs, ⟨h.1, ?_⟩, hx⟩
  rcases h.2 with h | ⟨g', cap, cur, e, hb', hg', r⟩
  · exact .inl h
  · exact .inr ⟨g', cap, cur, e, hb', blk_grown hg' hg (by omega), r⟩
theorem OwnN.alloc (h : OwnN base w v k) (o : Obj) : OwnN base (w.alloc o) v k := h.below ((Below.refl _ _).alloc (Nat.le_refl _) o)
theorem OwnN.row (h : OwnN base w v k) : ∀ g, v.ownBlock = some g → base ≤ g := fun g hg => by
  obtain ⟨xs, h, _⟩ := h
  rcases h.2 with ⟨rfl, _⟩ | ⟨g', cap, cur, rfl, hb', _⟩
  · cases hg
  · simp only [Value.ownBlock, Option.some.injEq] at hg; omega
theorem OwnN.form (h : OwnN base w v k) (hk : 0 < k) : ∃ g c, v = .slice (some ⟨g, 0, none⟩) k c ∧ k ≤ c ∧ c ≤ maxLen ∧ base ≤ g ∧ Nums w g (k * 4) := by
  obtain ⟨xs, ⟨hl, h⟩, hx⟩ := h
  rcases h with ⟨rfl, hn⟩ | ⟨g, cap, cur, rfl, hb, hg, hn, hc, hs, ht⟩
  · omega
  · refine ⟨g, cap, rfl, hn, hc, hb, cur, _, hg, by rw [hs]; exact Nat.mul_le_mul_right _ hn, fun j hj => ?_⟩
    have h1 : xs[j]? = cur[j]? := by rw [← ht, List.getElem?_take, if_pos hj, Array.getElem?_toList]
    have h2 : j < xs.length := by omega
    obtain ⟨x, hx⟩ := hx _ (List.getElem_mem h2)
    exact ⟨x, by rw [← h1, List.getElem?_eq_getElem h2, hx]⟩
end

theorem news_blkC {w : World} {g : Nat} {cs : Array Value} {T : TypeId} (h : w.heap[g]? = some (.cells cs T (0, 0))) : ∀ j u, cs.toList[j]? = some u → w.cell? ((⟨g, 0, none⟩ : Addr).add j) = some u := fun j u hu => by
  have hadd : (⟨g, 0, none⟩ : Addr).add j = ⟨g, j, none⟩ := by by_cases h : j = 0 <;> simp [Addr.add, h]
  rw [hadd, blk_cell h, ← hu, Array.getElem?_toList]
theorem col_info : (Try.prog.info? 49).map (fun i => (i.zero, i.size, i.bytes)) = some (some (.agg #[.int .i64 0, .int .i64 0, .int .i64 0, .int .i64 0]), 4, 32) := by kernel_rfl

/-- append of one color that has just been written out. -/
theorem append_c {ops : Array Oper} {rest : List Oper} {o : Oper} {a : Act} {Q : Exit → Act → World → Prop} {w : World} (hgd : o.guard = none) (s x : Operand)
    (ho : o.op = .call { callee := .builtin .append, args := #[s, x], argTypes := #[27, 27] })
    (base : Nat) (v : Value) (k : Nat) (hs : a.eval s = v) (hown : OwnN base w v k) (g m : Nat) (cr cg cb ca : Int) (T' : TypeId) (hx : a.eval x = .slice (some ⟨g, 0, none⟩) 1 m)
    (hg : w.heap[g]? = some (.cells #[.int .i64 cr, .int .i64 cg, .int .i64 cb, .int .i64 ca] T' (0, 0))) (hlen : k ≤ 1000000) (hbase : base ≤ w.heap.size)
    (h : ∀ v' w', OwnN base w' v' (k + 1) → w.grownBy w' v.ownBlock → wpList Try.prog ops Q rest (a.put o.dst v') w') : wpList Try.prog ops Q (o :: rest) a w := by
  obtain ⟨i0, hi0, hz0, hz1, hz2⟩ := info_parts col_info
  obtain ⟨xs, hown, hxs⟩ := hown
  refine wpList_append_own w hgd s x _ ho base 49 i0 _ 4 32 Try.underlying27 hi0 hz0 hz1 hz2 rfl (by omega) v k xs hs hown ⟨g, 0, none⟩ 1 m [.int .i64 cr, .int .i64 cg, .int .i64 cb, .int .i64 ca] hx rfl (news_blkC hg)
    (fun u hu => by simp only [List.mem_cons, List.not_mem_nil, or_false] at hu; rcases hu with rfl | rfl | rfl | rfl <;> rfl) (by unfold maxLen; omega) (by omega) hbase ?_
  intro v' w' h1 h2 _
  refine h v' w' ⟨_, h1, fun u hu => ?_⟩ h2
  rcases List.mem_append.1 hu with hu | hu
  · exact hxs u hu
  · simp only [List.mem_cons, List.not_mem_nil, or_false] at hu
    rcases hu with rfl | rfl | rfl | rfl <;> exact ⟨_, rfl⟩

theorem mul_byte {a b : Int} (h1 : 0 ≤ a) (h2 : a ≤ 255) (h3 : 0 ≤ b) (h4 : b ≤ 255) : 0 ≤ a * b ∧ a * b ≤ 65025 := by
  have p1 := Int.mul_nonneg h1 h3
  have p2 := Int.mul_le_mul h2 h4 h3 (by omega : (0 : Int) ≤ 255)
  exact ⟨p1, by omega⟩

/-- Four numbers. -/
def AnyCol (w : World) (a : Int) (e : Ending) (w' : World) : Prop := ∃ r g b : Int, e = .returned (.agg #[.int .i64 r, .int .i64 g, .int .i64 b, .int .i64 a]) ∧ Below w.heap.size w w'
set_option maxHeartbeats 1000000 in
theorem plain_any {r g b a : Int} (hr0 : 0 ≤ r) (hr1 : r ≤ 255) (hg0 : 0 ≤ g) (hg1 : g ≤ 255) (hb0 : 0 ≤ b) (hb1 : b ≤ 255) (ha0 : 0 ≤ a) (ha1 : a ≤ 255) (w : World) :
    Calls Try.prog 57 #[.int .i64 r, .int .i64 g, .int .i64 b, .int .i64 a] w (AnyCol w a) := by
  obtain ⟨p0, p1⟩ := mul_byte hr0 hr1 ha0 ha1
  obtain ⟨p2, p3⟩ := mul_byte hg0 hg1 ha0 ha1
  obtain ⟨p4, p5⟩ := mul_byte hb0 hb1 ha0 ha1
  obtain ⟨x, hx⟩ : ∃ x, r * a = x := ⟨_, rfl⟩
  obtain ⟨y, hy⟩ : ∃ x, g * a = x := ⟨_, rfl⟩
  obtain ⟨z, hz⟩ : ∃ x, b * a = x := ⟨_, rfl⟩
  rw [hx] at p0 p1
  rw [hy] at p2 p3
  rw [hz] at p4 p5
  obtain ⟨x', hx'⟩ : ∃ q, rnd x 255 = q := ⟨_, rfl⟩
  obtain ⟨y', hy'⟩ : ∃ q, rnd y 255 = q := ⟨_, rfl⟩
  obtain ⟨z', hz'⟩ : ∃ q, rnd z 255 = q := ⟨_, rfl⟩
  have HX := Lib.hid hx'
  have HY := Lib.hid hy'
  have HZ := Lib.hid hz'
  clear hx' hy' hz'
  go_enter Try.func57, Try.ntmps57
  go_wp2_with fail
  refine (nearest_eq (by omega) (by omega) (by omega) (by omega) HX.out _).mono ?_
  rintro e w1 ⟨rfl, rfl⟩
  go_wp2_with fail
  refine (nearest_eq (by omega) (by omega) (by omega) (by omega) HY.out _).mono ?_
  rintro e w1 ⟨rfl, rfl⟩
  go_wp2_with fail
  refine (nearest_eq (by omega) (by omega) (by omega) (by omega) HZ.out _).mono ?_
  rintro e w1 ⟨rfl, rfl⟩
  go_wp2
  ((try simp only [Exit.inBlock, Exit.then]); refine bodyPost_ret (by simp [results, Try.results57, go_sem, *]; try rfl) rfl ?_)
  exact ⟨_, _, _, rfl, by (repeat' (first | (with_reducible exact Below.refl _ _) | (with_reducible assumption) | (with_reducible refine Below.alloc ?_ ?_ _) | (with_reducible refine below_drewN ?_ _) | (with_reducible refine Below.drew ?_) | (with_reducible refine Below.setCell ?_ ?_ _) | (with_reducible refine below_call (by assumption) ?_ ?_) | (with_reducible refine below_grown (by assumption) ?_ ?_ ?_) | omega | (simp; done) | (simp; omega)))⟩

def RdCol (g : Nat) (A : Option Addr) (n c : Nat) (z : Nat → Int) (w : World) (k : Nat) (e : Ending) (w' : World) : Prop :=
  ∃ cr cg cb ca : Int, e = .returned (.agg #[.int .i64 cr, .int .i64 cg, .int .i64 cb, .int .i64 ca]) ∧ (0 ≤ ca ∧ ca ≤ 255) ∧ Rd g A n c z w' (k + 4) ∧ w.grownBy w' (some g)
def RdAny (g : Nat) (A : Option Addr) (n c : Nat) (z : Nat → Int) (w : World) (k : Nat) (e : Ending) (w' : World) : Prop :=
  ∃ cr cg cb ca : Int, e = .returned (.agg #[.int .i64 cr, .int .i64 cg, .int .i64 cb, .int .i64 ca]) ∧ Rd g A n c z w' (k + 6) ∧ w.grownBy w' (some g)

set_option maxHeartbeats 1000000 in
theorem randomColor_any {g : Nat} {A : Option Addr} {n c : Nat} {z : Nat → Int} {w : World} {k : Nat} (h : Rd g A n c z w k) (hk : k ≤ 990000) :
    Calls Try.prog 45 #[.pointer (some ⟨g, 0, none⟩)] w (RdCol g A n c z w k) := by
  have hgl := h.lt
  go_enter Try.func45, Try.ntmps45
  go_wp2_with fail
  refine (one_lit (l := [_, _, _, _, _, _]) (by repeat' (first | (with_reducible assumption) | (with_reducible apply Rd.alloc) | (with_reducible apply Rd.drewN) | (with_reducible apply rd_below (by assumption)) | (with_reducible apply Rd.setFar) | omega | (simp; omega))) (by omega) (by simp) rfl (by simp) (by simp) _).mono ?_
  rintro e w1 ⟨a, rfl, hx, hr, hg⟩
  simp only [List.mem_cons, List.not_mem_nil, or_false] at hx
  have ha0 : 0 ≤ a := by omega
  have ha1 : a ≤ 255 := by omega
  clear hx
  have hz1 := hg.size
  simp at hz1
  have hk1 := gcl hg w.heap.size (by simp; omega) (by omega)
  go_wp2_with fail
  refine (pick_any hr (by omega) _).mono ?_
  rintro e w2 ⟨x, rfl, hx0, hx1, hr2, hg2⟩
  have hx1 := pk_lt (by omega) hx1
  have hz2 := hg2.size
  go_wp2_with fail
  refine (pick_any hr2 (by omega) _).mono ?_
  rintro e w3 ⟨y, rfl, hy0, hy1, hr3, hg3⟩
  have hy1 := pk_lt (by omega) hy1
  have hz3 := hg3.size
  go_wp2_with fail
  refine (pick_any hr3 (by omega) _).mono ?_
  rintro e w4 ⟨u, rfl, hu0, hu1, hr4, hg4⟩
  have hu1 := pk_lt (by omega) hu1
  have hz4 := hg4.size
  go_wp2_with fail
  refine (plain_any hx0 (by omega) hy0 (by omega) hu0 (by omega) ha0 ha1 _).mono ?_
  rintro e w5 ⟨r', g', b', rfl, hb5⟩
  have hz5 := hb5.size
  have hq0 : w5.heap[w.heap.size]? = some (.cells #[.int .i64 0, .int .i64 0, .int .i64 0, .int .i64 0] 49 (0, 0)) := blk_below (blk_grown (blk_grown (blk_grown (blk_grown (blk_alloc (blk_new w _) _) hg (by omega)) hg2 (by omega)) hg3 (by omega)) hg4 (by omega)) hb5
  have hqc := blk_cell hq0
  have hqf := blk_free hq0
  have hql := blk_lt hq0
  have q1 := blk_cell (blk_set4 hq0 (.int .i64 r') (.int .i64 g') (.int .i64 b') (.int .i64 a))
  clear hk1
  go_wp2
  ((try simp only [Exit.inBlock, Exit.then]); refine bodyPost_ret (by simp [results, Try.results45, go_sem, *]; try rfl) rfl ?_)
  exact ⟨_, _, _, _, rfl, ⟨ha0, ha1⟩, Rd.more (by repeat' (first | (with_reducible assumption) | (with_reducible apply Rd.alloc) | (with_reducible apply Rd.drewN) | (with_reducible apply rd_below (by assumption)) | (with_reducible apply Rd.setFar) | omega | (simp; omega))) (by omega), by (repeat' (first | (with_reducible exact World.grownBy.refl _ _) | (with_reducible assumption) | (with_reducible refine only_alloc ?_ _) | (with_reducible refine only_drewN ?_ _) | (with_reducible refine only_setCell ?_ (by first | exact .inl rfl | exact .inr (Nat.le_refl _) | (right; simp; done) | (right; simp; omega)) _) | (with_reducible refine grown_call (by assumption) ?_) | (with_reducible refine grown_below (by assumption) ?_ (by first | omega | (simp; done) | (simp; omega)))))⟩

end Go.Proofs.Ytiocgklfkckomaa
