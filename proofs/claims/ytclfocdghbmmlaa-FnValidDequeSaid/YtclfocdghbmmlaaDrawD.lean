/-
  Queues, drawn.
-/
import Derived.Test.YtclfocdghbmmlaaDeqV
import Derived.Test.YtclfocdghbmmlaaDeqU
import Derived.Test.YtclfocdghbmmlaaDeqL
import Derived.Test.YtclfocdghbmmlaaRdr
import Derived.Deep.RegionWith
import Derived.Deep.CutRange
namespace Go.Proofs.Ytclfocdghbmmlaa
open Go.RowKit Pl

set_option linter.unusedSimpArgs false
set_option linter.unusedVariables false

theorem IsI.grown {w w' : World} {A : Option Addr} {n : Nat} {l : List Int} {g : Nat} (h : IsI w A n l) (hg : w.grownBy w' (some g)) (hs : ∀ a, A = some a → a.block ≠ g) : IsI w' A n l :=
  ⟨h.1, fun hn => by
    obtain ⟨b, o, rfl, hb, hc⟩ := h.2 hn
    have hblk := hg.block b hb (by simpa using hs _ rfl)
    exact ⟨b, o, rfl, Nat.lt_of_lt_of_le hb hg.size, fun i u hu => (World.cell?_of_block (a := ⟨b, _, .none⟩) hblk).trans (hc i u hu)⟩⟩
theorem IsI.drop1 {w : World} {b o n : Nat} {l : List Int} (h : IsI w (some ⟨b, o, none⟩) n l) (hn : 0 < n) : IsI w (some ⟨b, o + 1, none⟩) (n - 1) (l.drop 1) := by
  have hl := h.len
  refine ⟨by rw [iv_len, List.length_drop, hl], fun h1 => ?_⟩
  obtain ⟨b', o', e, hb, hc⟩ := h.2 hn
  cases e
  refine ⟨b, o + 1, rfl, hb, fun i u hu => ?_⟩
  rw [show o + 1 + i = o + (i + 1) by omega]
  exact hc (i + 1) u (by simpa [iv, List.getElem?_drop, Nat.add_comm] using hu)
/-- Numbers that lie at block base or later, wherever the slice begins. -/
def OwnS (base : Nat) (w : World) (A : Option Addr) (n c : Nat) (l : List Int) : Prop := IsI w A n l ∧ n ≤ c ∧ c ≤ maxLen ∧ ∀ a, A = some a → base ≤ a.block
theorem OwnS.below {base : Nat} {w w' : World} {A : Option Addr} {n c : Nat} {l : List Int} (h : OwnS base w A n c l) (hb : Below w.heap.size w w') : OwnS base w' A n c l := ⟨h.1.below hb, h.2⟩
theorem OwnS.grown {base g : Nat} {w w' : World} {A : Option Addr} {n c : Nat} {l : List Int} (h : OwnS base w A n c l) (hg : w.grownBy w' (some g)) (hb : g < base) : OwnS base w' A n c l :=
  ⟨h.1.grown hg (fun a ha => by have := h.2.2.2 a ha; omega), h.2⟩
theorem OwnS.lower {base base' : Nat} {w : World} {A : Option Addr} {n c : Nat} {l : List Int} (h : OwnS base w A n c l) (hb : base' ≤ base) : OwnS base' w A n c l := ⟨h.1, h.2.1, h.2.2.1, fun a ha => Nat.le_trans hb (h.2.2.2 a ha)⟩
theorem OwnJ.toS {base : Nat} {w : World} {A : Option Addr} {n c : Nat} {l : List Int} (h : OwnJ base w (.slice A n c) l) : OwnS base w A n c l := by
  obtain ⟨A', c', e, h1, h2, h3, h4⟩ := h.form
  cases e; exact ⟨h3, h1, h2, h4⟩
theorem Rd.ownV {g : Nat} {A : Option Addr} {n c : Nat} {z : Nat → Int} {w w' : World} {k : Nat} {row : Option Nat} (h : Rd g A n c z w k) (hg : w.grownBy w' row) (hrow : ∀ r, row = some r → g < r) : Rd g A n c z w' k := by
  refine ⟨?_, fun hn => ?_, h.far, h.cap, h.few⟩
  · obtain ⟨p, hp, hb⟩ := h.pos
    exact ⟨p, hp, (hg.block g h.lt (fun e => by have := hrow g e.symm; omega)).trans hb⟩
  · obtain ⟨b, o, rfl, hbl, hc⟩ := h.code hn
    have hf := h.far hn b o rfl
    have hblk := hg.block b hbl (fun e => by have := hrow b e.symm; omega)
    exact ⟨b, o, rfl, Nat.lt_of_lt_of_le hbl hg.size, fun i hi => ⟨(World.cell?_of_block (a := ⟨b, o + i, none⟩) hblk).trans (hc i hi).1, (hc i hi).2⟩⟩
theorem only_ownV {a w w1 : World} {g : Nat} {row : Option Nat} (h2 : w.grownBy w1 row) (h1 : a.grownBy w (some g)) (hrow : ∀ r, row = some r → a.heap.size ≤ r) : a.grownBy w1 (some g) :=
  ⟨h2.os.trans h1.os, h2.tape.trans h1.tape, h2.output.trans h1.output, Nat.le_trans h1.size h2.size, fun i hi hne => (h2.block i (Nat.lt_of_lt_of_le hi h1.size) (fun e => by have := hrow i e.symm; omega)).trans (h1.block i hi hne)⟩

theorem Rd.drew' {g : Nat} {A : Option Addr} {n c : Nat} {z : Nat → Int} {w : World} {k : Nat} (h : Rd g A n c z w k) : Rd g A n c z w.drew k := ⟨h.pos, h.code, h.far, h.cap, h.few⟩
theorem only_drew' {a w : World} {row : Option Nat} (h : a.grownBy w row) : a.grownBy w.drew row := ⟨h.os, h.tape, h.output, h.size, h.block⟩
theorem drew_below (w : World) : Below w.heap.size w w.drew := ⟨rfl, rfl, rfl, Nat.le_refl _, fun _ _ => rfl⟩
theorem blk_drew' {w : World} {g : Nat} {o : Option Obj} (h : w.heap[g]? = o) : w.drew.heap[g]? = o := h

/-- A list that comes back, changed in some cases. -/
def Spoilt (g : Nat) (A : Option Addr) (n c : Nat) (z : Nat → Int) (w : World) (k m : Nat) (e : Ending) (w' : World) : Prop :=
  ∃ B p d l, e = .returned (.slice B p d) ∧ p ≤ m + 1 ∧ OwnS w.heap.size w' B p d l ∧ Rd g A n c z w' (k + 5) ∧ w.grownBy w' (some g)

set_option maxHeartbeats 2000000 in
theorem spoil_any {g : Nat} {A : Option Addr} {n c : Nat} {z : Nat → Int} {w : World} {k : Nat} {B : Option Addr} {m d : Nat} {l : List Int} {x : Int} (h : Rd g A n c z w k) (hk : k ≤ 900000) (hl : IsI w B m l) (hm : m ≤ 1000) :
    Calls Try.prog 62 #[.pointer (some ⟨g, 0, none⟩), .slice B m d, .int .i64 x] w (Spoilt g A n c z w k m) := by
  have hgl := h.lt
  have HL := Lib.hid hl.len
  have HI := Lib.hid hl
  clear hl
  go_enter Try.func62, Try.ntmps62
  go_wp2_with fail
  refine (copyInts_any d HI.out (by omega)).mono ?_
  rintro e w1 ⟨v, rfl, hv, hb⟩
  have hz := hb.size
  have HV := Lib.hid hv
  have RW := Lib.hid hv.row
  obtain ⟨A1, c1, rfl, hc1, hm1, hI1, hA1⟩ := hv.weak.form
  rw [HL.out] at hI1 hc1 ⊢
  have HV1 : Hid (OwnI w.heap.size w1 (.slice A1 m c1) l) := Lib.hid (by have := HV.out; rwa [HL.out] at this)
  have HS : Hid (OwnS w.heap.size w1 A1 m c1 l) := Lib.hid ⟨hI1, hc1, hm1, hA1⟩
  clear hv hI1 hA1
  go_wp2_with fail
  refine (pick_any (h.below hb) (by omega) _).mono ?_
  rintro e w2 ⟨y, rfl, hy0, hy1, hr, hg⟩
  have hz2 := hg.size
  have R2 := Lib.hid hr
  have G2 : Hid (w.grownBy w2 (some g)) := Lib.hid (grown_call hg (grown_below hb (World.grownBy.refl _ _) trivial))
  have S2 := Lib.hid (HS.out.grown hg hgl)
  have V2 : Hid (OwnI w.heap.size w2 (.slice A1 m c1) l) := Lib.hid (OwnV.other HV1.out hg (fun g' hg' e => by cases e; have := (OwnV.row HV1.out _ hg').1; omega))
  have ROW : Hid (∀ r, (Value.slice A1 m c1).ownBlock = some r → w.heap.size ≤ r) := Lib.hid (fun r hr => (OwnV.row HV1.out _ hr).1)
  have LL : Hid (l.length = m) := HL
  have hm1i : (c1 : Int) ≤ 9223372036854775807 := by unfold maxLen at hm1; omega
  have hcm : (m : Int) ≤ c1 := by omega
  clear hr hg HV RW
  by_cases hy : y = 0
  · subst hy
    go_wp2_with (at_builtin
                 refine append_i rfl (.tmp 14) (.tmp 16) rfl w.heap.size _ _ rfl (V2.out.alloc _) w2.heap.size 1 x _ rfl (blk_new w2 _) (by rw [LL.out]; omega) (by simp; omega) ?_
                 intro v3 w3 hown3 hg3 ha3)
    have R3 : Rd g A n c z w3 (k + 1) := Rd.ownV (R2.out.alloc _) hg3 (fun r hr => Nat.lt_of_lt_of_le hgl (ROW.out r hr))
    obtain ⟨A3, c3, e3, k1, k2, k3, k4⟩ := hown3.weak.form
    have hl3 : (l ++ [x]).length = m + 1 := by simp [LL.out]
    rw [hl3] at e3 k1 k3
    subst e3
    go_ret
    exact ⟨A3, m + 1, c3, _, rfl, Nat.le_refl _, ⟨k3, k1, k2, k4⟩, Rd.more R3 (by omega), only_ownV hg3 (only_alloc G2.out _) ROW.out⟩
  · by_cases hy1' : y = 1
    · subst hy1'
      rcases Nat.eq_zero_or_pos m with hm0 | hm0
      · subst hm0
        go_wp2
        go_ret
        exact ⟨A1, 0, c1, _, rfl, by omega, S2.out, Rd.more R2.out (by omega), G2.out⟩
      · obtain ⟨q, hq⟩ : ∃ q, q + 1 = m := ⟨m - 1, by omega⟩
        have hmi : (0 : Int) < m := by omega
        have eb : decide ((0 : Int) < m) = true := by simp; omega
        obtain ⟨b1, o1, rfl, hbl1, _⟩ := S2.out.1.at_ (k := 0) (by omega)
        have hb1w : w.heap.size ≤ b1 := S2.out.2.2.2 _ rfl
        have hmi1 : (1 : Int) ≤ m := by omega
        have hmn1 : 1 ≤ m := by omega
        have hcc : (1 : Int) ≤ c1 := by omega
        go_wp2
        all_goals go_ret
        · exact ⟨_, m - 1, 0, [], rfl, by omega, ⟨by rw [show m - 1 = 0 by omega]; exact IsVs.nil _ _, by omega, by unfold maxLen; omega, fun a e => (by cases e; exact hb1w)⟩, Rd.more R2.out (by omega), G2.out⟩
        · exact ⟨_, m - 1, c1 - 1, l.drop 1, rfl, by omega, ⟨IsI.drop1 S2.out.1 hm0, by omega, by omega, fun a e => (by cases e; exact hb1w)⟩, Rd.more R2.out (by omega), G2.out⟩
    · by_cases hy2 : y = 2
      · subst hy2
        rcases Nat.eq_zero_or_pos m with hm0 | hm0
        · subst hm0
          go_wp2
          go_ret
          exact ⟨A1, 0, c1, _, rfl, by omega, S2.out, Rd.more R2.out (by omega), G2.out⟩
        · have eb : decide ((0 : Int) < m) = true := by simp; omega
          have hmi : (0 : Int) < m := by omega
          go_wp2_with fail
          refine (pick_any R2.out (by omega) _).mono ?_
          rintro e w3 ⟨j, rfl, hj0, hj1, hr, hg⟩
          have hz3 := hg.size
          obtain ⟨J, rfl⟩ := Int.eq_ofNat_of_zero_le hj0
          have hJm : J < m := by omega
          have R3 := Lib.hid hr
          have G3 : Hid (w.grownBy w3 (some g)) := Lib.hid (grown_call hg G2.out)
          have V3 : Hid (OwnI w.heap.size w3 (.slice A1 m c1) l) := Lib.hid (OwnV.other V2.out hg (fun g' hg' e => by cases e; have := ROW.out _ hg'; omega))
          clear hr hg
          go_wp2_with fail
          refine (one_lit (l := [_, _, _, _]) R3.out (by omega) (by simp) rfl (by simp) (by simp) _).mono ?_
          rintro e w4 ⟨x2, rfl, _, hr, hg⟩
          have hz4 := hg.size
          simp at hz4
          have R4 := Lib.hid hr
          have G4 : Hid (w.grownBy w4 (some g)) := Lib.hid (grown_call hg (only_alloc G3.out _))
          have V4 : Hid (OwnI w.heap.size w4 (.slice A1 m c1) l) := Lib.hid (OwnV.other (V3.out.alloc _) hg (fun g' hg' e => by cases e; have := ROW.out _ hg'; omega))
          clear hr hg
          obtain ⟨gb, cur, rfl, hgb, k1, k2, _, hgg, hs, hat⟩ := V4.out.weak.open hm0
          have hcg := (blk_cell hgg J).trans (hat J hJm)
          have hfg := blk_free hgg
          have hlg := blk_lt hgg
          have HG := Lib.hid hgg
          have HH := Lib.hid (set_has x2 LL.out hs hat hJm)
          have hJi : (J : Int) < m := by omega
          clear hgg hs hat
          go_wp2
          go_ret
          have O5 := OwnJ.mk (w := w4.setCell ⟨gb, J, none⟩ (.int .i64 x2)) (l := l.set J x2) hgb (by rw [List.length_set, LL.out]) k1 k2 (blk_set HG.out _ _) HH.out.1 HH.out.2
          exact ⟨_, m, c1, _, rfl, by omega, O5.toS, Rd.more (Rd.setFar (by simp; omega) R4.out) (by omega), only_setCell G4.out (.inr (by simpa using hgb)) _⟩
      · have e0 : (y == 0) = false := by simpa using hy
        have e1 : (y == 1) = false := by simpa using hy1'
        have e2 : (y == 2) = false := by simpa using hy2
        have d0 : decide (y = 0) = false := decide_eq_false hy
        have d1 : decide (y = 1) = false := decide_eq_false hy1'
        have d2 : decide (y = 2) = false := decide_eq_false hy2
        go_wp2
        go_ret
        exact ⟨A1, m, c1, _, rfl, by omega, S2.out, Rd.more R2.out (by omega), G2.out⟩

theorem IsI.set {w : World} {A : Option Addr} {n : Nat} {l : List Int} {p : Addr} (u : Value) (h : IsI w A n l) (hne : 0 < n → ∀ a, A = some a → a.block ≠ p.block) : IsI (w.setCell p u) A n l :=
  ⟨h.1, fun hn => by
    obtain ⟨b, o, rfl, hb, hc⟩ := h.2 hn
    have hblk : (w.setCell p u).heap[b]? = w.heap[b]? := blk_far rfl u (hne hn _ rfl)
    exact ⟨b, o, rfl, by simpa [World.setCell] using hb, fun i u' hu => (World.cell?_of_block (a := ⟨b, _, .none⟩) hblk).trans (hc i u' hu)⟩⟩
theorem IsI.set3 {w : World} {A : Option Addr} {n : Nat} {l : List Int} {r : Nat} (x y z : Value) (h : IsI w A n l) (hne : 0 < n → ∀ a, A = some a → a.block ≠ r) : IsI (((w.setCell ⟨r, 0, none⟩ x).setCell ⟨r, 1, none⟩ y).setCell ⟨r, 2, none⟩ z) A n l :=
  IsI.set z (IsI.set y (IsI.set x h hne) hne) hne
theorem IsI.lt {w : World} {A : Option Addr} {n : Nat} {l : List Int} (h : IsI w A n l) (hn : 0 < n) : ∀ a, A = some a → a.block < w.heap.size := fun a ha => by
  obtain ⟨b, o, e, hb, _⟩ := h.2 hn
  rw [e] at ha; cases ha; exact hb
/-- A queue that lies in block gq: its slots apart from that block and at block base or later. -/
def Lies (base gq : Nat) (w : World) (q : Dq) (A : Option Addr) (c : Nat) : Prop :=
  w.heap[gq]? = some (.cells #[.slice A q.s.length c, .int .i64 q.t, .int .i64 q.b] 24 (0, 0)) ∧ IsI w A q.s.length q.s ∧ q.s.length ≤ c ∧ c ≤ maxLen ∧ (∀ a, A = some a → base ≤ a.block) ∧ (0 < q.s.length → ∀ a, A = some a → a.block ≠ gq)
theorem Lies.below {base gq : Nat} {w w' : World} {q : Dq} {A : Option Addr} {c : Nat} (h : Lies base gq w q A c) (hb : Below w.heap.size w w') : Lies base gq w' q A c := ⟨blk_below h.1 hb, h.2.1.below hb, h.2.2⟩
theorem Lies.grown {base gq g : Nat} {w w' : World} {q : Dq} {A : Option Addr} {c : Nat} (h : Lies base gq w q A c) (hg : w.grownBy w' (some g)) (h1 : g < base) (h2 : gq ≠ g) : Lies base gq w' q A c :=
  ⟨blk_grown h.1 hg h2, h.2.1.grown hg (fun a ha => by have := h.2.2.2.2.1 a ha; omega), h.2.2⟩
theorem Lies.lt {base gq : Nat} {w : World} {q : Dq} {A : Option Addr} {c : Nat} (h : Lies base gq w q A c) : gq < w.heap.size := blk_lt h.1
/-- Another block is written. -/
theorem Lies.far3 {base gq r : Nat} {w : World} {q : Dq} {A : Option Addr} {c : Nat} (x y z : Value) (h : Lies base gq w q A c) (h1 : gq ≠ r) (h2 : 0 < q.s.length → ∀ a, A = some a → a.block ≠ r) :
    Lies base gq (((w.setCell ⟨r, 0, none⟩ x).setCell ⟨r, 1, none⟩ y).setCell ⟨r, 2, none⟩ z) q A c :=
  ⟨blk_far (blk_far (blk_far h.1 x h1) y h1) z h1, h.2.1.set3 x y z h2, h.2.2⟩
/-- This block is written. -/
theorem Lies.put3 {base gq : Nat} {w : World} {q : Dq} {A : Option Addr} {c : Nat} {x y z : Value} (hg : w.heap[gq]? = some (.cells #[x, y, z] 24 (0, 0))) (h1 : IsI w A q.s.length q.s) (h2 : q.s.length ≤ c) (h3 : c ≤ maxLen) (h4 : ∀ a, A = some a → base ≤ a.block) (h5 : 0 < q.s.length → ∀ a, A = some a → a.block ≠ gq) :
    Lies base gq (((w.setCell ⟨gq, 0, none⟩ (.slice A q.s.length c)).setCell ⟨gq, 1, none⟩ (.int .i64 q.t)).setCell ⟨gq, 2, none⟩ (.int .i64 q.b)) q A c :=
  ⟨blk_set3 hg _ _ _, h1.set3 _ _ _ h5, h2, h3, h4, h5⟩

theorem Lies.put3' {base gq : Nat} {w : World} {qs : List Int} (qt qb : Int) {A : Option Addr} {c : Nat} {x y z : Value} (hg : w.heap[gq]? = some (.cells #[x, y, z] 24 (0, 0))) (h1 : IsI w A qs.length qs) (h2 : qs.length ≤ c) (h3 : c ≤ maxLen) (h4 : ∀ a, A = some a → base ≤ a.block) (h5 : ∀ a, A = some a → a.block ≠ gq) :
    Lies base gq (((w.setCell ⟨gq, 0, none⟩ (.slice A qs.length c)).setCell ⟨gq, 1, none⟩ (.int .i64 qt)).setCell ⟨gq, 2, none⟩ (.int .i64 qb)) ⟨qs, qt, qb⟩ A c :=
  Lies.put3 (q := ⟨qs, qt, qb⟩) hg h1 h2 h3 h4 (fun _ => h5)

/-- A queue, drawn. -/
def AnyDq (base g : Nat) (A : Option Addr) (n c : Nat) (z : Nat → Int) (w : World) (k : Nat) (e : Ending) (w' : World) : Prop :=
  ∃ B m d l t b, e = .returned (.agg #[.slice B m d, .int .i64 t, .int .i64 b]) ∧ m ≤ 17 ∧ (-1 ≤ t ∧ t ≤ 1000) ∧ (-1 ≤ b ∧ b ≤ 1000) ∧ OwnS base w' B m d l ∧ Rd g A n c z w' (k + 1000) ∧ w.grownBy w' (some g)

set_option maxHeartbeats 20000000 in
theorem anyDeque_any {g : Nat} {A : Option Addr} {n c : Nat} {z : Nat → Int} {w : World} {k : Nat} (h : Rd g A n c z w k) (hk : k ≤ 800000) :
    Calls Try.prog 46 #[.pointer (some ⟨g, 0, none⟩)] w (AnyDq w.heap.size g A n c z w k) := by
  have hgl := h.lt
  go_enter Try.func46, Try.ntmps46
  go_wp2_with fail
  refine (sNewDeque_any _).mono ?_
  rintro e w1 ⟨A1, c1, rfl, hown, hb⟩
  have hz1 := hb.size
  simp at hz1
  simp only [newD, List.length_replicate] at hown ⊢
  have S1 : Hid (OwnS (w.heap.size + 1) w1 A1 16 c1 (List.replicate 16 (-1))) := Lib.hid (OwnS.lower (OwnJ.toS hown) (by simp))
  have R1 : Hid (Rd g A n c z w1 k) := Lib.hid (by repeat' (first | (with_reducible assumption) | (with_reducible apply Rd.alloc) | (with_reducible apply Rd.drewN) | (with_reducible apply rd_below (by assumption)) | (with_reducible apply Rd.setFar) | omega | (simp; omega)))
  have G1 : Hid (w.grownBy w1 (some g)) := Lib.hid (by (repeat' (first | (with_reducible exact World.grownBy.refl _ _) | (with_reducible assumption) | (with_reducible refine only_alloc ?_ _) | (with_reducible refine only_drewN ?_ _) | (with_reducible refine only_setCell ?_ (by first | exact .inl rfl | exact .inr (Nat.le_refl _) | (right; simp; done) | (right; simp; omega)) _) | (with_reducible refine grown_call (by assumption) ?_) | (with_reducible refine grown_below (by assumption) ?_ (by first | omega | (simp; done) | (simp; omega))))))
  have D1 : Hid (w1.heap[w.heap.size]? = some (.cells #[.slice none 0 0, .int .i64 0, .int .i64 0] 24 (0, 0))) := Lib.hid (by (repeat' (first | (with_reducible assumption) | (with_reducible exact blk_new _ _) | (with_reducible exact blk_new1 _ _ _) | (with_reducible exact blk_new2 _ _ _ _) | (with_reducible refine blk_alloc ?_ _) | (with_reducible refine blk_drewN ?_ _) | (with_reducible refine blk_down (by assumption) ?_) | (with_reducible refine blk_up (by assumption) (by omega) ?_) | (with_reducible refine blk_far ?_ _ (by simp; omega)))))
  have V0 : Hid (validD ⟨List.replicate 16 (-1), 0, 0⟩ = true) := Lib.hid new_valid
  clear hown hb
  go_wp2_with fail
  refine (one_lit (l := [_, _, _, _, _, _]) (R1.out.alloc _) (by omega) (by simp) rfl (by simp) (by simp) _).mono ?_
  rintro e w2 ⟨n0, rfl, hx, hr, hg⟩
  simp only [List.mem_cons, List.not_mem_nil, or_false] at hx
  have hz2 := hg.size
  simp at hz2
  obtain ⟨m0, rfl, hm0⟩ : ∃ m : Nat, n0 = (m : Int) ∧ m ≤ 40 := ⟨n0.toNat, by omega, by omega⟩
  clear hx
  have R2 := Lib.hid hr
  have G2 : Hid (w.grownBy w2 (some g)) := Lib.hid (grown_call hg (only_alloc (only_alloc G1.out _) _))
  have S2 : Hid (OwnS (w.heap.size + 1) w2 A1 16 c1 (List.replicate 16 (-1))) := Lib.hid (OwnS.grown (S1.out.below (by (repeat' (first | (with_reducible exact Below.refl _ _) | (with_reducible assumption) | (with_reducible refine Below.alloc ?_ ?_ _) | (with_reducible refine below_drewN ?_ _) | (with_reducible refine Below.drew ?_) | (with_reducible refine Below.setCell ?_ ?_ _) | (with_reducible refine below_call (by assumption) ?_ ?_) | (with_reducible refine below_grown (by assumption) ?_ ?_ ?_) | omega | (simp; done) | (simp; omega))))) hg (by omega))
  have Q2 : Hid (w2.heap[w1.heap.size]? = some (.cells #[.slice A1 16 c1, .int .i64 0, .int .i64 0] 24 (0, 0))) := Lib.hid (blk_grown (by (repeat' (first | (with_reducible assumption) | (with_reducible exact blk_new _ _) | (with_reducible exact blk_new1 _ _ _) | (with_reducible exact blk_new2 _ _ _ _) | (with_reducible refine blk_alloc ?_ _) | (with_reducible refine blk_drewN ?_ _) | (with_reducible refine blk_down (by assumption) ?_) | (with_reducible refine blk_up (by assumption) (by omega) ?_) | (with_reducible refine blk_far ?_ _ (by simp; omega))))) hg (by omega))
  have D2 : Hid (w2.heap[w.heap.size]? = some (.cells #[.slice none 0 0, .int .i64 0, .int .i64 0] 24 (0, 0))) := Lib.hid (blk_grown (blk_alloc (blk_alloc D1.out _) _) hg (by omega))
  have NE : Hid (∀ a, A1 = some a → a.block < w1.heap.size) := Lib.hid (fun a ha => IsI.lt S1.out.1 (by omega) a ha)
  obtain ⟨gd, hgd⟩ : ∃ gd, w1.heap.size = gd := ⟨_, rfl⟩
  rw [hgd] at NE
  clear hr hg S1 R1 G1 D1
  rw [hgd] at Q2 ⊢
  have hgd1 : w.heap.size < gd := by omega
  go_wp2
  go_loopw [4] (fun vn wr => ∃ (j : Nat) (q : Dq) (A1 : Option Addr) (c1 : Nat), j ≤ m0 ∧ vn = .int .i64 j ∧ validD q = true ∧ Lies (w.heap.size + 1) gd wr q A1 c1 ∧
      wr.heap[w.heap.size]? = some (.cells #[.slice none 0 0, .int .i64 0, .int .i64 0] 24 (0, 0)) ∧ Rd g A n c z wr (k + 1 + 10 * (m0 - j)) ∧ w.grownBy wr (some g)) (fun vn _ => (intOf vn).toNat)
  case atStart => exact ⟨m0, ⟨List.replicate 16 (-1), 0, 0⟩, A1, c1, Nat.le_refl _, rfl, V0.out, ⟨Q2.out, S2.out.1, S2.out.2.1, S2.out.2.2.1, S2.out.2.2.2, fun _ a ha => Nat.ne_of_lt (NE.out a ha)⟩, D2.out, by rw [Nat.sub_self]; exact R2.out, G2.out⟩
  case round =>
    obtain ⟨j, ⟨l, t, b⟩, A1, c1, hj, rfl, hv, hli, hd, hr, hg⟩ := hrel
    have hsz := hg.size
    have HV := Lib.hid hv
    have HD := Lib.hid hd
    have HR := Lib.hid hr
    have HG := Lib.hid hg
    have HLI := Lib.hid hli
    obtain ⟨q1, q2, _⟩ := validD_iff.1 hv
    simp only at q1 q2
    obtain ⟨t0, t1, b0, b1⟩ : 0 ≤ t ∧ t ≤ 500 ∧ 0 ≤ b ∧ b ≤ 500 := by omega
    have hq := hli.1
    simp only [q1] at hq
    have HQ0 := Lib.hid hq
    have HI16 : Hid (IsI wr A1 16 l) := Lib.hid (by have := hli.2.1; simp only [q1] at this; exact this)
    have HB1 : Hid (∀ a, A1 = some a → w.heap.size + 1 ≤ a.block) := Lib.hid hli.2.2.2.2.1
    have HA1 : Hid (∀ a, A1 = some a → a.block < wr.heap.size) := Lib.hid (HI16.out.lt (by omega))
    have hcq := blk_cell hq
    have hfq := blk_free hq
    have hlq := blk_lt hq
    have hld := blk_lt hd
    have L16 := Lib.hid q1
    clear hv hq hli hd hr hg S2 Q2 D2 R2 G2 V0 NE q1 q2
    by_cases hlt : 0 < j
    · have eb : decide ((0 : Int) < j) = true := by simp; omega
      go_wp2_with fail
      go_cut [5, 6] from 11 to 41 (fun vp vo wx => ∃ (gn : Nat) (q2 : Dq) (A2 : Option Addr) (c2 : Nat) (ok : Bool) (x : Int), vp = .pointer (some ⟨gn, 0, none⟩) ∧ vo = .bool ok ∧ pushOk ⟨l, t, b⟩ x = ok ∧ pushR ⟨l, t, b⟩ x = q2 ∧ gd < gn ∧
        Lies (w.heap.size + 1) gn wx q2 A2 c2 ∧ Lies (w.heap.size + 1) gd wx ⟨l, t, b⟩ A1 c1 ∧ (∀ a, A2 = some a → a.block ≠ gd) ∧ (∀ a, A1 = some a → a.block ≠ gn) ∧
        wx.heap[w.heap.size]? = some (.cells #[.slice none 0 0, .int .i64 0, .int .i64 0] 24 (0, 0)) ∧ Rd g A n c z wx (k + 2 + 10 * (m0 - j)) ∧ w.grownBy wx (some g))
      case first =>
        go_region_with (first
          | (go_at_call 61; refine (pick_any (A := A) (n := n) (c := c) (z := z) (k := k + 1 + 10 * (m0 - j)) (by repeat' (first | (with_reducible exact HR.out) | (with_reducible refine Rd.drew' ?_) | (with_reducible refine Rd.alloc ?_ _))) (by omega) _).mono ?_; rintro e w3 ⟨x, rfl, hx0, hx1, hr3, hg3⟩; have hz3 := hg3.size; (try simp at hz3); have L3 : Hid (Lies (w.heap.size + 1) gd w3 ⟨l, t, b⟩ A1 c1) := Lib.hid (Lies.grown (HLI.out.below (by (repeat' (first | (with_reducible exact Below.refl _ _) | (with_reducible assumption) | (with_reducible refine Below.alloc ?_ ?_ _) | (with_reducible refine below_drewN ?_ _) | (with_reducible refine Below.drew ?_) | (with_reducible refine Below.setCell ?_ ?_ _) | (with_reducible refine below_call (by assumption) ?_ ?_) | (with_reducible refine below_grown (by assumption) ?_ ?_ ?_) | omega | (simp; done) | (simp; omega))))) hg3 (by omega) (by omega)); have D3 : Hid (w3.heap[w.heap.size]? = some (.cells #[.slice none 0 0, .int .i64 0, .int .i64 0] 24 (0, 0))) := Lib.hid (blk_grown (blk_below HD.out (show Below wr.heap.size wr _ by (repeat' (first | (with_reducible exact Below.refl _ _) | (with_reducible assumption) | (with_reducible refine Below.alloc ?_ ?_ _) | (with_reducible refine below_drewN ?_ _) | (with_reducible refine Below.drew ?_) | (with_reducible refine Below.setCell ?_ ?_ _) | (with_reducible refine below_call (by assumption) ?_ ?_) | (with_reducible refine below_grown (by assumption) ?_ ?_ ?_) | omega | (simp; done) | (simp; omega))))) hg3 (by omega)); have R3 := Lib.hid hr3; have G3 : Hid (w.grownBy w3 (some g)) := Lib.hid (grown_call hg3 (grown_below (show Below wr.heap.size wr _ by (repeat' (first | (with_reducible exact Below.refl _ _) | (with_reducible assumption) | (with_reducible refine Below.alloc ?_ ?_ _) | (with_reducible refine below_drewN ?_ _) | (with_reducible refine Below.drew ?_) | (with_reducible refine Below.setCell ?_ ?_ _) | (with_reducible refine below_call (by assumption) ?_ ?_) | (with_reducible refine below_grown (by assumption) ?_ ?_ ?_) | omega | (simp; done) | (simp; omega)))) HG.out trivial)); have I3 : Hid (IsI w3 A1 16 l) := Lib.hid (IsI.grown (IsI.below HI16.out (show Below wr.heap.size wr _ by (repeat' (first | (with_reducible exact Below.refl _ _) | (with_reducible assumption) | (with_reducible refine Below.alloc ?_ ?_ _) | (with_reducible refine below_drewN ?_ _) | (with_reducible refine Below.drew ?_) | (with_reducible refine Below.setCell ?_ ?_ _) | (with_reducible refine below_call (by assumption) ?_ ?_) | (with_reducible refine below_grown (by assumption) ?_ ?_ ?_) | omega | (simp; done) | (simp; omega))))) hg3 (fun a ha => by have := HB1.out a ha; omega)); have hq3 : w3.heap[gd]? = some (.cells #[.slice A1 16 c1, .int .i64 t, .int .i64 b] 24 (0, 0)) := by { have := L3.out.1; simp only [L16.out] at this; exact this }; have hcq3 := blk_cell hq3; have hlq3 := blk_lt hq3; clear hq3; (try (have hnr := blk_grown (blk_drew' (blk_new wr (.cells #[.slice none 0 0, .int .i64 0, .int .i64 0] 24))) hg3 (show wr.heap.size ≠ g by omega); have HNR := Lib.hid hnr; have hcnr := blk_cell hnr; have hfnr := blk_free hnr; have hlnr := blk_lt hnr; clear hnr)))
          | (go_at_call 34; obtain ⟨ok, hok⟩ : ∃ ok, pushOk ⟨l, t, b⟩ x = ok := ⟨_, rfl⟩; obtain ⟨⟨qs, qt, qb⟩, hqq⟩ : ∃ q, pushR ⟨l, t, b⟩ x = q := ⟨_, rfl⟩; refine (sPushTile_eq c1 (IsI.below I3.out (by (repeat' (first | (with_reducible exact Below.refl _ _) | (with_reducible assumption) | (with_reducible refine Below.alloc ?_ ?_ _) | (with_reducible refine below_drewN ?_ _) | (with_reducible refine Below.drew ?_) | (with_reducible refine Below.setCell ?_ ?_ _) | (with_reducible refine below_call (by assumption) ?_ ?_) | (with_reducible refine below_grown (by assumption) ?_ ?_ ?_) | omega | (simp; done) | (simp; omega))))) (by omega) (by omega) (by omega) hok hqq).mono ?_; rintro e w4 ⟨A2, c2, rfl, hown, hb4⟩; have hz4 := hb4.size; (try simp at hz4); have HOK := Lib.hid hok; have HQQ := Lib.hid hqq; have S4 : Hid (OwnS w3.heap.size w4 A2 qs.length c2 qs) := Lib.hid (OwnS.lower (OwnJ.toS hown) (by first | exact Nat.le_refl _ | (simp; done))); have B4 : Hid (Below w3.heap.size w3 w4) := Lib.hid (by (repeat' (first | (with_reducible exact Below.refl _ _) | (with_reducible assumption) | (with_reducible refine Below.alloc ?_ ?_ _) | (with_reducible refine below_drewN ?_ _) | (with_reducible refine Below.drew ?_) | (with_reducible refine Below.setCell ?_ ?_ _) | (with_reducible refine below_call (by assumption) ?_ ?_) | (with_reducible refine below_grown (by assumption) ?_ ?_ ?_) | omega | (simp; done) | (simp; omega)))); clear hok hqq; (try (have hn4 := blk_below (blk_new w3 (.cells #[.slice none 0 0, .int .i64 0, .int .i64 0] 24)) hb4; have hne4 : Hid (∀ a, A2 = some a → a.block ≠ w3.heap.size) := Lib.hid (fun a ha => by have := (OwnJ.toS hown).2.2.2 a ha; simp at this; omega); have HN4 := Lib.hid hn4; have hcn := blk_cell hn4; have hfn := blk_free hn4; have hln := blk_lt hn4; clear hn4)); (try (have hn4 := blk_below HNR.out hb4; have hne4 : Hid (∀ a, A2 = some a → a.block ≠ wr.heap.size) := Lib.hid (fun a ha => by have := S4.out.2.2.2 a ha; omega); have HN4 := Lib.hid hn4; have hcn := blk_cell hn4; have hfn := blk_free hn4; have hln := blk_lt hn4; clear hn4))))
        all_goals (go_wp2_with fail; go_meet)
        all_goals first
          | (have hn4 := HN4.out
             refine ⟨_, ⟨qs, qt, qb⟩, A2, c2, ok, x, rfl, rfl, HOK.out, HQQ.out, by omega, ?_⟩
             have hput := Lies.put3' (base := w.heap.size + 1) qt qb hn4 S4.out.1 S4.out.2.1 S4.out.2.2.1 (fun a ha => (by have := S4.out.2.2.2 a ha; omega)) hne4.out
             refine ⟨hput, ?_⟩
             refine ⟨Lies.far3 _ _ _ (L3.out.below B4.out) (by omega) (fun _ a ha => (by have := HA1.out a ha; omega)), ?_⟩
             refine ⟨fun a ha => (by have := S4.out.2.2.2 a ha; omega), fun a ha => (by have := HA1.out a ha; omega), ?_⟩
             refine ⟨blk_far (blk_far (blk_far (blk_below D3.out B4.out) _ (by simp; omega)) _ (by simp; omega)) _ (by simp; omega), ?_⟩
             refine ⟨Rd.more (Rd.setFar (by simp; omega) (Rd.setFar (by simp; omega) (Rd.setFar (by simp; omega) (R3.out.below B4.out)))) (by omega), ?_⟩
             exact only_setCell (only_setCell (only_setCell (grown_below B4.out G3.out trivial) (.inr (by simp; omega)) _) (.inr (by simp; omega)) _) (.inr (by simp; omega)) _)
          | (refine ⟨w4.heap.size, ⟨qs, qt, qb⟩, A2, c2, ok, x, rfl, rfl, HOK.out, HQQ.out, by omega, ?_⟩
             refine ⟨⟨blk_new w4 _, S4.out.1.below (by (repeat' (first | (with_reducible exact Below.refl _ _) | (with_reducible assumption) | (with_reducible refine Below.alloc ?_ ?_ _) | (with_reducible refine below_drewN ?_ _) | (with_reducible refine Below.drew ?_) | (with_reducible refine Below.setCell ?_ ?_ _) | (with_reducible refine below_call (by assumption) ?_ ?_) | (with_reducible refine below_grown (by assumption) ?_ ?_ ?_) | omega | (simp; done) | (simp; omega)))), S4.out.2.1, S4.out.2.2.1, fun a ha => (by have := S4.out.2.2.2 a ha; omega), fun hn a ha => (by have := S4.out.1.lt hn a ha; omega)⟩, ?_⟩
             refine ⟨(L3.out.below B4.out).below (by (repeat' (first | (with_reducible exact Below.refl _ _) | (with_reducible assumption) | (with_reducible refine Below.alloc ?_ ?_ _) | (with_reducible refine below_drewN ?_ _) | (with_reducible refine Below.drew ?_) | (with_reducible refine Below.setCell ?_ ?_ _) | (with_reducible refine below_call (by assumption) ?_ ?_) | (with_reducible refine below_grown (by assumption) ?_ ?_ ?_) | omega | (simp; done) | (simp; omega)))), ?_⟩
             refine ⟨fun a ha => (by have := S4.out.2.2.2 a ha; omega), fun a ha => (by have := HA1.out a ha; omega), ?_⟩
             refine ⟨blk_alloc (blk_below D3.out B4.out) _, ?_⟩
             refine ⟨Rd.more ((R3.out.below B4.out).alloc _) (by omega), ?_⟩
             exact only_alloc (grown_below B4.out G3.out trivial) _)
      case rest =>
        obtain ⟨gn, q2, A2, c2, ok, x, rfl, rfl, hok, hq2, hgn, L2, L1, hne1, hne2, hd, hr, hg⟩ := hcut
        have hszc := hg.size
        have hnl := L2.lt
        have hok2 : ok = true → validD q2 = true := fun e => by rw [← hq2]; exact push_valid (hok.trans e)
        have OK2 := Lib.hid hok2
        have HL1 := Lib.hid L1
        have HL2 := Lib.hid L2
        have HNE1 := Lib.hid hne1
        have HNE2 := Lib.hid hne2
        have HDc := Lib.hid hd
        have HRc := Lib.hid hr
        have HGc := Lib.hid hg
        clear hok hq2 hok2 L1 L2 hne1 hne2 hd hr hg hcq hfq hlq hld
        go_wp2_with fail
        refine (pick_any HRc.out (by omega) _).mono ?_
        rintro e w5 ⟨y, rfl, hy0, hy1, hr5, hg5⟩
        have hz5 := hg5.size
        have L15 : Hid (Lies (w.heap.size + 1) gd w5 ⟨l, t, b⟩ A1 c1) := Lib.hid (HL1.out.grown hg5 (by omega) (by omega))
        have L25 : Hid (Lies (w.heap.size + 1) gn w5 q2 A2 c2) := Lib.hid (HL2.out.grown hg5 (by omega) (by omega))
        have D5 : Hid (w5.heap[w.heap.size]? = some (.cells #[.slice none 0 0, .int .i64 0, .int .i64 0] 24 (0, 0))) := Lib.hid (blk_grown HDc.out hg5 (by omega))
        have R5 := Lib.hid hr5
        have G5 : Hid (w.grownBy w5 (some g)) := Lib.hid (grown_call hg5 HGc.out)
        have hq5 : w5.heap[gd]? = some (.cells #[.slice A1 16 c1, .int .i64 t, .int .i64 b] 24 (0, 0)) := by have := L15.out.1; simp only [L16.out] at this; exact this
        have I5 : Hid (IsI w5 A1 16 l) := Lib.hid (by have := L15.out.2.1; simp only [L16.out] at this; exact this)
        have hc5 := blk_cell hq5
        have hf5 := blk_free hq5
        have hl5 := blk_lt hq5
        have hn5 := L25.out.1
        have hcn5 := blk_cell hn5
        have hfn5 := blk_free hn5
        have hln5 := blk_lt hn5
        have HQ5 := Lib.hid hq5
        have HN5 := Lib.hid hn5
        clear hr5 hg5 hq5 hn5
        have tj : IntKind.i64.wrap ((j : Int) - 1) = ((j - 1 : Nat) : Int) := (IntWalk.i64_in _ (by omega)).trans (by omega)
        by_cases hya : y = 0
        · subst hya
          obtain ⟨ok', hok'⟩ : ∃ v, takeOkD ⟨l, t, b⟩ = v := ⟨_, rfl⟩
          obtain ⟨q3, hq3⟩ : ∃ v, popR ⟨l, t, b⟩ = v := ⟨_, rfl⟩
          obtain ⟨x3, hx3⟩ : ∃ v, popV ⟨l, t, b⟩ = v := ⟨_, rfl⟩
          have OK3 : Hid (ok' = true → validD q3 = true) := Lib.hid (fun e => by rw [← hq3]; exact pop_valid (hok'.trans e))
          go_wp2_with fail
          refine (sPopTile_eq c1 I5.out (by omega) (by omega) (by omega) hok' hq3 hx3).mono ?_
          rintro e w6 ⟨A3, c3, rfl, hown, hb6⟩
          have hz6 := hb6.size
          have S6 := Lib.hid (OwnJ.toS hown)
          have hq6 := blk_below HQ5.out hb6
          have hn6 := blk_below HN5.out hb6
          have HQ6 := Lib.hid hq6
          have HN6 := Lib.hid hn6
          have L16' : Hid (Lies (w.heap.size + 1) gd w6 ⟨l, t, b⟩ A1 c1) := Lib.hid (L15.out.below hb6)
          have D6 := Lib.hid (blk_below D5.out hb6)
          have R6 := Lib.hid (R5.out.below hb6)
          have G6 : Hid (w.grownBy w6 (some g)) := Lib.hid (grown_below hb6 G5.out trivial)
          have hc6 := blk_cell hq6
          have hf6 := blk_free hq6
          have hl6 := blk_lt hq6
          have hcn6 := blk_cell hn6
          have hfn6 := blk_free hn6
          have hln6 := blk_lt hn6
          clear hq6 hn6 hown hok' hq3 hx3
          cases ok' with
          | false =>
            go_wp2
            go_roundw
            case rel => exact ⟨j - 1, ⟨l, t, b⟩, A1, c1, by omega, by go_num, HV.out, Lies.far3 _ _ _ L16'.out (by omega) (fun _ a ha => HNE2.out a ha), blk_far (blk_far (blk_far D6.out _ (by simp; omega)) _ (by simp; omega)) _ (by simp; omega), Rd.more (Rd.setFar (by simp; omega) (Rd.setFar (by simp; omega) (Rd.setFar (by simp; omega) R6.out))) (by omega), only_setCell (only_setCell (only_setCell G6.out (.inr (by simp; omega)) _) (.inr (by simp; omega)) _) (.inr (by simp; omega)) _⟩
            case measure => simp [intOf]; omega
          | true =>
            have HV3 := Lib.hid (OK3.out rfl)
            go_wp2
            go_roundw
            case rel => exact ⟨j - 1, q3, A3, c3, by omega, by go_num, HV3.out, Lies.put3 (blk_far (blk_far (blk_far HQ6.out _ (by simp; omega)) _ (by simp; omega)) _ (by simp; omega)) (S6.out.1.set3 _ _ _ (fun _ a ha => (by have := S6.out.2.2.2 a ha; omega))) S6.out.2.1 S6.out.2.2.1 (fun a ha => (by have := S6.out.2.2.2 a ha; omega)) (fun _ a ha => (by have := S6.out.2.2.2 a ha; omega)), blk_far (blk_far (blk_far (blk_far (blk_far (blk_far D6.out _ (by simp; omega)) _ (by simp; omega)) _ (by simp; omega)) _ (by simp; omega)) _ (by simp; omega)) _ (by simp; omega), Rd.more (Rd.setFar (by simp; omega) (Rd.setFar (by simp; omega) (Rd.setFar (by simp; omega) (Rd.setFar (by simp; omega) (Rd.setFar (by simp; omega) (Rd.setFar (by simp; omega) R6.out)))))) (by omega), only_setCell (only_setCell (only_setCell (only_setCell (only_setCell (only_setCell G6.out (.inr (by simp; omega)) _) (.inr (by simp; omega)) _) (.inr (by simp; omega)) _) (.inr (by simp; omega)) _) (.inr (by simp; omega)) _) (.inr (by simp; omega)) _⟩
            case measure => simp [intOf]; omega
        · by_cases hyb : y = 1
          · subst hyb
            obtain ⟨ok', hok'⟩ : ∃ v, takeOkD ⟨l, t, b⟩ = v := ⟨_, rfl⟩
            obtain ⟨q3, hq3⟩ : ∃ v, stealR ⟨l, t, b⟩ = v := ⟨_, rfl⟩
            obtain ⟨x3, hx3⟩ : ∃ v, stealV ⟨l, t, b⟩ = v := ⟨_, rfl⟩
            have OK3 : Hid (ok' = true → validD q3 = true) := Lib.hid (fun e => by rw [← hq3]; exact steal_valid (hok'.trans e))
            go_wp2_with fail
            refine (sStealTile_eq c1 I5.out (by omega) (by omega) (by omega) hok' hq3 hx3).mono ?_
            rintro e w6 ⟨A3, c3, rfl, hown, hb6⟩
            have hz6 := hb6.size
            have S6 := Lib.hid (OwnJ.toS hown)
            have hq6 := blk_below HQ5.out hb6
            have hn6 := blk_below HN5.out hb6
            have HQ6 := Lib.hid hq6
            have HN6 := Lib.hid hn6
            have L16' : Hid (Lies (w.heap.size + 1) gd w6 ⟨l, t, b⟩ A1 c1) := Lib.hid (L15.out.below hb6)
            have D6 := Lib.hid (blk_below D5.out hb6)
            have R6 := Lib.hid (R5.out.below hb6)
            have G6 : Hid (w.grownBy w6 (some g)) := Lib.hid (grown_below hb6 G5.out trivial)
            have hc6 := blk_cell hq6
            have hf6 := blk_free hq6
            have hl6 := blk_lt hq6
            have hcn6 := blk_cell hn6
            have hfn6 := blk_free hn6
            have hln6 := blk_lt hn6
            clear hq6 hn6 hown hok' hq3 hx3
            cases ok' with
            | false =>
              go_wp2
              go_roundw
              case rel => exact ⟨j - 1, ⟨l, t, b⟩, A1, c1, by omega, by go_num, HV.out, Lies.far3 _ _ _ L16'.out (by omega) (fun _ a ha => HNE2.out a ha), blk_far (blk_far (blk_far D6.out _ (by simp; omega)) _ (by simp; omega)) _ (by simp; omega), Rd.more (Rd.setFar (by simp; omega) (Rd.setFar (by simp; omega) (Rd.setFar (by simp; omega) R6.out))) (by omega), only_setCell (only_setCell (only_setCell G6.out (.inr (by simp; omega)) _) (.inr (by simp; omega)) _) (.inr (by simp; omega)) _⟩
              case measure => simp [intOf]; omega
            | true =>
              have HV3 := Lib.hid (OK3.out rfl)
              go_wp2
              go_roundw
              case rel => exact ⟨j - 1, q3, A3, c3, by omega, by go_num, HV3.out, Lies.put3 (blk_far (blk_far (blk_far HQ6.out _ (by simp; omega)) _ (by simp; omega)) _ (by simp; omega)) (S6.out.1.set3 _ _ _ (fun _ a ha => (by have := S6.out.2.2.2 a ha; omega))) S6.out.2.1 S6.out.2.2.1 (fun a ha => (by have := S6.out.2.2.2 a ha; omega)) (fun _ a ha => (by have := S6.out.2.2.2 a ha; omega)), blk_far (blk_far (blk_far (blk_far (blk_far (blk_far D6.out _ (by simp; omega)) _ (by simp; omega)) _ (by simp; omega)) _ (by simp; omega)) _ (by simp; omega)) _ (by simp; omega), Rd.more (Rd.setFar (by simp; omega) (Rd.setFar (by simp; omega) (Rd.setFar (by simp; omega) (Rd.setFar (by simp; omega) (Rd.setFar (by simp; omega) (Rd.setFar (by simp; omega) R6.out)))))) (by omega), only_setCell (only_setCell (only_setCell (only_setCell (only_setCell (only_setCell G6.out (.inr (by simp; omega)) _) (.inr (by simp; omega)) _) (.inr (by simp; omega)) _) (.inr (by simp; omega)) _) (.inr (by simp; omega)) _) (.inr (by simp; omega)) _⟩
              case measure => simp [intOf]; omega
          · have e0 : (y == 0) = false := by simpa using hya
            have e1 : (y == 1) = false := by simpa using hyb
            have d0 : decide (y = 0) = false := decide_eq_false hya
            have d1 : decide (y = 1) = false := decide_eq_false hyb
            cases ok with
            | false =>
              go_wp2
              go_roundw
              case rel => exact ⟨j - 1, ⟨l, t, b⟩, A1, c1, by omega, by go_num, HV.out, L15.out, D5.out, Rd.more R5.out (by omega), G5.out⟩
              case measure => simp [intOf]; omega
            | true =>
              have V2 := OK2.out rfl
              obtain ⟨r1, r2, _⟩ := validD_iff.1 V2
              have HV2 := Lib.hid V2
              clear V2 r1 r2
              go_wp2
              go_roundw
              case rel => exact ⟨j - 1, q2, A2, c2, by omega, by go_num, HV2.out, Lies.put3 HQ5.out L25.out.2.1 L25.out.2.2.1 L25.out.2.2.2.1 L25.out.2.2.2.2.1 (fun _ a ha => HNE1.out a ha), blk_far (blk_far (blk_far D5.out _ (by simp; omega)) _ (by simp; omega)) _ (by simp; omega), Rd.more (Rd.setFar (by simp; omega) (Rd.setFar (by simp; omega) (Rd.setFar (by simp; omega) R5.out))) (by omega), only_setCell (only_setCell (only_setCell G5.out (.inr (by simp; omega)) _) (.inr (by simp; omega)) _) (.inr (by simp; omega)) _⟩
              case measure => simp [intOf]; omega
    · obtain rfl : j = 0 := by omega
      have eb : decide ((0 : Int) < ((0 : Nat) : Int)) = false := by decide
      clear hcq hfq hlq hld
      go_wp2_with fail
      refine (pick_any HR.out (by omega) _).mono ?_
      rintro e w5 ⟨y, rfl, hy0, hy1, hr5, hg5⟩
      have hz5 := hg5.size
      have L15 : Hid (Lies (w.heap.size + 1) gd w5 ⟨l, t, b⟩ A1 c1) := Lib.hid (HLI.out.grown hg5 (by omega) (by omega))
      have hd5 := blk_grown HD.out hg5 (by omega)
      have R5 := Lib.hid hr5
      have G5 : Hid (w.grownBy w5 (some g)) := Lib.hid (grown_call hg5 HG.out)
      have hq5 : w5.heap[gd]? = some (.cells #[.slice A1 16 c1, .int .i64 t, .int .i64 b] 24 (0, 0)) := by have := L15.out.1; simp only [L16.out] at this; exact this
      have I5 : Hid (IsI w5 A1 16 l) := Lib.hid (by have := L15.out.2.1; simp only [L16.out] at this; exact this)
      have S5 : Hid (OwnS (w.heap.size + 1) w5 A1 16 c1 l) := Lib.hid ⟨I5.out, by have := L15.out.2.2.1; simp only [L16.out] at this; exact this, L15.out.2.2.2.1, L15.out.2.2.2.2.1⟩
      have NE5 : Hid (∀ a, A1 = some a → a.block ≠ gd) := Lib.hid (L15.out.2.2.2.2.2 (by simp only [L16.out]; omega))
      have hc5 := blk_cell hq5
      have hf5 := blk_free hq5
      have hl5 := blk_lt hq5
      have hcd5 := blk_cell hd5
      have hfd5 := blk_free hd5
      have hld5 := blk_lt hd5
      have HQ5 := Lib.hid hq5
      have HD5 := Lib.hid hd5
      clear hr5 hg5 hq5 hd5
      by_cases hya : y = 0
      · subst hya
        go_wp2_with fail
        refine (spoil_any R5.out (by omega) I5.out (by omega)).mono ?_
        rintro e w6 ⟨B, p, d', l', rfl, hp, hS, hr6, hg6⟩
        have hz6 := hg6.size
        have hq6 := blk_grown HQ5.out hg6 (by omega)
        have hd6 := blk_grown HD5.out hg6 (by omega)
        have hc6 := blk_cell hq6
        have hf6 := blk_free hq6
        have hl6 := blk_lt hq6
        have hcd6 := blk_cell hd6
        have hfd6 := blk_free hd6
        have hld6 := blk_lt hd6
        have S6 := Lib.hid hS
        have R6 := Lib.hid hr6
        have G6 : Hid (w.grownBy w6 (some g)) := Lib.hid (grown_call hg6 G5.out)
        clear hq6 hd6 hS hr6 hg6 hc5 hf5 hcd5 hfd5
        go_wp2
        ((try simp only [Exit.inBlock, Exit.then]); refine bodyPost_ret (by simp [results, Try.results46, go_sem, *]; try rfl) rfl ?_)
        refine ⟨B, p, d', l', t, b, rfl, by omega, by omega, by omega, ⟨?_, S6.out.2.1, S6.out.2.2.1, fun a ha => (by have := S6.out.2.2.2 a ha; omega)⟩, ?_, ?_⟩
        · exact (S6.out.1.set _ (fun _ a ha => (by have := S6.out.2.2.2 a ha; simp; omega))).set3 _ _ _ (fun _ a ha => (by have := S6.out.2.2.2 a ha; omega))
        · exact Rd.more (Rd.setFar (by simp; omega) (Rd.setFar (by simp; omega) (Rd.setFar (by simp; omega) (Rd.setFar (by simp; omega) R6.out)))) (by omega)
        · exact only_setCell (only_setCell (only_setCell (only_setCell G6.out (.inr (by simp; omega)) _) (.inr (by simp)) _) (.inr (by simp)) _) (.inr (by simp)) _
      · by_cases hyb : y = 1
        · subst hyb
          have wb : IntKind.i64.wrap (b + 1) = b + 1 := IntWalk.i64_in _ (by omega)
          have wt : IntKind.i64.wrap (t - 1) = t - 1 := IntWalk.i64_in _ (by omega)
          go_wp2_with fail
          refine (one_lit (l := [_, _, _]) R5.out (by omega) (by simp) rfl (by simp) (by simp) _).mono ?_
          rintro e w6 ⟨x, rfl, hx, hr6, hg6⟩
          simp only [List.mem_cons, List.not_mem_nil, or_false] at hx
          have hz6 := hg6.size
          simp at hz6
          have hq6 := blk_grown (blk_alloc HQ5.out _) hg6 (by omega)
          have hd6 := blk_grown (blk_alloc HD5.out _) hg6 (by omega)
          have hc6 := blk_cell hq6
          have hf6 := blk_free hq6
          have hl6 := blk_lt hq6
          have hcd6 := blk_cell hd6
          have hfd6 := blk_free hd6
          have hld6 := blk_lt hd6
          have S6 : Hid (OwnS (w.heap.size + 1) w6 A1 16 c1 l) := Lib.hid ((S5.out.below (by (repeat' (first | (with_reducible exact Below.refl _ _) | (with_reducible assumption) | (with_reducible refine Below.alloc ?_ ?_ _) | (with_reducible refine below_drewN ?_ _) | (with_reducible refine Below.drew ?_) | (with_reducible refine Below.setCell ?_ ?_ _) | (with_reducible refine below_call (by assumption) ?_ ?_) | (with_reducible refine below_grown (by assumption) ?_ ?_ ?_) | omega | (simp; done) | (simp; omega))))).grown hg6 (by omega))
          have R6 := Lib.hid hr6
          have G6 : Hid (w.grownBy w6 (some g)) := Lib.hid (grown_call hg6 (only_alloc G5.out _))
          clear hq6 hd6 hr6 hg6 hc5 hf5 hcd5 hfd5
          go_wp2
          ((try simp only [Exit.inBlock, Exit.then]); refine bodyPost_ret (by simp [results, Try.results46, go_sem, *]; try rfl) rfl ?_)
          refine ⟨A1, 16, c1, l, t, x, rfl, by omega, by omega, by omega, ⟨?_, S6.out.2.1, S6.out.2.2.1, fun a ha => (by have := S6.out.2.2.2 a ha; omega)⟩, ?_, ?_⟩
          · exact IsI.set3 _ _ _ (S6.out.1.set _ (fun _ a ha => NE5.out a ha)) (fun _ a ha => (by have := S6.out.2.2.2 a ha; omega))
          · exact Rd.more (Rd.setFar (by simp; omega) (Rd.setFar (by simp; omega) (Rd.setFar (by simp; omega) (Rd.setFar (by simp; omega) R6.out)))) (by omega)
          · exact only_setCell (only_setCell (only_setCell (only_setCell G6.out (.inr (by simp; omega)) _) (.inr (by simp)) _) (.inr (by simp)) _) (.inr (by simp)) _
        · by_cases hyc : y = 2
          · subst hyc
            go_wp2_with fail
            refine (empty16_any _).mono ?_
            rintro e w6 ⟨B, d', rfl, hown, hb6⟩
            have hz6 := hb6.size
            have S6 := OwnJ.toS hown.weak
            have R6 := R5.out.below hb6
            go_wp2_with fail
            refine (one_lit (l := [_, _, _]) R6 (by omega) (by simp) rfl (by simp) (by simp) _).mono ?_
            rintro e w7 ⟨x, rfl, hx, hr7, hg7⟩
            simp only [List.mem_cons, List.not_mem_nil, or_false] at hx
            have hz7 := hg7.size
            simp at hz7
            go_wp2_with fail
            refine (one_lit (l := [_, _, _]) hr7 (by omega) (by simp) rfl (by simp) (by simp) _).mono ?_
            rintro e w8 ⟨x2, rfl, hx2, hr8, hg8⟩
            simp only [List.mem_cons, List.not_mem_nil, or_false] at hx2
            have hz8 := hg8.size
            simp at hz8
            have hq8 := blk_grown (blk_alloc (blk_grown (blk_alloc (blk_below HQ5.out hb6) _) hg7 (by omega)) _) hg8 (by omega)
            have hd8 := blk_grown (blk_alloc (blk_grown (blk_alloc (blk_below HD5.out hb6) _) hg7 (by omega)) _) hg8 (by omega)
            have hc8 := blk_cell hq8
            have hf8 := blk_free hq8
            have hl8 := blk_lt hq8
            have hcd8 := blk_cell hd8
            have hfd8 := blk_free hd8
            have hld8 := blk_lt hd8
            have S8 : Hid (OwnS w5.heap.size w8 B 16 d' (List.replicate 16 (-1))) := Lib.hid ((((S6.below (by (repeat' (first | (with_reducible exact Below.refl _ _) | (with_reducible assumption) | (with_reducible refine Below.alloc ?_ ?_ _) | (with_reducible refine below_drewN ?_ _) | (with_reducible refine Below.drew ?_) | (with_reducible refine Below.setCell ?_ ?_ _) | (with_reducible refine below_call (by assumption) ?_ ?_) | (with_reducible refine below_grown (by assumption) ?_ ?_ ?_) | omega | (simp; done) | (simp; omega))))).grown hg7 (by omega)).below (by (repeat' (first | (with_reducible exact Below.refl _ _) | (with_reducible assumption) | (with_reducible refine Below.alloc ?_ ?_ _) | (with_reducible refine below_drewN ?_ _) | (with_reducible refine Below.drew ?_) | (with_reducible refine Below.setCell ?_ ?_ _) | (with_reducible refine below_call (by assumption) ?_ ?_) | (with_reducible refine below_grown (by assumption) ?_ ?_ ?_) | omega | (simp; done) | (simp; omega))))).grown hg8 (by omega))
            have R8 := Lib.hid hr8
            have G8 : Hid (w.grownBy w8 (some g)) := Lib.hid (grown_call hg8 (only_alloc (grown_call hg7 (only_alloc (grown_below hb6 G5.out trivial) _)) _))
            clear hq8 hd8 hown S6 R6 hr7 hg7 hr8 hg8 hc5 hf5 hcd5 hfd5
            go_wp2
            ((try simp only [Exit.inBlock, Exit.then]); refine bodyPost_ret (by simp [results, Try.results46, go_sem, *]; try rfl) rfl ?_)
            refine ⟨B, 16, d', List.replicate 16 (-1), x, x2, rfl, by omega, by omega, by omega, ⟨?_, S8.out.2.1, S8.out.2.2.1, fun a ha => (by have := S8.out.2.2.2 a ha; omega)⟩, ?_, ?_⟩
            · exact (S8.out.1.set3 _ _ _ (fun _ a ha => (by have := S8.out.2.2.2 a ha; omega))).set3 _ _ _ (fun _ a ha => (by have := S8.out.2.2.2 a ha; omega))
            · exact Rd.more (Rd.setFar (by simp; omega) (Rd.setFar (by simp; omega) (Rd.setFar (by simp; omega) (Rd.setFar (by simp; omega) (Rd.setFar (by simp; omega) (Rd.setFar (by simp; omega) R8.out)))))) (by omega)
            · exact only_setCell (only_setCell (only_setCell (only_setCell (only_setCell (only_setCell G8.out (.inr (by simp; omega)) _) (.inr (by simp; omega)) _) (.inr (by simp; omega)) _) (.inr (by simp)) _) (.inr (by simp)) _) (.inr (by simp)) _
          · have e0 : (y == 0) = false := by simpa using hya
            have e1 : (y == 1) = false := by simpa using hyb
            have e2 : (y == 2) = false := by simpa using hyc
            have d0 : decide (y = 0) = false := decide_eq_false hya
            have d1 : decide (y = 1) = false := decide_eq_false hyb
            have d2 : decide (y = 2) = false := decide_eq_false hyc
            go_wp2
            ((try simp only [Exit.inBlock, Exit.then]); refine bodyPost_ret (by simp [results, Try.results46, go_sem, *]; try rfl) rfl ?_)
            refine ⟨A1, 16, c1, l, t, b, rfl, by omega, by omega, by omega, ⟨?_, S5.out.2.1, S5.out.2.2.1, fun a ha => (by have := S5.out.2.2.2 a ha; omega)⟩, ?_, ?_⟩
            · exact IsI.set3 _ _ _ S5.out.1 (fun _ a ha => (by have := S5.out.2.2.2 a ha; omega))
            · exact Rd.more (Rd.setFar (by simp; omega) (Rd.setFar (by simp; omega) (Rd.setFar (by simp; omega) R5.out))) (by omega)
            · exact only_setCell (only_setCell (only_setCell G5.out (.inr (by simp)) _) (.inr (by simp)) _) (.inr (by simp)) _

end Go.Proofs.Ytclfocdghbmmlaa
