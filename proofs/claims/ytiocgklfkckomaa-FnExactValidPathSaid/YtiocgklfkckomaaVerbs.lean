/-
  Verbs in memory; an exact law's path; their sizes, copies, comparisons.
-/
import Derived.Test.YtiocgklfkckomaaExR
import Derived.Test.YtiocgklfkckomaaPlG
import Derived.Laws.MakeOwn
namespace Go.Proofs.Ytiocgklfkckomaa
open Go.RowKit Pl Go.ChangeShapes Go.WideShapes Go.ChangeAt Go.Deep

set_option linter.unusedSimpArgs false
set_option linter.unusedVariables false

def IsVbs (w : World) (A : Option Addr) (n : Nat) (L : List Vb) : Prop := L.length = n ∧ (0 < n → ∃ b o, A = some ⟨b, o, none⟩ ∧ b < w.heap.size ∧ ∀ (i : Nat) (r : Vb), L[i]? = some r →
  w.cell? ⟨b, o + i * 2, none⟩ = some (.int .i64 r.1) ∧ ∃ u, w.cell? ⟨b, o + i * 2 + 1, none⟩ = some u ∧ IsHd w u r.2)
theorem IsVbs.below {w w' : World} {A : Option Addr} {n : Nat} {L : List Vb} (h : IsVbs w A n L) (hb : Below w.heap.size w w') : IsVbs w' A n L :=
  ⟨h.1, fun hn => by
    obtain ⟨b, o, e, hl, hc⟩ := h.2 hn
    refine ⟨b, o, e, Nat.lt_of_lt_of_le hl hb.size, fun i r hr => ?_⟩
    obtain ⟨c0, u, c1, hu⟩ := hc i r hr
    exact ⟨(hb.cell (p := ⟨b, _, none⟩) hl).trans c0, u, (hb.cell (p := ⟨b, _, none⟩) hl).trans c1, hu.below hb⟩⟩
theorem IsVbs.at_ {w : World} {A : Option Addr} {n : Nat} {L : List Vb} (h : IsVbs w A n L) {k : Nat} (hk : k < n) :
    ∃ b o kd r B c, A = some ⟨b, o, none⟩ ∧ b < w.heap.size ∧ L[k]? = some (kd, r) ∧ w.cell? ⟨b, o + k * 2, none⟩ = some (.int .i64 kd) ∧ w.cell? ⟨b, o + k * 2 + 1, none⟩ = some (.slice B r.length c) ∧ r.length ≤ c ∧ c ≤ maxLen ∧ IsPts w B r.length r := by
  obtain ⟨b, o, e, hb, hc⟩ := h.2 (by omega)
  have hl : k < L.length := by rw [h.1]; exact hk
  obtain ⟨c0, u, c1, B, c, rfl, q1, q2, q3⟩ := hc k L[k] (List.getElem?_eq_getElem hl)
  exact ⟨b, o, L[k].1, L[k].2, B, c, e, hb, List.getElem?_eq_getElem hl, c0, c1, q1, q2, q3⟩
theorem IsVbs.nil (w : World) (A : Option Addr) : IsVbs w A 0 [] := ⟨rfl, fun h => absurd h (Nat.lt_irrefl _)⟩
theorem vb_at {L : List Vb} {k : Nat} {r : Vb} (h : L[k]? = some r) : vb L k = r := by
  obtain ⟨hk, rfl⟩ := List.getElem?_eq_some_iff.1 h
  simp [vb, hk]

section
variable {H : Type} {enc : TypeId × Value → H} {P : Program} {w : World} {base : Nat} {spare : Nat → Bool} {held : Bool}
theorem trod_fieldV {t : TypeId} {fs : Array Field} {fuel : Nat} {cs : List Value} {x : DataW H × List MemPlace} (hs : P.underlying t = some (.struct fs)) (hone : oneCellFields P fs = true) (hC : P.cellsOf t = fs.size)
    (h : DataW.trod enc P w base spare held fuel t cs = some x) : cs.length = fs.size ∧ ∀ (i : Nat) (f : Field) (u : Value), fs[i]? = some f → cs[i]? = some u → ∃ n y, DataW.trod enc P w base spare held n f.type [u] = some y := by
  obtain ⟨xs, n, _, _, hl, hlen, hg⟩ := DataW.trod_struct hs h
  rw [hC] at hl
  refine ⟨hl, fun i f u hf hu => ?_⟩
  have hi : i < fs.size := (Array.getElem?_eq_some_iff.1 hf).1
  obtain ⟨o, k⟩ := hone_of hone i _ hf
  have h3 := hg i _ hf
  obtain ⟨h1, hu'⟩ := List.getElem?_eq_some_iff.1 hu
  rw [o, k, List.drop_eq_getElem_cons h1, List.getElem?_eq_getElem (by omega)] at h3
  rw [hu'] at h3
  exact ⟨_, _, h3⟩
def verbFields (P : Program) (fs : Array Field) (e : TypeId) : Bool :=
  match fs.toList.map (fun f => P.underlying f.type) with
  | [some (.int .i64), some (.slice e')] => e' == e
  | _ => false
theorem verb_of {t e : TypeId} {fs fs' : Array Field} {fuel : Nat} {cs : List Value} {x : DataW H × List MemPlace}
    (hff : verbFields P fs e = true) (hs : P.underlying t = some (.struct fs)) (hone : oneCellFields P fs = true) (hC : P.cellsOf t = fs.size)
    (h2 : fs'.size = 2) (he : P.underlying e = some (.struct fs')) (hone' : oneCellFields P fs' = true) (hint' : intFields P fs' = true) (hC' : P.cellsOf e = fs'.size)
    (h : DataW.trod enc P w base spare held fuel t cs = some x) : ∃ (r : Vb) (u : Value), cs = [.int .i64 r.1, u] ∧ IsHd w u r.2 := by
  obtain ⟨hl, hfld⟩ := trod_fieldV hs hone hC h
  obtain ⟨fl⟩ := fs
  unfold verbFields at hff
  match fl, hff, hl, hfld with
  | [], hff, _, _ => simp at hff
  | [_], hff, _, _ => simp at hff
  | _ :: _ :: _ :: _, hff, _, _ => simp at hff
  | [f0, f1], hff, hl, hfld =>
    have hu0 : P.underlying f0.type = some (.int .i64) := by
      simp only [List.map_cons, List.map_nil] at hff
      split at hff
      · rename_i heq; simp only [List.cons.injEq] at heq; exact heq.1
      · cases hff
    have hu1 : P.underlying f1.type = some (.slice e) := by
      simp only [List.map_cons, List.map_nil] at hff
      split at hff
      · rename_i e' heq; simp only [List.cons.injEq, and_true] at heq
        have : e' = e := by simpa using hff
        rw [heq.2, this]
      · cases hff
    match cs, hl, hfld with
    | [], hl, _ => simp at hl
    | [_], hl, _ => simp at hl
    | _ :: _ :: _ :: _, hl, _ => simp at hl
    | [a, b], hl, hfld =>
      obtain ⟨_, _, t0⟩ := hfld 0 f0 a rfl rfl
      obtain ⟨_, _, t1⟩ := hfld 1 f1 b rfl rfl
      obtain ⟨x, hx, _⟩ := DataW.trod_int hu0 t0
      simp only [List.cons.injEq, and_true] at hx
      subst hx
      obtain ⟨u, r, eu, hh⟩ := ring_hd h2 hu1 he hone' hint' hC' t1
      simp only [List.cons.injEq, and_true] at eu
      subst eu
      exact ⟨(x, r), _, rfl, hh⟩
theorem verbs_of {tt t e : TypeId} {fs fs' : Array Field} {A : Option Addr} {n c : Nat} {d : DataW H} {p : List MemPlace}
    (htt : P.underlying tt = some (.slice t)) (hff : verbFields P fs e = true) (hs : P.underlying t = some (.struct fs)) (hone : oneCellFields P fs = true) (hC : P.cellsOf t = fs.size) (hf2 : fs.size = 2)
    (h2 : fs'.size = 2) (he : P.underlying e = some (.struct fs')) (hone' : oneCellFields P fs' = true) (hint' : intFields P fs' = true) (hC' : P.cellsOf e = fs'.size)
    (h : DataW.Trod enc P w base spare held tt (.slice A n c) d p) : n ≤ maxLen ∧ ∃ L, IsVbs w A n L := by
  obtain ⟨fuel, hf⟩ := h
  rcases open_slice htt hf with ⟨h1, _⟩ | ⟨a, len, cap, m, k, D, Pl, hcs, hb, hl, hm, hmm, hx, hi⟩
  · replace h1 : [Value.slice A n c] = [.slice none 0 0] := h1
    simp only [List.cons.injEq, Value.slice.injEq, and_true] at h1
    obtain ⟨rfl, rfl, rfl⟩ := h1
    exact ⟨Nat.zero_le _, [], IsVbs.nil _ _⟩
  · replace hcs : [Value.slice A n c] = [.slice (some a) len cap] := hcs
    simp only [List.cons.injEq, Value.slice.injEq, and_true] at hcs
    obtain ⟨rfl, rfl, rfl⟩ := hcs
    have hnm : n ≤ m := by rw [hmm]; split <;> omega
    refine ⟨by omega, ?_⟩
    have hr : ∀ i, ∃ r : Vb, i < n → w.cell? (a.add (i * 2)) = some (.int .i64 r.1) ∧ ∃ u, w.cell? (a.add (i * 2 + 1)) = some u ∧ IsHd w u r.2 := fun i => by
      by_cases hin : i < n
      · obtain ⟨cs', hc, htr⟩ := hi i (by omega)
        obtain ⟨r, u, rfl, hh⟩ := verb_of hff hs hone hC h2 he hone' hint' hC' htr
        rw [hC, hf2] at hc
        obtain ⟨_, _, hat⟩ := World.cells?_some hc
        refine ⟨r, fun _ => ⟨?_, u, ?_, hh⟩⟩
        · have := hat 0 (by omega)
          rw [add_add] at this
          simpa using this
        · have := hat 1 (by omega)
          rw [add_add] at this
          simpa using this
      · exact ⟨(0, []), fun h => absurd h hin⟩
    obtain ⟨f, hf'⟩ := Classical.axiomOfChoice hr
    refine ⟨(List.range n).map f, by simp, fun hn => ?_⟩
    obtain ⟨ab, ao, spot⟩ := a
    have h0 := (hf' 0 hn).1
    have hspot : spot = none := by simpa [Addr.add] using World.cell?_spot h0
    subst hspot
    refine ⟨ab, ao, rfl, ?_, fun i r hr' => ?_⟩
    · rcases Nat.lt_or_ge ab w.heap.size with h' | h'
      · exact h'
      · rw [add_off] at h0; simp [World.cell?, Array.getElem?_eq_none h'] at h0
    · have hin : i < n := by have := (List.getElem?_eq_some_iff.1 hr').1; simpa using this
      have e : f i = r := by simpa [hin] using hr'
      obtain ⟨c0, u, c1, hu⟩ := hf' i hin
      rw [add_off] at c0 c1
      rw [e] at c0 hu
      exact ⟨c0, u, by rw [Nat.add_assoc]; exact c1, hu⟩
end

/-- How much a path counts. -/
def sizeV (L : List Vb) : Nat := L.length + pointsV L L.length
theorem pointsV_mono (L : List Vb) (k : Nat) : ∀ j, pointsV L k ≤ pointsV L (k + j)
  | 0 => Nat.le_refl _
  | j + 1 => by have := pointsV_mono L k j; rw [← Nat.add_assoc]; simp only [pointsV]; omega
theorem pointsV_le' {L : List Vb} {k n : Nat} (h : k ≤ n) : pointsV L k ≤ pointsV L n := by
  have := pointsV_mono L k (n - k)
  rwa [show k + (n - k) = n by omega] at this
theorem verb_small {L : List Vb} {k : Nat} {r : Vb} (h : L[k]? = some r) : r.2.length ≤ pointsV L L.length := by
  have hk : k < L.length := (List.getElem?_eq_some_iff.1 h).1
  have := pointsV_le' (L := L) (k := k + 1) (n := L.length) (by omega)
  simp only [pointsV, vb_at h] at this
  omega

set_option maxHeartbeats 1000000 in
theorem szVerb_eq {kd : Int} {A : Option Addr} {n c : Nat} {left v : Int} (hn : n ≤ 9223372036854775807) (h0 : 0 ≤ left) (h1 : left ≤ 1048576) (hv : (if (n : Int) ≤ left then left - n else -1) = v) (w : World) :
    Calls Try.prog 32 #[.agg #[.int .i64 kd, .slice A n c], .int .i64 left] w fun e w' => e = .returned (.int .i64 v) ∧ Below w.heap.size w w' := by
  by_cases h : (n : Int) ≤ left
  · have hv2 : v = left - n := by rw [← hv, if_pos h]
    have hh : ¬ v < 0 := by omega
    subst hv2
    clear hv
    go_enter Try.func32, Try.ntmps32
    go_wp2_with fail
    refine (szPointS_eq (by omega) h0 h1 _).mono ?_
    rw [if_pos h]
    rintro e w1 ⟨rfl, rfl⟩
    go_wp2
    go_ret
    exact ⟨rfl, by (repeat' (first | (with_reducible exact Below.refl _ _) | (with_reducible assumption) | (with_reducible refine Below.alloc ?_ ?_ _) | (with_reducible refine below_drewN ?_ _) | (with_reducible refine Below.drew ?_) | (with_reducible refine Below.setCell ?_ ?_ _) | (with_reducible refine below_call (by assumption) ?_ ?_) | (with_reducible refine below_grown (by assumption) ?_ ?_ ?_) | omega | (simp; done) | (simp; omega)))⟩
  · have hv2 : v = -1 := by rw [← hv, if_neg h]
    subst hv2
    have hlt : left < (n : Int) := by omega
    clear hv
    go_enter Try.func32, Try.ntmps32
    go_wp2_with fail
    refine (szPointS_big hlt hn h0 h1 _).mono ?_
    rintro e w1 ⟨rfl, rfl⟩
    go_wp2
    go_ret
    exact ⟨rfl, by (repeat' (first | (with_reducible exact Below.refl _ _) | (with_reducible assumption) | (with_reducible refine Below.alloc ?_ ?_ _) | (with_reducible refine below_drewN ?_ _) | (with_reducible refine Below.drew ?_) | (with_reducible refine Below.setCell ?_ ?_ _) | (with_reducible refine below_call (by assumption) ?_ ?_) | (with_reducible refine below_grown (by assumption) ?_ ?_ ?_) | omega | (simp; done) | (simp; omega)))⟩

set_option maxHeartbeats 1000000 in
theorem szVerbS_eq {A : Option Addr} {n c : Nat} {L : List Vb} {w : World} (h : IsVbs w A n L) (hn : n ≤ 9223372036854775807) {v : Int} (hv : (if (sizeV L : Int) ≤ 1048576 then 1048576 - (sizeV L : Int) else -1) = v) :
    Calls Try.prog 15 #[.slice A n c, .int .i64 1048576] w fun e w' => e = .returned (.int .i64 v) ∧ Below w.heap.size w w' := by
  have hl := h.1
  have HP := Lib.hid h
  have HL := Lib.hid hl
  have HV := Lib.hid hv
  have hS : sizeV L = n + pointsV L n := by rw [sizeV, hl]
  have HS := Lib.hid hS
  clear h hl hv hS
  by_cases h0 : 1048576 < n
  · have hv1 : v = -1 := by rw [← HV.out, if_neg (by rw [HS.out]; omega)]
    subst hv1
    have hh : (1048576 : Int) - (n : Int) < 0 := by omega
    go_enter Try.func15, Try.ntmps15
    go_wp2
    go_ret
    exact ⟨rfl, by (repeat' (first | (with_reducible exact Below.refl _ _) | (with_reducible assumption) | (with_reducible refine Below.alloc ?_ ?_ _) | (with_reducible refine below_drewN ?_ _) | (with_reducible refine Below.drew ?_) | (with_reducible refine Below.setCell ?_ ?_ _) | (with_reducible refine below_call (by assumption) ?_ ?_) | (with_reducible refine below_grown (by assumption) ?_ ?_ ?_) | omega | (simp; done) | (simp; omega)))⟩
  · have hh : ¬ (1048576 : Int) - (n : Int) < 0 := by omega
    go_enter Try.func15, Try.ntmps15
    go_wp2
    go_loopw [5, 1] (fun i m wr => ∃ k : Nat, k ≤ n ∧ i = .int .i64 k ∧ m = .int .i64 (1048576 - (n : Int) - (pointsV L k : Int)) ∧ (n : Int) + pointsV L k ≤ 1048576 ∧ Below w.heap.size w wr) (fun i _ _ => n - (intOf i).toNat)
    case atStart => exact ⟨0, by omega, rfl, by simp [pointsV], by simp [pointsV]; omega, by (repeat' (first | (with_reducible exact Below.refl _ _) | (with_reducible assumption) | (with_reducible refine Below.alloc ?_ ?_ _) | (with_reducible refine below_drewN ?_ _) | (with_reducible refine Below.drew ?_) | (with_reducible refine Below.setCell ?_ ?_ _) | (with_reducible refine below_call (by assumption) ?_ ?_) | (with_reducible refine below_grown (by assumption) ?_ ?_ ?_) | omega | (simp; done) | (simp; omega)))⟩
    case round =>
      obtain ⟨k, hk, rfl, rfl, hle, hbel⟩ := hrel
      obtain ⟨wo, rfl⟩ : ∃ wo : World, wo = wr := ⟨_, rfl⟩
      have hso := hbel.size
      by_cases hlt : k < n
      · have eb : decide ((k : Int) < n) = true := by simp; omega
        have hki : (k : Int) < n := by omega
        obtain ⟨b, o, kd, r, B, cr, rfl, hbl, hr, x0, x1, q1, q2, hp⟩ := (HP.out.below hbel).at_ hlt
        obtain ⟨m, hm⟩ : ∃ m, r.length = m := ⟨_, rfl⟩
        obtain ⟨z, hz⟩ : ∃ z, (1048576 - (n : Int) - (pointsV L k : Int)) = z := ⟨_, rfl⟩
        have hst : pointsV L (k + 1) = pointsV L k + m := by simp only [pointsV, vb_at hr, hm]
        have hle2 := pointsV_le' (L := L) (k := k + 1) (n := n) (by omega)
        rw [hm] at x1 q1
        unfold maxLen at q2
        have HR := Lib.hid hst
        have hm15 : m ≤ 9223372036854775807 := by omega
        have hz0 : 0 ≤ z := by omega
        have hz1 : z ≤ 1048576 := by omega
        have hcase : (if (m : Int) ≤ z then z - m else -1) = (if (m : Int) ≤ z then z - m else -1) := rfl
        rw [hz]
        by_cases hc : (m : Int) ≤ z
        · rw [if_pos hc] at hcase
          have hzz : ¬ z - (m : Int) < 0 := by omega
          go_wp2_with fail
          refine (szVerb_eq (v := z - m) hm15 hz0 hz1 (by rw [if_pos hc]) _).mono ?_
          rintro e w1 ⟨rfl, hb1⟩
          have hs1 := hb1.size
          go_wp2
          go_roundw
          case rel => exact ⟨k + 1, by omega, by go_num, by rw [HR.out]; congr 1; omega, by rw [HR.out]; omega, by (repeat' (first | (with_reducible exact Below.refl _ _) | (with_reducible assumption) | (with_reducible refine Below.alloc ?_ ?_ _) | (with_reducible refine below_drewN ?_ _) | (with_reducible refine Below.drew ?_) | (with_reducible refine Below.setCell ?_ ?_ _) | (with_reducible refine below_call (by assumption) ?_ ?_) | (with_reducible refine below_grown (by assumption) ?_ ?_ ?_) | omega | (simp; done) | (simp; omega)))⟩
          case measure => simp [intOf]; omega
        · have hv1 : v = -1 := by rw [← HV.out, if_neg (by rw [HS.out]; omega)]
          subst hv1
          clear hcase
          have hnc : ¬ (m : Int) ≤ z := hc
          have HNC := Lib.hid hnc
          go_wp2_with fail
          refine (szVerb_eq (v := -1) hm15 hz0 hz1 (by rw [if_neg (Int.not_le.2 (by have := HNC.out; omega))]) _).mono ?_
          rintro e w1 ⟨rfl, hb1⟩
          have hs1 := hb1.size
          go_wp2
          go_ret
          exact ⟨rfl, by (repeat' (first | (with_reducible exact Below.refl _ _) | (with_reducible assumption) | (with_reducible refine Below.alloc ?_ ?_ _) | (with_reducible refine below_drewN ?_ _) | (with_reducible refine Below.drew ?_) | (with_reducible refine Below.setCell ?_ ?_ _) | (with_reducible refine below_call (by assumption) ?_ ?_) | (with_reducible refine below_grown (by assumption) ?_ ?_ ?_) | omega | (simp; done) | (simp; omega)))⟩
      · obtain rfl : k = n := by omega
        have eb : decide ((k : Int) < k) = false := by simp
        have hv1 : v = 1048576 - (k : Int) - (pointsV L k : Int) := by rw [← HV.out, HS.out, if_pos (by omega)]; omega
        rw [← hv1]
        go_wp2
        go_ret
        exact ⟨rfl, by (repeat' (first | (with_reducible exact Below.refl _ _) | (with_reducible assumption) | (with_reducible refine Below.alloc ?_ ?_ _) | (with_reducible refine below_drewN ?_ _) | (with_reducible refine Below.drew ?_) | (with_reducible refine Below.setCell ?_ ?_ _) | (with_reducible refine below_call (by assumption) ?_ ?_) | (with_reducible refine below_grown (by assumption) ?_ ?_ ?_) | omega | (simp; done) | (simp; omega)))⟩

set_option maxHeartbeats 1000000 in
theorem eqVerb_same {kd : Int} {A A' : Option Addr} {n : Nat} {l : List Pt} {w : World} (c c' : Nat) (h : IsPts w A n l) (h' : IsPts w A' n l) (hn : n ≤ 1000000000000) :
    Calls Try.prog 37 #[.agg #[.int .i64 kd, .slice A n c], .agg #[.int .i64 kd, .slice A' n c']] w fun e w' => e = .returned (.bool true) ∧ Below w.heap.size w w' := by
  have HP := Lib.hid h
  have HP' := Lib.hid h'
  clear h h'
  go_enter Try.func37, Try.ntmps37
  go_wp2_with fail
  refine (eqPointS_same c c' (HP.out.below (by (repeat' (first | (with_reducible exact Below.refl _ _) | (with_reducible assumption) | (with_reducible refine Below.alloc ?_ ?_ _) | (with_reducible refine below_drewN ?_ _) | (with_reducible refine Below.drew ?_) | (with_reducible refine Below.setCell ?_ ?_ _) | (with_reducible refine below_call (by assumption) ?_ ?_) | (with_reducible refine below_grown (by assumption) ?_ ?_ ?_) | omega | (simp; done) | (simp; omega))))) (HP'.out.below (by (repeat' (first | (with_reducible exact Below.refl _ _) | (with_reducible assumption) | (with_reducible refine Below.alloc ?_ ?_ _) | (with_reducible refine below_drewN ?_ _) | (with_reducible refine Below.drew ?_) | (with_reducible refine Below.setCell ?_ ?_ _) | (with_reducible refine below_call (by assumption) ?_ ?_) | (with_reducible refine below_grown (by assumption) ?_ ?_ ?_) | omega | (simp; done) | (simp; omega))))) hn).mono ?_
  rintro e w1 ⟨rfl, hb⟩
  go_wp2
  go_ret
  exact ⟨rfl, by (repeat' (first | (with_reducible exact Below.refl _ _) | (with_reducible assumption) | (with_reducible refine Below.alloc ?_ ?_ _) | (with_reducible refine below_drewN ?_ _) | (with_reducible refine Below.drew ?_) | (with_reducible refine Below.setCell ?_ ?_ _) | (with_reducible refine below_call (by assumption) ?_ ?_) | (with_reducible refine below_grown (by assumption) ?_ ?_ ?_) | omega | (simp; done) | (simp; omega)))⟩

set_option maxHeartbeats 1000000 in
theorem eqVerbS_same {A A' : Option Addr} {n : Nat} {L : List Vb} {w : World} (c c' : Nat) (h : IsVbs w A n L) (h' : IsVbs w A' n L) (hsz : sizeV L ≤ 1048576) :
    Calls Try.prog 19 #[.slice A n c, .slice A' n c'] w fun e w' => e = .returned (.bool true) ∧ Below w.heap.size w w' := by
  have hS : n + pointsV L L.length ≤ 1048576 := by rw [sizeV, h.1] at hsz; rw [h.1]; exact hsz
  have HP := Lib.hid h
  have HP' := Lib.hid h'
  clear h h' hsz
  go_enter Try.func19, Try.ntmps19
  go_wp2
  go_loopw [5] (fun i wr => ∃ k : Nat, k ≤ n ∧ i = .int .i64 k ∧ Below w.heap.size w wr) (fun i _ => n - (intOf i).toNat)
  case atStart => exact ⟨0, by omega, rfl, by (repeat' (first | (with_reducible exact Below.refl _ _) | (with_reducible assumption) | (with_reducible refine Below.alloc ?_ ?_ _) | (with_reducible refine below_drewN ?_ _) | (with_reducible refine Below.drew ?_) | (with_reducible refine Below.setCell ?_ ?_ _) | (with_reducible refine below_call (by assumption) ?_ ?_) | (with_reducible refine below_grown (by assumption) ?_ ?_ ?_) | omega | (simp; done) | (simp; omega)))⟩
  case round =>
    obtain ⟨k, hk, rfl, hbel⟩ := hrel
    obtain ⟨wo, rfl⟩ : ∃ wo : World, wo = wr := ⟨_, rfl⟩
    have hsz := hbel.size
    by_cases hlt : k < n
    · have eb : decide ((k : Int) < n) = true := by simp; omega
      have hki : (k : Int) < n := by omega
      obtain ⟨b, o, kd, r, B, cr, rfl, hbl, hr, x0, x1, _, _, hp⟩ := (HP.out.below hbel).at_ hlt
      obtain ⟨b', o', kd', r', B', cr', rfl, hbl', hr', x0', x1', _, _, hp'⟩ := (HP'.out.below hbel).at_ hlt
      obtain ⟨rfl, rfl⟩ : kd = kd' ∧ r = r' := by
        rw [hr] at hr'; simp only [Option.some.injEq, Prod.mk.injEq] at hr'; exact hr'
      have hrl : r.length ≤ 1048576 := by have := verb_small hr; simp only at this; omega
      have HQ := Lib.hid hp
      have HQ' := Lib.hid hp'
      clear hp hp' hr hr'
      go_wp2_with fail
      apply wp_region_pure (by kernel_rfl) ([] :: [] :: [0, 1] :: [2] :: [] :: [] :: [4, 5] :: [6] :: [3, 7] :: [8] :: []) (RS.det [] _ :: RS.det [] _ :: RS.det [0, 1] _ :: RS.det [2] _ :: RS.det [] _ :: RS.det [] _ :: RS.det [4, 5] _ :: RS.det [6] _ :: RS.det [3, 7] _ :: RS.det [8] _ :: []) [] rfl (by kernel_rfl) (fun h => absurd rfl h) (by kernel_rfl) (by kernel_rfl) (st_det (st_det (st_det (st_det (st_det (st_det (st_det (st_det (st_det (st_det st_nil)))))))))) _ (fun v => by simp; rfl)
      case hop =>
        simp only [Obls]
        refine ⟨?_, ?_, ?_, ?_, ?_, ?_, ?_, ?_, ?_, ?_, trivial⟩
        · (intro v w1 K hb hF hK; (try simp at hF); simp at hK; (try simp only [hF] at hK); have hz := hb.size; (try simp at hz))
          go_simp
          (try simp only [])
          exact hK _ _ rfl (by (repeat' (first | (with_reducible exact Below.refl _ _) | (with_reducible assumption) | (with_reducible refine Below.alloc ?_ ?_ _) | (with_reducible refine below_drewN ?_ _) | (with_reducible refine Below.drew ?_) | (with_reducible refine Below.setCell ?_ ?_ _) | (with_reducible refine below_call (by assumption) ?_ ?_) | go_size)))
        · (intro v w1 K hb hF hK; (try simp at hF); simp at hK; (try simp only [hF] at hK); have hz := hb.size; (try simp at hz))
          go_simp
          (try simp only [])
          exact hK _ _ rfl (by (repeat' (first | (with_reducible exact Below.refl _ _) | (with_reducible assumption) | (with_reducible refine Below.alloc ?_ ?_ _) | (with_reducible refine below_drewN ?_ _) | (with_reducible refine Below.drew ?_) | (with_reducible refine Below.setCell ?_ ?_ _) | (with_reducible refine below_call (by assumption) ?_ ?_) | go_size)))
        · (intro v w1 K hb hF hK; (try simp at hF); simp at hK; (try simp only [hF] at hK); have hz := hb.size; (try simp at hz))
          go_simp
          (try simp only [])
          exact hK _ _ rfl (by (repeat' (first | (with_reducible exact Below.refl _ _) | (with_reducible assumption) | (with_reducible refine Below.alloc ?_ ?_ _) | (with_reducible refine below_drewN ?_ _) | (with_reducible refine Below.drew ?_) | (with_reducible refine Below.setCell ?_ ?_ _) | (with_reducible refine below_call (by assumption) ?_ ?_) | go_size)))
        · (intro v w1 K hb hF hK; (try simp at hF); simp at hK; (try simp only [hF] at hK); have hz := hb.size; (try simp at hz); (try (have hk := bcl hb (b) (by first | omega | (simp; done) | (simp; omega)); have hc := hk.1; have hf := hk.2.1; have hk := hk.2.2)); (try (have hk := bcl hb (b') (by first | omega | (simp; done) | (simp; omega)); have hc := hk.1; have hf := hk.2.1; have hk := hk.2.2)))
          go_simp
          (try simp only [])
          exact hK _ _ rfl (by (repeat' (first | (with_reducible exact Below.refl _ _) | (with_reducible assumption) | (with_reducible refine Below.alloc ?_ ?_ _) | (with_reducible refine below_drewN ?_ _) | (with_reducible refine Below.drew ?_) | (with_reducible refine Below.setCell ?_ ?_ _) | (with_reducible refine below_call (by assumption) ?_ ?_) | go_size)))
        · (intro v w1 K hb hF hK; (try simp at hF); simp at hK; (try simp only [hF] at hK); have hz := hb.size; (try simp at hz))
          go_simp
          (try simp only [])
          exact hK _ _ rfl (by (repeat' (first | (with_reducible exact Below.refl _ _) | (with_reducible assumption) | (with_reducible refine Below.alloc ?_ ?_ _) | (with_reducible refine below_drewN ?_ _) | (with_reducible refine Below.drew ?_) | (with_reducible refine Below.setCell ?_ ?_ _) | (with_reducible refine below_call (by assumption) ?_ ?_) | go_size)))
        · (intro v w1 K hb hF hK; (try simp at hF); simp at hK; (try simp only [hF] at hK); have hz := hb.size; (try simp at hz))
          go_simp
          (try simp only [])
          exact hK _ _ rfl (by (repeat' (first | (with_reducible exact Below.refl _ _) | (with_reducible assumption) | (with_reducible refine Below.alloc ?_ ?_ _) | (with_reducible refine below_drewN ?_ _) | (with_reducible refine Below.drew ?_) | (with_reducible refine Below.setCell ?_ ?_ _) | (with_reducible refine below_call (by assumption) ?_ ?_) | go_size)))
        · (intro v w1 K hb hF hK; (try simp at hF); simp at hK; (try simp only [hF] at hK); have hz := hb.size; (try simp at hz))
          go_simp
          (try simp only [])
          exact hK _ _ rfl (by (repeat' (first | (with_reducible exact Below.refl _ _) | (with_reducible assumption) | (with_reducible refine Below.alloc ?_ ?_ _) | (with_reducible refine below_drewN ?_ _) | (with_reducible refine Below.drew ?_) | (with_reducible refine Below.setCell ?_ ?_ _) | (with_reducible refine below_call (by assumption) ?_ ?_) | go_size)))
        · (intro v w1 K hb hF hK; (try simp at hF); simp at hK; (try simp only [hF] at hK); have hz := hb.size; (try simp at hz); (try (have hk := bcl hb (b) (by first | omega | (simp; done) | (simp; omega)); have hc := hk.1; have hf := hk.2.1; have hk := hk.2.2)); (try (have hk := bcl hb (b') (by first | omega | (simp; done) | (simp; omega)); have hc := hk.1; have hf := hk.2.1; have hk := hk.2.2)))
          go_simp
          (try simp only [])
          exact hK _ _ rfl (by (repeat' (first | (with_reducible exact Below.refl _ _) | (with_reducible assumption) | (with_reducible refine Below.alloc ?_ ?_ _) | (with_reducible refine below_drewN ?_ _) | (with_reducible refine Below.drew ?_) | (with_reducible refine Below.setCell ?_ ?_ _) | (with_reducible refine below_call (by assumption) ?_ ?_) | go_size)))
        · (intro v w1 K hb hF hK; (try simp at hF); simp at hK; (try simp only [hF] at hK); have hz := hb.size; (try simp at hz); (try (have hk := bcl hb (b) (by first | omega | (simp; done) | (simp; omega)); have hc := hk.1; have hf := hk.2.1; have hk := hk.2.2)); (try (have hk := bcl hb (b') (by first | omega | (simp; done) | (simp; omega)); have hc := hk.1; have hf := hk.2.1; have hk := hk.2.2)))
          go_simp
          (first | (go_at_call 37; (with_reducible refine (eqVerb_same cr cr' (HQ.out.below (by (repeat' (first | (with_reducible exact Below.refl _ _) | (with_reducible assumption) | (with_reducible refine Below.alloc ?_ ?_ _) | (with_reducible refine below_drewN ?_ _) | (with_reducible refine Below.drew ?_) | (with_reducible refine Below.setCell ?_ ?_ _) | (with_reducible refine below_call (by assumption) ?_ ?_) | (with_reducible refine below_grown (by assumption) ?_ ?_ ?_) | omega | (simp; done) | (simp; omega))))) (HQ'.out.below (by (repeat' (first | (with_reducible exact Below.refl _ _) | (with_reducible assumption) | (with_reducible refine Below.alloc ?_ ?_ _) | (with_reducible refine below_drewN ?_ _) | (with_reducible refine Below.drew ?_) | (with_reducible refine Below.setCell ?_ ?_ _) | (with_reducible refine below_call (by assumption) ?_ ?_) | (with_reducible refine below_grown (by assumption) ?_ ?_ ?_) | omega | (simp; done) | (simp; omega))))) (by omega)).mono ?_); rintro e w1 ⟨rfl, hb⟩; have hz := hb.size; (try simp at hz); (try (have hk := bcl hb (b) (by first | omega | (simp; done) | (simp; omega)); have hc := hk.1; have hf := hk.2.1; have hk := hk.2.2)); (try (have hk := bcl hb (b') (by first | omega | (simp; done) | (simp; omega)); have hc := hk.1; have hf := hk.2.1; have hk := hk.2.2))))
          (try simp only [])
          exact hK _ _ rfl (by (repeat' (first | (with_reducible exact Below.refl _ _) | (with_reducible assumption) | (with_reducible refine Below.alloc ?_ ?_ _) | (with_reducible refine below_drewN ?_ _) | (with_reducible refine Below.drew ?_) | (with_reducible refine Below.setCell ?_ ?_ _) | (with_reducible refine below_call (by assumption) ?_ ?_) | go_size)))
        · (intro v w1 K hb hF hK; (try simp at hF); simp at hK; (try simp only [hF] at hK); have hz := hb.size; (try simp at hz))
          go_simp
          (try simp only [])
          exact hK _ _ rfl (by (repeat' (first | (with_reducible exact Below.refl _ _) | (with_reducible assumption) | (with_reducible refine Below.alloc ?_ ?_ _) | (with_reducible refine below_drewN ?_ _) | (with_reducible refine Below.drew ?_) | (with_reducible refine Below.setCell ?_ ?_ _) | (with_reducible refine below_call (by assumption) ?_ ?_) | go_size)))
      case hfo => exact trivial
      (intro v w1 hb hF; simp [List.range, List.range.loop] at hF; have hz := hb.size; (try simp at hz); (try (have hk := bcl hb (b) (by first | omega | (simp; done) | (simp; omega)); have hc := hk.1; have hf := hk.2.1; have hk := hk.2.2)); (try (have hk := bcl hb (b') (by first | omega | (simp; done) | (simp; omega)); have hc := hk.1; have hf := hk.2.1; have hk := hk.2.2)))
      obtain ⟨e0, e1, e2, e3, e4, e5, e6, e7, e8, e9⟩ := hF
      simp only [List.length_cons, List.length_nil, List.drop_succ_cons, List.drop_zero, e0, e1, e2, e3, e4, e5, e6, e7, e8, e9]
      clear e0 e1 e2 e3 e4 e5 e6 e7 e8 e9 v
      go_wp2
      go_roundw
      case rel => exact ⟨k + 1, by omega, by go_num, by (repeat' (first | (with_reducible exact Below.refl _ _) | (with_reducible assumption) | (with_reducible refine Below.alloc ?_ ?_ _) | (with_reducible refine below_drewN ?_ _) | (with_reducible refine Below.drew ?_) | (with_reducible refine Below.setCell ?_ ?_ _) | (with_reducible refine below_call (by assumption) ?_ ?_) | (with_reducible refine below_grown (by assumption) ?_ ?_ ?_) | omega | (simp; done) | (simp; omega)))⟩
      case measure => simp [intOf]; omega
    · obtain rfl : k = n := by omega
      have eb : decide ((k : Int) < k) = false := by simp
      go_wp2
      go_ret
      exact ⟨rfl, by (repeat' (first | (with_reducible exact Below.refl _ _) | (with_reducible assumption) | (with_reducible refine Below.alloc ?_ ?_ _) | (with_reducible refine below_drewN ?_ _) | (with_reducible refine Below.drew ?_) | (with_reducible refine Below.setCell ?_ ?_ _) | (with_reducible refine below_call (by assumption) ?_ ?_) | (with_reducible refine below_grown (by assumption) ?_ ?_ ?_) | omega | (simp; done) | (simp; omega)))⟩

end Go.Proofs.Ytiocgklfkckomaa
