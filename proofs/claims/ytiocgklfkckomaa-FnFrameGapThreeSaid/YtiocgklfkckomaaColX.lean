/-
  What the exact laws do with colors and frames; a frame as an exact law's argument.
-/
import Derived.Test.YtiocgklfkckomaaGap
import Derived.Test.YtiocgklfkckomaaOpen
import Derived.Laws.MakeOwn
namespace Go.Proofs.Ytiocgklfkckomaa
open Go.RowKit Pl Go.ChangeShapes Go.WideShapes Go.ChangeAt Go.Deep

set_option linter.unusedSimpArgs false
set_option linter.unusedVariables false

section
variable {H : Type} {enc : TypeId × Value → H} {P : Program} {w : World} {base : Nat} {spare : Nat → Bool} {held : Bool}
theorem trod_field {t : TypeId} {fs : Array Field} {fuel : Nat} {cs : List Value} {x : DataW H × List MemPlace} (hs : P.underlying t = some (.struct fs)) (hone : oneCellFields P fs = true) (hC : P.cellsOf t = fs.size)
    (h : DataW.trod enc P w base spare held fuel t cs = some x) : cs.length = fs.size ∧ ∀ (i : Nat) (f : Field) (u : Value), fs[i]? = some f → cs[i]? = some u → ∃ n y, DataW.trod enc P w base spare held n f.type [u] = some y := by
  obtain ⟨xs, n, _, _, hl, hlen, hg⟩ := DataW.trod_struct hs h
  rw [hC] at hl
  refine ⟨hl, fun i f u hf hu => ?_⟩
  have hi : i < fs.size := (Array.getElem?_eq_some_iff.1 hf).1
  obtain ⟨o, k⟩ := hone_of hone i _ hf
  have h3 := hg i _ hf
  obtain ⟨h1, hu'⟩ := List.getElem?_eq_some_iff.1 hu
  rw [o, k, List.drop_eq_getElem_cons h1, List.getElem?_eq_getElem (by omega)] at h3
  rw [hu'] at h3
  exact ⟨_, _, h3⟩
def frameFields (P : Program) (fs : Array Field) (e : TypeId) : Bool :=
  match fs.toList.map (fun f => P.underlying f.type) with
  | [some (.int .i64), some (.int .i64), some (.slice e')] => e' == e
  | _ => false
theorem frame_of {t e : TypeId} {fs fs' : Array Field} {r : Reach} {b0 : Nat} {v : Value} {d : DataW H} {p : List MemPlace}
    (hff : frameFields P fs e = true) (hs : P.underlying t = some (.struct fs)) (hone : oneCellFields P fs = true) (hC : P.cellsOf t = fs.size)
    (h4 : fs'.size = 4) (he : P.underlying e = some (.struct fs')) (hone' : oneCellFields P fs' = true) (hint' : intFields P fs' = true) (hC' : P.cellsOf e = fs'.size)
    (hv : Value.okWide P w r b0 t v) (h : DataW.Trod enc P w base spare held t v d p) : ∃ (x y : Int) (A : Option Addr) (n c : Nat), v = .agg #[.int .i64 x, .int .i64 y, .slice A n c] ∧ n ≤ maxLen ∧ ∃ l, IsCs w A n l := by
  obtain ⟨cs, rfl, hsz⟩ := okWide_struct hs hv
  obtain ⟨fuel, hf⟩ := h
  obtain ⟨hl, hfld⟩ := trod_field hs hone hC (cs := cs.toList) hf
  obtain ⟨fl⟩ := fs
  unfold frameFields at hff
  match fl, hff, hl, hfld with
  | [], hff, _, _ => simp at hff
  | [_], hff, _, _ => simp at hff
  | [_, _], hff, _, _ => simp at hff
  | _ :: _ :: _ :: _ :: _, hff, _, _ => simp at hff
  | [f0, f1, f2], hff, hl, hfld =>
    have hu0 : P.underlying f0.type = some (.int .i64) := by
      simp only [List.map_cons, List.map_nil] at hff
      split at hff
      · rename_i heq; simp only [List.cons.injEq] at heq; exact heq.1
      · cases hff
    have hu1 : P.underlying f1.type = some (.int .i64) := by
      simp only [List.map_cons, List.map_nil] at hff
      split at hff
      · rename_i heq; simp only [List.cons.injEq] at heq; exact heq.2.1
      · cases hff
    have hu2 : P.underlying f2.type = some (.slice e) := by
      simp only [List.map_cons, List.map_nil] at hff
      split at hff
      · rename_i e' heq; simp only [List.cons.injEq, and_true] at heq
        have : e' = e := by simpa using hff
        rw [heq.2.2, this]
      · cases hff
    obtain ⟨cl0⟩ := cs
    match cl0, hl, hfld with
    | [], hl, _ => simp at hl
    | [_], hl, _ => simp at hl
    | [_, _], hl, _ => simp at hl
    | _ :: _ :: _ :: _ :: _, hl, _ => simp at hl
    | [a, b, c], hl, hfld =>
      obtain ⟨_, _, t0⟩ := hfld 0 f0 a rfl rfl
      obtain ⟨_, _, t1⟩ := hfld 1 f1 b rfl rfl
      obtain ⟨m2, y2, t2⟩ := hfld 2 f2 c rfl rfl
      obtain ⟨x, hx, _⟩ := DataW.trod_int hu0 t0
      obtain ⟨y, hy, _⟩ := DataW.trod_int hu1 t1
      simp only [List.cons.injEq, and_true] at hx hy
      subst hx; subst hy
      have key : ∀ A n c', [c] = [Value.slice A n c'] → ∃ (A : Option Addr) (n c' : Nat), c = .slice A n c' ∧ n ≤ maxLen ∧ ∃ l, IsCs w A n l := fun A n c' ec => by
        simp only [List.cons.injEq, and_true] at ec
        subst ec
        obtain ⟨q1, q2, z, hz⟩ := slice_nums (A := A) (n := n) (c := c') hu2 he hone' hint' hC' (by omega) t2
        refine ⟨A, n, c', rfl, by omega, (List.range n).map (fun i => (z i 0, z i 1, z i 2, z i 3)), by simp, fun hn => ?_⟩
        obtain ⟨bb, o, eA, hb, hc⟩ := hz hn
        refine ⟨bb, o, eA, hb, fun k hk => ?_⟩
        have c0 := hc k hk 0 (by omega)
        have c1 := hc k hk 1 (by omega)
        have c2 := hc k hk 2 (by omega)
        have c3 := hc k hk 3 (by omega)
        rw [h4] at c0 c1 c2 c3
        have hcl : cl ((List.range n).map (fun i => (z i 0, z i 1, z i 2, z i 3))) k = (z k 0, z k 1, z k 2, z k 3) := by simp [cl, hk]
        rw [hcl]
        exact ⟨c0, c1, c2, c3⟩
      rcases open_slice hu2 t2 with ⟨h1, _⟩ | ⟨ad, len, cap, m, k, D, Pl', hcs, _⟩
      · obtain ⟨A, n, c', rfl, hm, hl'⟩ := key _ _ _ h1
        exact ⟨x, y, A, n, c', rfl, hm, hl'⟩
      · obtain ⟨A, n, c', rfl, hm, hl'⟩ := key _ _ _ hcs
        exact ⟨x, y, A, n, c', rfl, hm, hl'⟩
end

set_option maxHeartbeats 400000 in
theorem szColorS_eq {A : Option Addr} {n c : Nat} {left v : Int} (hn : n ≤ 9223372036854775807) (h0 : 0 ≤ left) (h1 : left ≤ 1048576) (hv : (if (n : Int) ≤ left then left - n else -1) = v) (w : World) :
    Calls Try.prog 20 #[.slice A n c, .int .i64 left] w fun e w' => e = .returned (.int .i64 v) ∧ w = w' := by
  subst hv
  by_cases h : (n : Int) ≤ left
  · have hh : ¬ left - (n : Int) < 0 := by omega
    go_enter Try.func20, Try.ntmps20
    go_wp2
    go_ret
    exact ⟨by simp [h], rfl⟩
  · have hh : left - (n : Int) < 0 := by omega
    go_enter Try.func20, Try.ntmps20
    go_wp2
    go_ret
    exact ⟨by simp [h]; try omega, rfl⟩

set_option maxHeartbeats 400000 in
theorem szFrame_eq {x y : Int} {A : Option Addr} {n c : Nat} {left v : Int} (hn : n ≤ 9223372036854775807) (h0 : 0 ≤ left) (h1 : left ≤ 1048576) (hv : (if (n : Int) ≤ left then left - n else -1) = v) (w : World) :
    Calls Try.prog 7 #[.agg #[.int .i64 x, .int .i64 y, .slice A n c], .int .i64 left] w fun e w' => e = .returned (.int .i64 v) ∧ Below w.heap.size w w' := by
  have HV := Lib.hid hv
  by_cases h : (n : Int) ≤ left
  · have hv2 : v = left - n := by rw [← hv, if_pos h]
    have hh : ¬ v < 0 := by omega
    clear hv hv2
    go_enter Try.func7, Try.ntmps7
    go_wp2_with fail
    refine (szColorS_eq hn h0 h1 HV.out _).mono ?_
    rintro e w1 ⟨rfl, rfl⟩
    go_wp2
    go_ret
    exact ⟨rfl, by (repeat' (first | (with_reducible exact Below.refl _ _) | (with_reducible assumption) | (with_reducible refine Below.alloc ?_ ?_ _) | (with_reducible refine below_drewN ?_ _) | (with_reducible refine Below.drew ?_) | (with_reducible refine Below.setCell ?_ ?_ _) | (with_reducible refine below_call (by assumption) ?_ ?_) | (with_reducible refine below_grown (by assumption) ?_ ?_ ?_) | omega | (simp; done) | (simp; omega)))⟩
  · have hv2 : v = -1 := by rw [← hv, if_neg h]
    subst hv2
    clear hv
    go_enter Try.func7, Try.ntmps7
    go_wp2_with fail
    refine (szColorS_eq hn h0 h1 HV.out _).mono ?_
    rintro e w1 ⟨rfl, rfl⟩
    go_wp2
    go_ret
    exact ⟨rfl, by (repeat' (first | (with_reducible exact Below.refl _ _) | (with_reducible assumption) | (with_reducible refine Below.alloc ?_ ?_ _) | (with_reducible refine below_drewN ?_ _) | (with_reducible refine Below.drew ?_) | (with_reducible refine Below.setCell ?_ ?_ _) | (with_reducible refine below_call (by assumption) ?_ ?_) | (with_reducible refine below_grown (by assumption) ?_ ?_ ?_) | omega | (simp; done) | (simp; omega)))⟩

set_option maxHeartbeats 400000 in
theorem toColor_eq (r g u a : Int) (w : World) : Calls Try.prog 40 #[.agg #[.int .i64 r, .int .i64 g, .int .i64 u, .int .i64 a]] w fun e w' => e = .returned (.agg #[.int .i64 r, .int .i64 g, .int .i64 u, .int .i64 a]) ∧ Below w.heap.size w w' := by
  go_enter Try.func40, Try.ntmps40
  go_wp2
  ((try simp only [Exit.inBlock, Exit.then]); refine bodyPost_ret (by simp [results, Try.results40, go_sem, *]; try rfl) rfl ?_)
  exact ⟨rfl, by (repeat' (first | (with_reducible exact Below.refl _ _) | (with_reducible assumption) | (with_reducible refine Below.alloc ?_ ?_ _) | (with_reducible refine below_drewN ?_ _) | (with_reducible refine Below.drew ?_) | (with_reducible refine Below.setCell ?_ ?_ _) | (with_reducible refine below_call (by assumption) ?_ ?_) | go_size))⟩

set_option maxHeartbeats 400000 in
theorem eqColor_same (r g u a : Int) (w : World) : Calls Try.prog 44 #[.agg #[.int .i64 r, .int .i64 g, .int .i64 u, .int .i64 a], .agg #[.int .i64 r, .int .i64 g, .int .i64 u, .int .i64 a]] w fun e w' => e = .returned (.bool true) ∧ Below w.heap.size w w' := by
  go_enter Try.func44, Try.ntmps44
  go_wp2
  go_ret
  exact ⟨rfl, by (repeat' (first | (with_reducible exact Below.refl _ _) | (with_reducible assumption) | (with_reducible refine Below.alloc ?_ ?_ _) | (with_reducible refine below_drewN ?_ _) | (with_reducible refine Below.drew ?_) | (with_reducible refine Below.setCell ?_ ?_ _) | (with_reducible refine below_call (by assumption) ?_ ?_) | go_size))⟩

set_option maxHeartbeats 1000000 in
theorem eqColorS_same {A A' : Option Addr} {n : Nat} {l : List Cl} {w : World} (c c' : Nat) (h : IsCs w A n l) (h' : IsCs w A' n l) (hn : n ≤ 1000000000000) :
    Calls Try.prog 25 #[.slice A n c, .slice A' n c'] w fun e w' => e = .returned (.bool true) ∧ Below w.heap.size w w' := by
  have HP := Lib.hid h
  have HP' := Lib.hid h'
  clear h h'
  go_enter Try.func25, Try.ntmps25
  go_wp2
  go_loopw [5] (fun i wr => ∃ k : Nat, k ≤ n ∧ i = .int .i64 k ∧ Below w.heap.size w wr) (fun i _ => n - (intOf i).toNat)
  case atStart => exact ⟨0, by omega, rfl, by (repeat' (first | (with_reducible exact Below.refl _ _) | (with_reducible assumption) | (with_reducible refine Below.alloc ?_ ?_ _) | (with_reducible refine below_drewN ?_ _) | (with_reducible refine Below.drew ?_) | (with_reducible refine Below.setCell ?_ ?_ _) | (with_reducible refine below_call (by assumption) ?_ ?_) | (with_reducible refine below_grown (by assumption) ?_ ?_ ?_) | omega | (simp; done) | (simp; omega)))⟩
  case round =>
    obtain ⟨k, hk, rfl, hbel⟩ := hrel
    have hsz := hbel.size
    by_cases hlt : k < n
    · have eb : decide ((k : Int) < n) = true := by simp; omega
      have hki : (k : Int) < n := by omega
      obtain ⟨b, o, r, g, u, a, rfl, hbl, hcl, c0, c1, c2, c3⟩ := (HP.out.below hbel).at_ hlt
      obtain ⟨b', o', r', g', u', a', rfl, hbl', hcl', c0', c1', c2', c3'⟩ := (HP'.out.below hbel).at_ hlt
      obtain ⟨rfl, rfl, rfl, rfl⟩ : r = r' ∧ g = g' ∧ u = u' ∧ a = a' := by
        have := hcl.symm.trans hcl'
        simp only [Prod.mk.injEq] at this; exact this
      clear hcl hcl'
      go_wp2_with fail
      apply wp_region_pure (by kernel_rfl) ([] :: [] :: [0, 1] :: [2] :: [] :: [] :: [4, 5] :: [6] :: [3, 7] :: [8] :: []) (RS.det [] _ :: RS.det [] _ :: RS.det [0, 1] _ :: RS.det [2] _ :: RS.det [] _ :: RS.det [] _ :: RS.det [4, 5] _ :: RS.det [6] _ :: RS.det [3, 7] _ :: RS.det [8] _ :: []) [] rfl (by kernel_rfl) (fun h => absurd rfl h) (by kernel_rfl) (by kernel_rfl) (st_det (st_det (st_det (st_det (st_det (st_det (st_det (st_det (st_det (st_det st_nil)))))))))) _ (fun v => by simp; rfl)
      case hop =>
        simp only [Obls]
        refine ⟨?_, ?_, ?_, ?_, ?_, ?_, ?_, ?_, ?_, ?_, trivial⟩
        · (intro v w1 K hb hF hK; (try simp at hF); simp at hK; (try simp only [hF] at hK); have hz := hb.size; (try simp at hz))
          go_simp
          (try simp only [])
          exact hK _ _ rfl (by (repeat' (first | (with_reducible exact Below.refl _ _) | (with_reducible assumption) | (with_reducible refine Below.alloc ?_ ?_ _) | (with_reducible refine below_drewN ?_ _) | (with_reducible refine Below.drew ?_) | (with_reducible refine Below.setCell ?_ ?_ _) | (with_reducible refine below_call (by assumption) ?_ ?_) | go_size)))
        · (intro v w1 K hb hF hK; (try simp at hF); simp at hK; (try simp only [hF] at hK); have hz := hb.size; (try simp at hz))
          go_simp
          (try simp only [])
          exact hK _ _ rfl (by (repeat' (first | (with_reducible exact Below.refl _ _) | (with_reducible assumption) | (with_reducible refine Below.alloc ?_ ?_ _) | (with_reducible refine below_drewN ?_ _) | (with_reducible refine Below.drew ?_) | (with_reducible refine Below.setCell ?_ ?_ _) | (with_reducible refine below_call (by assumption) ?_ ?_) | go_size)))
        · (intro v w1 K hb hF hK; (try simp at hF); simp at hK; (try simp only [hF] at hK); have hz := hb.size; (try simp at hz))
          go_simp
          (try simp only [])
          exact hK _ _ rfl (by (repeat' (first | (with_reducible exact Below.refl _ _) | (with_reducible assumption) | (with_reducible refine Below.alloc ?_ ?_ _) | (with_reducible refine below_drewN ?_ _) | (with_reducible refine Below.drew ?_) | (with_reducible refine Below.setCell ?_ ?_ _) | (with_reducible refine below_call (by assumption) ?_ ?_) | go_size)))
        · (intro v w1 K hb hF hK; (try simp at hF); simp at hK; (try simp only [hF] at hK); have hz := hb.size; (try simp at hz); (try (have hk := bcl hb (b) (by first | omega | (simp; done) | (simp; omega)); have hc := hk.1; have hf := hk.2.1; have hk := hk.2.2)); (try (have hk := bcl hb (b') (by first | omega | (simp; done) | (simp; omega)); have hc := hk.1; have hf := hk.2.1; have hk := hk.2.2)))
          go_simp
          (try simp only [])
          exact hK _ _ rfl (by (repeat' (first | (with_reducible exact Below.refl _ _) | (with_reducible assumption) | (with_reducible refine Below.alloc ?_ ?_ _) | (with_reducible refine below_drewN ?_ _) | (with_reducible refine Below.drew ?_) | (with_reducible refine Below.setCell ?_ ?_ _) | (with_reducible refine below_call (by assumption) ?_ ?_) | go_size)))
        · (intro v w1 K hb hF hK; (try simp at hF); simp at hK; (try simp only [hF] at hK); have hz := hb.size; (try simp at hz))
          go_simp
          (try simp only [])
          exact hK _ _ rfl (by (repeat' (first | (with_reducible exact Below.refl _ _) | (with_reducible assumption) | (with_reducible refine Below.alloc ?_ ?_ _) | (with_reducible refine below_drewN ?_ _) | (with_reducible refine Below.drew ?_) | (with_reducible refine Below.setCell ?_ ?_ _) | (with_reducible refine below_call (by assumption) ?_ ?_) | go_size)))
        · (intro v w1 K hb hF hK; (try simp at hF); simp at hK; (try simp only [hF] at hK); have hz := hb.size; (try simp at hz))
          go_simp
          (try simp only [])
          exact hK _ _ rfl (by (repeat' (first | (with_reducible exact Below.refl _ _) | (with_reducible assumption) | (with_reducible refine Below.alloc ?_ ?_ _) | (with_reducible refine below_drewN ?_ _) | (with_reducible refine Below.drew ?_) | (with_reducible refine Below.setCell ?_ ?_ _) | (with_reducible refine below_call (by assumption) ?_ ?_) | go_size)))
        · (intro v w1 K hb hF hK; (try simp at hF); simp at hK; (try simp only [hF] at hK); have hz := hb.size; (try simp at hz))
          go_simp
          (try simp only [])
          exact hK _ _ rfl (by (repeat' (first | (with_reducible exact Below.refl _ _) | (with_reducible assumption) | (with_reducible refine Below.alloc ?_ ?_ _) | (with_reducible refine below_drewN ?_ _) | (with_reducible refine Below.drew ?_) | (with_reducible refine Below.setCell ?_ ?_ _) | (with_reducible refine below_call (by assumption) ?_ ?_) | go_size)))
        · (intro v w1 K hb hF hK; (try simp at hF); simp at hK; (try simp only [hF] at hK); have hz := hb.size; (try simp at hz); (try (have hk := bcl hb (b) (by first | omega | (simp; done) | (simp; omega)); have hc := hk.1; have hf := hk.2.1; have hk := hk.2.2)); (try (have hk := bcl hb (b') (by first | omega | (simp; done) | (simp; omega)); have hc := hk.1; have hf := hk.2.1; have hk := hk.2.2)))
          go_simp
          (try simp only [])
          exact hK _ _ rfl (by (repeat' (first | (with_reducible exact Below.refl _ _) | (with_reducible assumption) | (with_reducible refine Below.alloc ?_ ?_ _) | (with_reducible refine below_drewN ?_ _) | (with_reducible refine Below.drew ?_) | (with_reducible refine Below.setCell ?_ ?_ _) | (with_reducible refine below_call (by assumption) ?_ ?_) | go_size)))
        · (intro v w1 K hb hF hK; (try simp at hF); simp at hK; (try simp only [hF] at hK); have hz := hb.size; (try simp at hz); (try (have hk := bcl hb (b) (by first | omega | (simp; done) | (simp; omega)); have hc := hk.1; have hf := hk.2.1; have hk := hk.2.2)); (try (have hk := bcl hb (b') (by first | omega | (simp; done) | (simp; omega)); have hc := hk.1; have hf := hk.2.1; have hk := hk.2.2)))
          go_simp
          (first | (go_at_call 44; (with_reducible refine (eqColor_same _ _ _ _ _).mono ?_); rintro e w1 ⟨rfl, hb⟩; have hz := hb.size; (try simp at hz); (try (have hk := bcl hb (b) (by first | omega | (simp; done) | (simp; omega)); have hc := hk.1; have hf := hk.2.1; have hk := hk.2.2)); (try (have hk := bcl hb (b') (by first | omega | (simp; done) | (simp; omega)); have hc := hk.1; have hf := hk.2.1; have hk := hk.2.2))))
          (try simp only [])
          exact hK _ _ rfl (by (repeat' (first | (with_reducible exact Below.refl _ _) | (with_reducible assumption) | (with_reducible refine Below.alloc ?_ ?_ _) | (with_reducible refine below_drewN ?_ _) | (with_reducible refine Below.drew ?_) | (with_reducible refine Below.setCell ?_ ?_ _) | (with_reducible refine below_call (by assumption) ?_ ?_) | go_size)))
        · (intro v w1 K hb hF hK; (try simp at hF); simp at hK; (try simp only [hF] at hK); have hz := hb.size; (try simp at hz))
          go_simp
          (try simp only [])
          exact hK _ _ rfl (by (repeat' (first | (with_reducible exact Below.refl _ _) | (with_reducible assumption) | (with_reducible refine Below.alloc ?_ ?_ _) | (with_reducible refine below_drewN ?_ _) | (with_reducible refine Below.drew ?_) | (with_reducible refine Below.setCell ?_ ?_ _) | (with_reducible refine below_call (by assumption) ?_ ?_) | go_size)))
      case hfo => exact trivial
      (intro v w1 hb hF; simp [List.range, List.range.loop] at hF; have hz := hb.size; (try simp at hz); (try (have hk := bcl hb (b) (by first | omega | (simp; done) | (simp; omega)); have hc := hk.1; have hf := hk.2.1; have hk := hk.2.2)); (try (have hk := bcl hb (b') (by first | omega | (simp; done) | (simp; omega)); have hc := hk.1; have hf := hk.2.1; have hk := hk.2.2)))
      obtain ⟨e0, e1, e2, e3, e4, e5, e6, e7, e8, e9⟩ := hF
      simp only [List.length_cons, List.length_nil, List.drop_succ_cons, List.drop_zero, e0, e1, e2, e3, e4, e5, e6, e7, e8, e9]
      clear e0 e1 e2 e3 e4 e5 e6 e7 e8 e9 v
      go_wp2
      go_roundw
      case rel => exact ⟨k + 1, by omega, by go_num, by (repeat' (first | (with_reducible exact Below.refl _ _) | (with_reducible assumption) | (with_reducible refine Below.alloc ?_ ?_ _) | (with_reducible refine below_drewN ?_ _) | (with_reducible refine Below.drew ?_) | (with_reducible refine Below.setCell ?_ ?_ _) | (with_reducible refine below_call (by assumption) ?_ ?_) | (with_reducible refine below_grown (by assumption) ?_ ?_ ?_) | omega | (simp; done) | (simp; omega)))⟩
      case measure => simp [intOf]; omega
    · obtain rfl : k = n := by omega
      have eb : decide ((k : Int) < k) = false := by simp
      go_wp2
      go_ret
      exact ⟨rfl, by (repeat' (first | (with_reducible exact Below.refl _ _) | (with_reducible assumption) | (with_reducible refine Below.alloc ?_ ?_ _) | (with_reducible refine below_drewN ?_ _) | (with_reducible refine Below.drew ?_) | (with_reducible refine Below.setCell ?_ ?_ _) | (with_reducible refine below_call (by assumption) ?_ ?_) | (with_reducible refine below_grown (by assumption) ?_ ?_ ?_) | omega | (simp; done) | (simp; omega)))⟩

/-- Cell by cell: the first k colors are there. -/
def HasC (cur : Array Value) (l : List Cl) (k : Nat) : Prop := cur.size = l.length * 4 ∧ ∀ i, i < k → cur[i * 4]? = some (.int .i64 (cl l i).1) ∧ cur[i * 4 + 1]? = some (.int .i64 (cl l i).2.1) ∧ cur[i * 4 + 2]? = some (.int .i64 (cl l i).2.2.1) ∧ cur[i * 4 + 3]? = some (.int .i64 (cl l i).2.2.2)
theorem HasC.step {cur : Array Value} {l : List Cl} {k : Nat} {r g u a : Int} (h : HasC cur l k) (hk : k < l.length) (hcl : cl l k = (r, g, u, a)) :
    HasC ((((cur.setIfInBounds (k * 4) (.int .i64 r)).setIfInBounds (k * 4 + 1) (.int .i64 g)).setIfInBounds (k * 4 + 2) (.int .i64 u)).setIfInBounds (k * 4 + 3) (.int .i64 a)) l (k + 1) := by
  have h1 := h.1
  refine ⟨by simpa using h.1, fun i hi => ?_⟩
  by_cases e : i = k
  · subst e
    rw [hcl]
    simp only [Array.getElem?_setIfInBounds, Array.size_setIfInBounds]
    refine ⟨?_, ?_, ?_, ?_⟩ <;> simp <;> omega
  · obtain ⟨c0, c1, c2, c3⟩ := h.2 i (by omega)
    simp only [Array.getElem?_setIfInBounds, Array.size_setIfInBounds]
    refine ⟨?_, ?_, ?_, ?_⟩
    · rw [if_neg (by omega), if_neg (by omega), if_neg (by omega), if_neg (by omega)]; exact c0
    · rw [if_neg (by omega), if_neg (by omega), if_neg (by omega), if_neg (by omega)]; exact c1
    · rw [if_neg (by omega), if_neg (by omega), if_neg (by omega), if_neg (by omega)]; exact c2
    · rw [if_neg (by omega), if_neg (by omega), if_neg (by omega), if_neg (by omega)]; exact c3
theorem HasC.done {g : Nat} {cur : Array Value} {l : List Cl} {w : World} {T : TypeId} (h : HasC cur l l.length) (hg : w.heap[g]? = some (.cells cur T (0, 0))) : IsCs w (some ⟨g, 0, none⟩) l.length l :=
  ⟨rfl, fun _ => ⟨g, 0, rfl, blk_lt hg, fun i hi => by
    obtain ⟨c0, c1, c2, c3⟩ := h.2 i hi
    simp only [blk_cell hg, Nat.zero_add]
    exact ⟨c0, c1, c2, c3⟩⟩⟩
theorem color_info : (Try.prog.info? 49).map (fun i => (i.zero, i.size, i.bytes)) = some (some (.agg #[.int .i64 0, .int .i64 0, .int .i64 0, .int .i64 0]), 4, 32) := by kernel_rfl
theorem make_cs (n : Nat) (hn : n ≤ 1048576) : ∃ Z : Array Value, Z.size = n * 4 ∧ ∀ w : World, (Instr.makeSlice 27 (.int .i64 (n : Int)) (.int .i64 (n : Int))).run Try.prog w = .ok (.slice (some ⟨w.heap.size, 0, none⟩) n n) (w.alloc (.cells Z 49)) := by
  obtain ⟨i0, hi0, hz0, hz1, hz2⟩ := info_parts color_info
  refine ⟨madeCells (Value.agg #[.int .i64 0, .int .i64 0, .int .i64 0, .int .i64 0]).cells (n * 4), size_madeCells _ _, fun w => ?_⟩
  have h := run_make (P := Try.prog) w 27 49 i0 _ Try.underlying27 hi0 hz0 .i64 .i64 n n (by omega) (Int.le_refl _) (by rw [hz2]; omega) (by omega)
  rw [hz1] at h
  simpa using h
def RetCs (l : List Cl) (w : World) (e : Ending) (w' : World) : Prop := ∃ A c, e = .returned (.slice A l.length c) ∧ IsCs w' A l.length l ∧ (∀ a, A = some a → w.heap.size ≤ a.block) ∧ Below w.heap.size w w'
theorem IsCs.far {w : World} {A : Option Addr} {n : Nat} {l : List Cl} (h : IsCs w A n l) {p : Addr} (u : Value) (hne : ∀ a, A = some a → a.block ≠ p.block) : IsCs (w.setCell p u) A n l :=
  ⟨h.1, fun hn => by
    obtain ⟨b, o, e, hl, hc⟩ := h.2 hn
    have hb : ∀ i, (w.setCell p u).cell? ⟨b, i, none⟩ = w.cell? ⟨b, i, none⟩ := fun i => World.cell?_of_block (a := ⟨b, i, none⟩) (RowKit.Below.heap_setCell w p u b (hne _ e))
    refine ⟨b, o, e, by simpa using hl, fun i hi => ?_⟩
    simp only [hb]
    exact hc i hi⟩

set_option maxHeartbeats 1000000 in
theorem toColorS_any {A : Option Addr} {n : Nat} {l : List Cl} {w : World} (c : Nat) (h : IsCs w A n l) (hn : n ≤ 1048576) :
    Calls Try.prog 23 #[.slice A n c] w (RetCs l w) := by
  have HP := Lib.hid h
  have HL := Lib.hid h.1
  obtain ⟨Z, hZ, hmk⟩ := make_cs n hn
  have HZ := Lib.hid hZ
  clear h hZ
  go_enter Try.func23, Try.ntmps23
  go_wp2
  clear hmk
  go_loopw [4] (fun i wr => ∃ (k : Nat) (cur : Array Value), k ≤ n ∧ i = .int .i64 k ∧ wr.heap[w.heap.size]? = some (.cells cur 49 (0, 0)) ∧ HasC cur l k ∧ Below w.heap.size w wr) (fun i _ => n - (intOf i).toNat)
  case atStart => exact ⟨0, Z, by omega, rfl, blk_new w _, ⟨by rw [HZ.out, HL.out], fun i hi => absurd hi (Nat.not_lt_zero i)⟩, by (repeat' (first | (with_reducible exact Below.refl _ _) | (with_reducible assumption) | (with_reducible refine Below.alloc ?_ ?_ _) | (with_reducible refine below_drewN ?_ _) | (with_reducible refine Below.drew ?_) | (with_reducible refine Below.setCell ?_ ?_ _) | (with_reducible refine below_call (by assumption) ?_ ?_) | (with_reducible refine below_grown (by assumption) ?_ ?_ ?_) | omega | (simp; done) | (simp; omega)))⟩
  case round =>
    obtain ⟨k, cur, hk, rfl, hb1, hm, hbel⟩ := hrel
    have hsz := hbel.size
    have hl1 := blk_lt hb1
    have hc1 := blk_cell hb1
    have hf1 := blk_free hb1
    have HB := Lib.hid hb1
    have HM := Lib.hid hm
    have hcs : Hid (cur.size = n * 4) := Lib.hid (by rw [hm.1, HL.out])
    clear hb1 hm
    by_cases hlt : k < n
    · have eb : decide ((k : Int) < n) = true := by simp; omega
      have hki : (k : Int) < n := by omega
      obtain ⟨b, o, r, g, u, a, rfl, hbl, hcl, d0, d1, d2, d3⟩ := (HP.out.below hbel).at_ hlt
      have c0 : ∃ u, wr.cell? ⟨w.heap.size, k * 4, none⟩ = some u := ⟨_, (hc1 _).trans (Array.getElem?_eq_getElem (by have := hcs.out; omega))⟩
      have c1 : ∃ u, wr.cell? ⟨w.heap.size, k * 4 + 1, none⟩ = some u := ⟨_, (hc1 _).trans (Array.getElem?_eq_getElem (by have := hcs.out; omega))⟩
      have c2 : ∃ u, wr.cell? ⟨w.heap.size, k * 4 + 2, none⟩ = some u := ⟨_, (hc1 _).trans (Array.getElem?_eq_getElem (by have := hcs.out; omega))⟩
      have c3 : ∃ u, wr.cell? ⟨w.heap.size, k * 4 + 3, none⟩ = some u := ⟨_, (hc1 _).trans (Array.getElem?_eq_getElem (by have := hcs.out; omega))⟩
      obtain ⟨u0, c0⟩ := c0
      obtain ⟨u1, c1⟩ := c1
      obtain ⟨u2, c2⟩ := c2
      obtain ⟨u3, c3⟩ := c3
      have HC := Lib.hid hcl
      clear hc1 hcl
      go_wp2_with ((go_at_call 40; (with_reducible refine (toColor_eq _ _ _ _ _).mono ?_); rintro e w1 ⟨rfl, hb⟩; have hz := hb.size; (try simp at hz); (try (have hk := bcl hb (w.heap.size) (by first | omega | (simp; done) | (simp; omega)); have hc := hk.1; have hf := hk.2.1; have hk := hk.2.2)); (try (have hk := bcl hb (b) (by first | omega | (simp; done) | (simp; omega)); have hc := hk.1; have hf := hk.2.1; have hk := hk.2.2))))
      go_roundw
      case rel => exact ⟨k + 1, _, by omega, by go_num, blk_set (blk_set (blk_set (blk_set (blk_below HB.out hb) _ _) _ _) _ _) _ _, HM.out.step (by rw [HL.out]; exact hlt) HC.out, by (repeat' (first | (with_reducible exact Below.refl _ _) | (with_reducible assumption) | (with_reducible refine Below.alloc ?_ ?_ _) | (with_reducible refine below_drewN ?_ _) | (with_reducible refine Below.drew ?_) | (with_reducible refine Below.setCell ?_ ?_ _) | (with_reducible refine below_call (by assumption) ?_ ?_) | (with_reducible refine below_grown (by assumption) ?_ ?_ ?_) | omega | (simp; done) | (simp; omega)))⟩
      case measure => simp [intOf]; omega
    · obtain rfl : k = n := by omega
      have eb : decide ((k : Int) < k) = false := by simp
      have HD := Lib.hid (by have := HM.out; rw [← HL.out] at this; exact this.done HB.out)
      go_wp2
      go_ret
      exact ⟨some ⟨w.heap.size, 0, none⟩, k, by rw [HL.out]; rfl, HD.out, fun a e => (by cases e; exact Nat.le_refl _), by (repeat' (first | (with_reducible exact Below.refl _ _) | (with_reducible assumption) | (with_reducible refine Below.alloc ?_ ?_ _) | (with_reducible refine below_drewN ?_ _) | (with_reducible refine Below.drew ?_) | (with_reducible refine Below.setCell ?_ ?_ _) | (with_reducible refine below_call (by assumption) ?_ ?_) | (with_reducible refine below_grown (by assumption) ?_ ?_ ?_) | omega | (simp; done) | (simp; omega)))⟩

/-- A frame in memory. -/
def FrV (x y : Int) (l : List Cl) (v : Value) (w : World) : Prop := ∃ A c, v = .agg #[.int .i64 x, .int .i64 y, .slice A l.length c] ∧ IsCs w A l.length l
theorem FrV.below {x y : Int} {l : List Cl} {v : Value} {w w' : World} (hR : Ext w w') (h : FrV x y l v w) : FrV x y l v w' := by
  obtain ⟨A, c, e, h⟩ := h; exact ⟨A, c, e, h.below hR⟩

set_option maxHeartbeats 1000000 in
theorem toFrame_any {A : Option Addr} {n : Nat} {l : List Cl} {x y : Int} {w : World} (c : Nat) (h : IsCs w A n l) (hn : n ≤ 1048576) :
    Calls Try.prog 9 #[.agg #[.int .i64 x, .int .i64 y, .slice A n c]] w fun e w' => ∃ A' c', e = .returned (.agg #[.int .i64 x, .int .i64 y, .slice A' n c']) ∧ IsCs w' A' n l ∧ Below w.heap.size w w' := by
  have HP := Lib.hid h
  have HL := Lib.hid h.1
  clear h
  go_enter Try.func9, Try.ntmps9
  go_wp2_with fail
  refine (toColorS_any c (HP.out.below (by (repeat' (first | (with_reducible exact Below.refl _ _) | (with_reducible assumption) | (with_reducible refine Below.alloc ?_ ?_ _) | (with_reducible refine below_drewN ?_ _) | (with_reducible refine Below.drew ?_) | (with_reducible refine Below.setCell ?_ ?_ _) | (with_reducible refine below_call (by assumption) ?_ ?_) | (with_reducible refine below_grown (by assumption) ?_ ?_ ?_) | omega | (simp; done) | (simp; omega))))) hn).mono ?_
  rintro e w1 ⟨A1, c1, rfl, hq, hA, hb1⟩
  have hz1 := hb1.size
  simp at hz1
  rw [HL.out] at hq ⊢
  have hk2 := blk_below (blk_alloc (blk_new1 w (.cells #[.int .i64 x, .int .i64 y, .slice A n c] 24) (.cells #[.int .i64 0, .int .i64 0, .slice none 0 0] 29)) (.cells #[.int .i64 x, .int .i64 y, .slice none 0 0] 29)) hb1
  have hk3 := blk_below (blk_new2 w (.cells #[.int .i64 x, .int .i64 y, .slice A n c] 24) (.cells #[.int .i64 0, .int .i64 0, .slice none 0 0] 29) (.cells #[.int .i64 x, .int .i64 y, .slice none 0 0] 29)) hb1
  have hc2 := blk_cell hk2
  have hf2 := blk_free hk2
  have hl2 := blk_lt hk2
  have hc3 := blk_cell hk3
  have hf3 := blk_free hk3
  have hl3 := blk_lt hk3
  have HQ := Lib.hid hq
  have HA := Lib.hid hA
  clear hq hA hk2 hk3
  go_wp2
  ((try simp only [Exit.inBlock, Exit.then]); refine bodyPost_ret (by simp [results, Try.results9, go_sem, *]; try rfl) rfl ?_)
  refine ⟨A1, c1, rfl, ?_, by (repeat' (first | (with_reducible exact Below.refl _ _) | (with_reducible assumption) | (with_reducible refine Below.alloc ?_ ?_ _) | (with_reducible refine below_drewN ?_ _) | (with_reducible refine Below.drew ?_) | (with_reducible refine Below.setCell ?_ ?_ _) | (with_reducible refine below_call (by assumption) ?_ ?_) | (with_reducible refine below_grown (by assumption) ?_ ?_ ?_) | omega | (simp; done) | (simp; omega)))⟩
  repeat' (first | exact HQ.out | (refine IsCs.far ?_ _ (fun a ha => by have := HA.out a ha; simp at this ⊢; omega)))

set_option maxHeartbeats 1000000 in
theorem eqFrame_same {A A' : Option Addr} {n : Nat} {l : List Cl} {x y : Int} {w : World} (c c' : Nat) (h : IsCs w A n l) (h' : IsCs w A' n l) (hn : n ≤ 1000000000000) :
    Calls Try.prog 11 #[.agg #[.int .i64 x, .int .i64 y, .slice A n c], .agg #[.int .i64 x, .int .i64 y, .slice A' n c']] w fun e w' => e = .returned (.bool true) ∧ Below w.heap.size w w' := by
  have HP := Lib.hid h
  have HP' := Lib.hid h'
  clear h h'
  go_enter Try.func11, Try.ntmps11
  go_wp2_with fail
  refine (eqColorS_same c c' (HP.out.below (by (repeat' (first | (with_reducible exact Below.refl _ _) | (with_reducible assumption) | (with_reducible refine Below.alloc ?_ ?_ _) | (with_reducible refine below_drewN ?_ _) | (with_reducible refine Below.drew ?_) | (with_reducible refine Below.setCell ?_ ?_ _) | (with_reducible refine below_call (by assumption) ?_ ?_) | (with_reducible refine below_grown (by assumption) ?_ ?_ ?_) | omega | (simp; done) | (simp; omega))))) (HP'.out.below (by (repeat' (first | (with_reducible exact Below.refl _ _) | (with_reducible assumption) | (with_reducible refine Below.alloc ?_ ?_ _) | (with_reducible refine below_drewN ?_ _) | (with_reducible refine Below.drew ?_) | (with_reducible refine Below.setCell ?_ ?_ _) | (with_reducible refine below_call (by assumption) ?_ ?_) | (with_reducible refine below_grown (by assumption) ?_ ?_ ?_) | omega | (simp; done) | (simp; omega))))) hn).mono ?_
  rintro e w1 ⟨rfl, hb⟩
  go_wp2
  go_ret
  exact ⟨rfl, by (repeat' (first | (with_reducible exact Below.refl _ _) | (with_reducible assumption) | (with_reducible refine Below.alloc ?_ ?_ _) | (with_reducible refine below_drewN ?_ _) | (with_reducible refine Below.drew ?_) | (with_reducible refine Below.setCell ?_ ?_ _) | (with_reducible refine below_call (by assumption) ?_ ?_) | (with_reducible refine below_grown (by assumption) ?_ ?_ ?_) | omega | (simp; done) | (simp; omega)))⟩

end Go.Proofs.Ytiocgklfkckomaa
