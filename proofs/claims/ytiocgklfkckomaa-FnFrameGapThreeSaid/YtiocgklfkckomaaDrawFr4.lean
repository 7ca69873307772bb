/-
  The generator of two pictures.
-/
import Derived.Test.YtiocgklfkckomaaDrawFr3
import Derived.Test.YtiocgklfkckomaaReg3
import Derived.Test.YtiocgklfkckomaaCode
namespace Go.Proofs.Ytiocgklfkckomaa
open Go.RowKit Pl

set_option linter.unusedSimpArgs false
set_option linter.unusedVariables false

theorem Nums.news {w : World} {g m : Nat} (h : Nums w g m) : ∃ us : List Value, us.length = m ∧ (∀ u ∈ us, ∃ x : Int, u = .int .i64 x) ∧ ∀ w', Below w.heap.size w w' → ∀ j u, us[j]? = some u → w'.cell? ((⟨g, 0, none⟩ : Addr).add j) = some u := by
  obtain ⟨cur, T, h, hs, hx⟩ := h
  refine ⟨cur.toList.take m, by simp; omega, fun u hu => ?_, fun w' hb j u hu => ?_⟩
  · obtain ⟨j, hj, e⟩ := List.mem_iff_getElem.1 hu
    have hjm : j < m := by simp at hj; omega
    obtain ⟨x, hx⟩ := hx j hjm
    refine ⟨x, ?_⟩
    have e2 : (cur.toList.take m)[j]? = some u := by rw [List.getElem?_eq_getElem hj, e]
    rw [List.getElem?_take, if_pos hjm, Array.getElem?_toList, hx] at e2
    exact (Option.some.inj e2).symm
  · rw [add_off, Nat.zero_add, blk_cell (blk_below h hb)]
    rw [List.getElem?_take] at hu
    split at hu
    · rw [← Array.getElem?_toList]; exact hu
    · cases hu

/-- A list of colors that the call has made. -/
def NQ (base p : Nat) (v : Value) (w : World) : Prop := ∃ g c, v = .slice (some ⟨g, 0, none⟩) p c ∧ p ≤ c ∧ c ≤ maxLen ∧ base ≤ g ∧ Nums w g (p * 4)
theorem NQ.below {base p : Nat} {v : Value} {w w' : World} (hR : Ext w w') (h : NQ base p v w) : NQ base p v w' := by
  obtain ⟨g, c, e, h1, h2, h3, h4⟩ := h; exact ⟨g, c, e, h1, h2, h3, h4.below hR⟩
theorem NQ.own {base p : Nat} {v : Value} {w : World} {us : List Value} (hp : 0 < p) (hu : ∀ u ∈ us, ∃ x : Int, u = .int .i64 x) (h : w.ownsRow base 49 4 v p us) : NQ base p v w :=
  OwnN.form ⟨us, h, hu⟩ hp

/-- A frame that the call has made. -/
def BQ (base p : Nat) (x y : Int) (v : Value) (w : World) : Prop := ∃ g c, v = .agg #[.int .i64 x, .int .i64 y, .slice (some ⟨g, 0, none⟩) p c] ∧ p ≤ c ∧ c ≤ maxLen ∧ base ≤ g ∧ Nums w g (p * 4)
theorem BQ.below {base p : Nat} {x y : Int} {v : Value} {w w' : World} (hR : Ext w w') (h : BQ base p x y v w) : BQ base p x y v w' := by
  obtain ⟨g, c, e, h1, h2, h3, h4⟩ := h; exact ⟨g, c, e, h1, h2, h3, h4.below hR⟩

theorem Nums.ne_frame {w : World} {g gb p : Nat} {T : TypeId} {v0 v1 : Value} (h : Nums w g (p * 4)) (hp : 0 < p) (hb : w.heap[gb]? = some (.cells #[v0, v1, .slice none 0 0] T (0, 0))) : g ≠ gb := fun e => by
  subst e
  obtain ⟨x, hx⟩ := h.at_ (j := 2) (by omega)
  rw [blk_cell hb] at hx
  simp at hx

/-- Two frames with as many pixels and the same sides. -/
def Frames2 (w : World) (e : Ending) (w' : World) : Prop :=
  ∃ (x y : Int) (p gp c gq d : Nat), e = .returned (.tuple #[.agg #[.int .i64 x, .int .i64 y, .slice (some ⟨gp, 0, none⟩) p c], .agg #[.int .i64 x, .int .i64 y, .slice (some ⟨gq, 0, none⟩) p d]]) ∧
    1 ≤ p ∧ p ≤ 20 ∧ Nums w' gp (p * 4) ∧ Nums w' gq (p * 4) ∧ Below w.heap.size w w'

set_option maxHeartbeats 4000000 in
theorem DrawFrameGap_any {A : Option Addr} {n c : Nat} {w : World} (h : Code w A n c) : Calls Try.prog 12 #[.slice A n c] w (Frames2 w) := by
  go_enter Try.func12, Try.ntmps12
  go_wp2_with fail
  refine (newReader_any (h.below (by (repeat' (first | (with_reducible exact Below.refl _ _) | (with_reducible assumption) | (with_reducible refine Below.alloc ?_ ?_ _) | (with_reducible refine below_drewN ?_ _) | (with_reducible refine Below.drew ?_) | (with_reducible refine Below.setCell ?_ ?_ _) | (with_reducible refine below_call (by assumption) ?_ ?_) | go_size))))).mono ?_
  rintro e w1 ⟨g, A', n', c', z, rfl, hg0, hr, hb⟩
  simp at hg0
  have hz1 := hb.size
  (try simp at hz1)
  have hgl1 := hr.lt
  have hk0 := blk_below (blk_alloc (blk_new w (.cells #[.int .i64 0, .int .i64 0, .slice none 0 0] 29)) (.cells #[.int .i64 0, .int .i64 0, .slice none 0 0] 29)) hb
  have hk1 := blk_below (blk_new1 w (.cells #[.int .i64 0, .int .i64 0, .slice none 0 0] 29) (.cells #[.int .i64 0, .int .i64 0, .slice none 0 0] 29)) hb
  go_wp2_with fail
  refine (pick_any hr (by omega) _).mono ?_
  rintro e w2 ⟨x, rfl, hx0, hx1, hr, hg⟩
  have hx1 := pk_lt (by omega) hx1
  have hz2 := hg.size
  have hgl2 := hr.lt
  have hk0 := blk_grown hk0 hg (by omega)
  have hk1 := blk_grown hk1 hg (by omega)
  go_wp2_with fail
  refine (pick_any hr (by omega) _).mono ?_
  rintro e w3 ⟨y, rfl, hy0, hy1, hr, hg⟩
  have hy1 := pk_lt (by omega) hy1
  have hz3 := hg.size
  have hgl3 := hr.lt
  have hk0 := blk_grown hk0 hg (by omega)
  have hk1 := blk_grown hk1 hg (by omega)
  obtain ⟨q, hq⟩ : ∃ q, (1 + x) * (1 + y) = q := ⟨_, rfl⟩
  have hq1 : 1 ≤ q ∧ q ≤ 20 := by
    have a1 := Int.mul_le_mul_of_nonneg_left (show 1 + y ≤ 4 by omega) (show 0 ≤ 1 + x by omega)
    have a2 := Int.mul_le_mul_of_nonneg_left (show 1 ≤ 1 + y by omega) (show 0 ≤ 1 + x by omega)
    omega
  obtain ⟨p, rfl⟩ : ∃ p : Nat, q = (p : Int) := ⟨q.toNat, by omega⟩
  go_wp2_with fail
  refine (someFrame_any (p := p) hr (by omega) (by omega) (by omega) hq (by omega) (by omega) (by omega) (by omega)).mono ?_
  rintro e w4 ⟨x', y', gp, cp, rfl, hgp, hN, hc1, hc2, hr, hg⟩
  have hz4 := hg.size
  have hgl4 := hr.lt
  have hk0 := blk_grown hk0 hg (by omega)
  have hk1 := blk_grown hk1 hg (by omega)
  have hnl := hN.lt
  clear hq
  go_wp2_with fail
  refine (pick_any (hr.alloc _) (by omega) _).mono ?_
  rintro e w5 ⟨q, rfl, hq0, hq1', hr, hg⟩
  have hz5 := hg.size
  simp at hz5
  have hgl5 := hr.lt
  have hk0 := blk_grown (blk_alloc hk0 (.cells #[.int .i64 x', .int .i64 y', .slice (some ⟨gp, 0, none⟩) p cp] 29)) hg (by omega)
  have hk1 := blk_grown (blk_alloc hk1 (.cells #[.int .i64 x', .int .i64 y', .slice (some ⟨gp, 0, none⟩) p cp] 29)) hg (by omega)
  have hkA := blk_grown (blk_new w4 (.cells #[.int .i64 x', .int .i64 y', .slice (some ⟨gp, 0, none⟩) p cp] 29)) hg (by omega)
  have N5 : Hid (Nums w5 gp (p * 4)) := Lib.hid ((hN.alloc _).grown hg (by omega))
  have hcA := blk_cell hkA
  have hfA := blk_free hkA
  have hlA := blk_lt hkA
  have HA := Lib.hid hkA
  have H0 := Lib.hid hk0
  have H1 := Lib.hid hk1
  have R5 := Lib.hid hr
  have B5 : Hid (Below w.heap.size w w5) := Lib.hid (by (repeat' (first | (with_reducible exact Below.refl _ _) | (with_reducible assumption) | (with_reducible refine Below.alloc ?_ ?_ _) | (with_reducible refine below_drewN ?_ _) | (with_reducible refine Below.drew ?_) | (with_reducible refine Below.setCell ?_ ?_ _) | (with_reducible refine below_call (by assumption) ?_ ?_) | (with_reducible refine below_grown (by assumption) ?_ ?_ ?_) | omega | (simp; done) | (simp; omega))))
  unfold maxLen at hc2
  by_cases e0 : q = 0
  · subst e0
    have hb5 := B5.out
    have hc0 := blk_cell hk0
    have hf0 := blk_free hk0
    have hl0 := blk_lt hk0
    have hc1 := blk_cell hk1
    have hf1 := blk_free hk1
    have hl1 := blk_lt hk1
    have s0 := blk_set (blk_set (blk_set hk0 0 (.int .i64 x')) 1 (.int .i64 y')) 2 (.slice (some ⟨gp, 0, none⟩) p cp)
    have s1 := blk_far (p := ⟨w.heap.size, 2, none⟩) (blk_far (p := ⟨w.heap.size, 1, none⟩) (blk_far (p := ⟨w.heap.size, 0, none⟩) hk1 (.int .i64 x') (by simp)) (.int .i64 y') (by simp)) (.slice (some ⟨gp, 0, none⟩) p cp) (by simp)
    have r0 := blk_cell (blk_far (p := ⟨w.heap.size + 1, 2, none⟩) (blk_far (p := ⟨w.heap.size + 1, 1, none⟩) (blk_far (p := ⟨w.heap.size + 1, 0, none⟩) s0 (.int .i64 x') (by simp)) (.int .i64 y') (by simp)) (.slice (some ⟨gp, 0, none⟩) p cp) (by simp))
    have r1 := blk_cell (blk_set (blk_set (blk_set s1 0 (.int .i64 x')) 1 (.int .i64 y')) 2 (.slice (some ⟨gp, 0, none⟩) p cp))
    have hgN : w.heap.size + 1 + 1 ≤ gp := by omega
    have N6 : Hid (Nums ((((((w5.setCell ⟨w.heap.size, 0, none⟩ (.int .i64 x')).setCell ⟨w.heap.size, 1, none⟩ (.int .i64 y')).setCell ⟨w.heap.size, 2, none⟩ (.slice (some ⟨gp, 0, none⟩) p cp)).setCell ⟨w.heap.size + 1, 0, none⟩ (.int .i64 x')).setCell ⟨w.heap.size + 1, 1, none⟩ (.int .i64 y')).setCell ⟨w.heap.size + 1, 2, none⟩ (.slice (some ⟨gp, 0, none⟩) p cp)) gp (p * 4)) :=
      Lib.hid ((((((N5.out.far _ (by simp; omega)).far _ (by simp; omega)).far _ (by simp; omega)).far _ (by simp; omega)).far _ (by simp; omega)).far _ (by simp; omega))
    have HR0 := Lib.hid r0
    have HR1 := Lib.hid r1
    clear hk0 hk1 hkA hr hg hg0 s0 s1 r0 r1
    go_wp2
    go_region
    have r0 := HR0.out
    have r1 := HR1.out
    go_wp2
    ((try simp only [Exit.inBlock, Exit.then]); refine bodyPost_ret (by simp [results, Try.results12, go_sem, *]; try rfl) rfl ?_)
    exact ⟨_, _, p, gp, _, gp, _, rfl, by omega, by omega, N6.out.drew, N6.out.drew, by (repeat' (first | (with_reducible exact Below.refl _ _) | (with_reducible assumption) | (with_reducible refine Below.alloc ?_ ?_ _) | (with_reducible refine below_drewN ?_ _) | (with_reducible refine Below.drew ?_) | (with_reducible refine Below.setCell ?_ ?_ _) | (with_reducible refine below_call (by assumption) ?_ ?_) | (with_reducible refine below_grown (by assumption) ?_ ?_ ?_) | omega | (simp; done) | (simp; omega)))⟩
  · have f0 : decide (q = 0) = false := decide_eq_false e0
    have f0' : (q == 0) = false := by simp [e0]
    obtain ⟨us, hus1, hus2, hus3⟩ := N5.out.news
    have HU2 := Lib.hid hus2
    have HU3 := Lib.hid hus3
    clear hus2 hus3
    go_wp2_with fail
    apply wp_region_pure (by kernel_rfl) ([] :: [0] :: [] :: [2] :: [] :: [] :: [5] :: [4, 6] :: [1, 3, 7] :: [] :: []) (RS.det [] _ :: RS.det [0] _ :: RS.det [] _ :: RS.det [2] _ :: RS.sl [] _ _ _ _ :: RS.det [] _ :: RS.det [5] _ :: RS.q [4, 6] (NQ w5.heap.size p) :: RS.q [1, 3, 7] (BQ w5.heap.size p x' y') :: RS.box [] _ #[.int .i64 0, .int .i64 0, .slice none 0 0] 29 :: []) [] rfl (by kernel_rfl) (fun h => absurd rfl h) (by kernel_rfl) (by kernel_rfl) (st_det (st_det (st_det (st_det (st_sl (st_det (st_det (st_q (fun _ _ _ hR h => h.below hR) (st_q (fun _ _ _ hR h => h.below hR) (st_box st_nil)))))))))) _ (fun v => by simp; rfl)
    case hop =>
      simp only [Obls]
      refine ⟨?_, ?_, ?_, ?_, ?_, ?_, ?_, ?_, ?_, ?_, trivial⟩
      · (intro v w1 K hb hF hK; (try simp at hF); simp at hK; (try simp only [hF] at hK); have hz := hb.size; (try simp at hz))
        go_simp
        (try simp only [])
        exact hK _ _ rfl (by (repeat' (first | (with_reducible exact Below.refl _ _) | (with_reducible assumption) | (with_reducible refine Below.alloc ?_ ?_ _) | (with_reducible refine below_drewN ?_ _) | (with_reducible refine Below.drew ?_) | (with_reducible refine Below.setCell ?_ ?_ _) | (with_reducible refine below_call (by assumption) ?_ ?_) | go_size)))
      · (intro v w1 K hb hF hK; (try simp at hF); simp at hK; (try simp only [hF] at hK); have hz := hb.size; (try simp at hz); (try (have hk := bcl hb (w4.heap.size) (by first | omega | (simp; done) | (simp; omega)); have hc := hk.1; have hf := hk.2.1; have hk := hk.2.2)))
        go_simp
        (try simp only [])
        exact hK _ _ rfl (by (repeat' (first | (with_reducible exact Below.refl _ _) | (with_reducible assumption) | (with_reducible refine Below.alloc ?_ ?_ _) | (with_reducible refine below_drewN ?_ _) | (with_reducible refine Below.drew ?_) | (with_reducible refine Below.setCell ?_ ?_ _) | (with_reducible refine below_call (by assumption) ?_ ?_) | go_size)))
      · (intro v w1 K hb hF hK; (try simp at hF); simp at hK; (try simp only [hF] at hK); have hz := hb.size; (try simp at hz))
        go_simp
        (try simp only [])
        exact hK _ _ rfl (by (repeat' (first | (with_reducible exact Below.refl _ _) | (with_reducible assumption) | (with_reducible refine Below.alloc ?_ ?_ _) | (with_reducible refine below_drewN ?_ _) | (with_reducible refine Below.drew ?_) | (with_reducible refine Below.setCell ?_ ?_ _) | (with_reducible refine below_call (by assumption) ?_ ?_) | go_size)))
      · (intro v w1 K hb hF hK; (try simp at hF); simp at hK; (try simp only [hF] at hK); have hz := hb.size; (try simp at hz); (try (have hk := bcl hb (w4.heap.size) (by first | omega | (simp; done) | (simp; omega)); have hc := hk.1; have hf := hk.2.1; have hk := hk.2.2)))
        go_simp
        (try simp only [])
        exact hK _ _ rfl (by (repeat' (first | (with_reducible exact Below.refl _ _) | (with_reducible assumption) | (with_reducible refine Below.alloc ?_ ?_ _) | (with_reducible refine below_drewN ?_ _) | (with_reducible refine Below.drew ?_) | (with_reducible refine Below.setCell ?_ ?_ _) | (with_reducible refine below_call (by assumption) ?_ ?_) | go_size)))
      · (intro v w1 K hb hF hK; (try simp at hF); simp at hK; (try simp only [hF] at hK); have hz := hb.size; (try simp at hz))
        go_simp
        (try simp only [])
        exact hK _ _ (isSl_new _ _ _ hb.size) (by (repeat' (first | (with_reducible exact Below.refl _ _) | (with_reducible assumption) | (with_reducible refine Below.alloc ?_ ?_ _) | (with_reducible refine below_drewN ?_ _) | (with_reducible refine Below.drew ?_) | (with_reducible refine Below.setCell ?_ ?_ _) | (with_reducible refine below_call (by assumption) ?_ ?_) | go_size)))
      · (intro v w1 K hb hF hK; (try simp at hF); simp at hK; (try simp only [hF] at hK); have hz := hb.size; (try simp at hz))
        go_simp
        (try simp only [])
        exact hK _ _ rfl (by (repeat' (first | (with_reducible exact Below.refl _ _) | (with_reducible assumption) | (with_reducible refine Below.alloc ?_ ?_ _) | (with_reducible refine below_drewN ?_ _) | (with_reducible refine Below.drew ?_) | (with_reducible refine Below.setCell ?_ ?_ _) | (with_reducible refine below_call (by assumption) ?_ ?_) | go_size)))
      · (intro v w1 K hb hF hK; (try simp at hF); simp at hK; (try simp only [hF] at hK); have hz := hb.size; (try simp at hz); (try (have hk := bcl hb (w4.heap.size) (by first | omega | (simp; done) | (simp; omega)); have hc := hk.1; have hf := hk.2.1; have hk := hk.2.2)))
        go_simp
        (try simp only [])
        exact hK _ _ rfl (by (repeat' (first | (with_reducible exact Below.refl _ _) | (with_reducible assumption) | (with_reducible refine Below.alloc ?_ ?_ _) | (with_reducible refine below_drewN ?_ _) | (with_reducible refine Below.drew ?_) | (with_reducible refine Below.setCell ?_ ?_ _) | (with_reducible refine below_call (by assumption) ?_ ?_) | go_size)))
      · (intro v w1 K hb hF hK; (try simp at hF); simp at hK; (try simp only [hF] at hK); have hz := hb.size; (try simp at hz); (try (have hk := bcl hb (w4.heap.size) (by first | omega | (simp; done) | (simp; omega)); have hc := hk.1; have hf := hk.2.1; have hk := hk.2.2)))
        obtain ⟨f4, f6⟩ := hF
        obtain ⟨_, eg, hgb, _, hgc⟩ := f4
        refine op_append_new ?hw (.tmp 31) (.tmp 33) 27 49 4 _ 32 Try.underlying27 col_info rfl ?hsz ?hby ?ho w5.heap.size _ ?hs hgb hgc (some ⟨gp, 0, none⟩) p cp us ?hx hus1 (fun _ => ⟨_, rfl, HU3.out _ hb⟩) (fun u hu => by obtain ⟨x, rfl⟩ := HU2.out u hu; rfl) ?hlen hb.size ?h
        case ho => rfl
        case hsz => decide
        case hby => decide
        case hw => simp [Region.wanted, yielded, *]
        case hs => first | (simp [Act.eval, eg]; done) | (simp [Act.eval, eg]; rfl)
        case hx => first | (simp [Act.eval, *]; done) | (simp [Act.eval, *]; rfl)
        case hlen => omega
        case h =>
          intro u' w' k1 k2 k3
          simp
          simp only [f6]
          exact hK u' w' (NQ.own (by omega) HU2.out k1) k3
      · (intro v w1 K hb hF hK; (try simp at hF); simp at hK; (try simp only [hF] at hK); have hz := hb.size; (try simp at hz); (try (have hk := bcl hb (w4.heap.size) (by first | omega | (simp; done) | (simp; omega)); have hc := hk.1; have hf := hk.2.1; have hk := hk.2.2)))
        obtain ⟨f1, f3, g7, c7, f7, hc71, hc72, hg7, hN7⟩ := hF
        (try simp only [f1, f3, f7] at hK)
        go_simp
        (first | skip)
        (try simp only [])
        exact hK _ _ (⟨_, _, rfl, hc71, hc72, hg7, hN7⟩) (by (repeat' (first | (with_reducible exact Below.refl _ _) | (with_reducible assumption) | (with_reducible refine Below.alloc ?_ ?_ _) | (with_reducible refine below_drewN ?_ _) | (with_reducible refine Below.drew ?_) | (with_reducible refine Below.setCell ?_ ?_ _) | (with_reducible refine below_call (by assumption) ?_ ?_) | go_size)))
      · (intro v w1 K hb hF hK; (try simp at hF); simp at hK; (try simp only [hF] at hK); have hz := hb.size; (try simp at hz))
        go_simp
        (try simp only [])
        exact hK _ _ (isBox_new _ _ hb.size) (by (repeat' (first | (with_reducible exact Below.refl _ _) | (with_reducible assumption) | (with_reducible refine Below.alloc ?_ ?_ _) | (with_reducible refine below_drewN ?_ _) | (with_reducible refine Below.drew ?_) | (with_reducible refine Below.setCell ?_ ?_ _) | (with_reducible refine below_call (by assumption) ?_ ?_) | go_size)))
    case hfo => exact trivial
    (intro v w1 hb hF; simp [List.range, List.range.loop] at hF; have hz := hb.size; (try simp at hz); (try (have hk := bcl hb (w4.heap.size) (by first | omega | (simp; done) | (simp; omega)); have hc := hk.1; have hf := hk.2.1; have hk := hk.2.2)))
    obtain ⟨e0, e1, e2, e3, ⟨gs, e4, hgs, hgss, hgsb⟩, e5, e6, ⟨g7, c7, e7, hc71, hc72, hg7, hN7⟩, ⟨g8, c8, e8, hc81, hc82, hg8, hN8⟩, gb, e9, hgb, hgbs, hgbb⟩ := hF
    simp only [List.length_cons, List.length_nil, List.drop_succ_cons, List.drop_zero, e0, e1, e2, e3, e4, e5, e6, e7, e8, e9]
    clear e0 e1 e2 e3 e4 e5 e6 e7 e8 e9 v
    have hcgs := blk_cell hgsb; have hfgs := blk_free hgsb; have Hgs := Lib.hid hgsb; clear hgsb; (try simp at hgs)
    have hcgb := blk_cell hgbb; have hfgb := blk_free hgbb; have Hgb := Lib.hid hgbb; clear hgbb; (try simp at hgb)
    have hne8 := Nums.ne_frame hN8 (by omega) Hgb.out
    have hb5 := B5.out
    have N6 := Lib.hid ((((N5.out.below hb).far (p := ⟨gb, 0, none⟩) (.int .i64 x') (by simp; omega)).far (p := ⟨gb, 1, none⟩) (.int .i64 y') (by simp; omega)).far (p := ⟨gb, 2, none⟩) (.slice (some ⟨g8, 0, none⟩) p c8) (by simp; omega))
    have N8 := Lib.hid (((hN8.far (p := ⟨gb, 0, none⟩) (.int .i64 x') (by simp; omega)).far (p := ⟨gb, 1, none⟩) (.int .i64 y') (by simp; omega)).far (p := ⟨gb, 2, none⟩) (.slice (some ⟨g8, 0, none⟩) p c8) (by simp; omega))
    have A6 := Lib.hid (blk_far (p := ⟨gb, 2, none⟩) (blk_far (p := ⟨gb, 1, none⟩) (blk_far (p := ⟨gb, 0, none⟩) (blk_below HA.out hb) (.int .i64 x') (by simp; omega)) (.int .i64 y') (by simp; omega)) (.slice (some ⟨g8, 0, none⟩) p c8) (by simp; omega))
    have K06 := Lib.hid (blk_far (p := ⟨gb, 2, none⟩) (blk_far (p := ⟨gb, 1, none⟩) (blk_far (p := ⟨gb, 0, none⟩) (blk_below H0.out hb) (.int .i64 x') (by simp; omega)) (.int .i64 y') (by simp; omega)) (.slice (some ⟨g8, 0, none⟩) p c8) (by simp; omega))
    have K16 := Lib.hid (blk_far (p := ⟨gb, 2, none⟩) (blk_far (p := ⟨gb, 1, none⟩) (blk_far (p := ⟨gb, 0, none⟩) (blk_below H1.out hb) (.int .i64 x') (by simp; omega)) (.int .i64 y') (by simp; omega)) (.slice (some ⟨g8, 0, none⟩) p c8) (by simp; omega))
    have B6 := Lib.hid (blk_set (blk_set (blk_set Hgb.out 0 (.int .i64 x')) 1 (.int .i64 y')) 2 (.slice (some ⟨g8, 0, none⟩) p c8))
    have R6 := Lib.hid ((((R5.out.below hb).setFar (p := ⟨gb, 0, none⟩) (u := .int .i64 x') (by simp; omega)).setFar (p := ⟨gb, 1, none⟩) (u := .int .i64 y') (by simp; omega)).setFar (p := ⟨gb, 2, none⟩) (u := .slice (some ⟨g8, 0, none⟩) p c8) (by simp; omega))
    have hgb5 : w.heap.size ≤ gb := by omega
    have hg85 : w.heap.size ≤ g8 := by omega
    clear hN8
    unfold maxLen at hc82
    go_wp2
    go_loopw [9] (fun i wr => ∃ k : Nat, i = .int .i64 k ∧ k ≤ p ∧ Nums wr gp (p * 4) ∧ Nums wr g8 (p * 4) ∧ wr.heap[w4.heap.size]? = some (.cells #[.int .i64 x', .int .i64 y', .slice (some ⟨gp, 0, none⟩) p cp] 29 (0, 0)) ∧ wr.heap[gb]? = some (.cells #[.int .i64 x', .int .i64 y', .slice (some ⟨g8, 0, none⟩) p c8] 29 (0, 0)) ∧
      wr.heap[w.heap.size]? = some (.cells #[.int .i64 0, .int .i64 0, .slice none 0 0] 29 (0, 0)) ∧ wr.heap[w.heap.size + 1]? = some (.cells #[.int .i64 0, .int .i64 0, .slice none 0 0] 29 (0, 0)) ∧ Rd g A' n' c' z wr (500 + 100 * k) ∧ Below w.heap.size w wr) (fun i _ => p - (intOf i).toNat)
    case atStart => exact ⟨0, rfl, by omega, N6.out, N8.out, A6.out, B6.out, K06.out, K16.out, R6.out.more (by omega), by (repeat' (first | (with_reducible exact Below.refl _ _) | (with_reducible assumption) | (with_reducible refine Below.alloc ?_ ?_ _) | (with_reducible refine below_drewN ?_ _) | (with_reducible refine Below.drew ?_) | (with_reducible refine Below.setCell ?_ ?_ _) | (with_reducible refine below_call (by assumption) ?_ ?_) | (with_reducible refine below_grown (by assumption) ?_ ?_ ?_) | omega | (simp; done) | (simp; omega)))⟩
    case round =>
      obtain ⟨k, rfl, hkp, hN1, hN2, hA, hBf, hk0, hk1, hr, hbw⟩ := hrel
      obtain ⟨wo, rfl⟩ : ∃ wo : World, wo = wr := ⟨_, rfl⟩
      have hso := hbw.size
      have hgl := hr.lt
      have hcA := blk_cell hA
      have hfA := blk_free hA
      have hlA := blk_lt hA
      have hcB := blk_cell hBf
      have hfB := blk_free hBf
      have hlB := blk_lt hBf
      have hnl2 := hN2.lt
      have hnl1 := hN1.lt
      have HN1 := Lib.hid hN1
      have HN2 := Lib.hid hN2
      have HA := Lib.hid hA
      have HB := Lib.hid hBf
      have HK0 := Lib.hid hk0
      have HK1 := Lib.hid hk1
      have HR := Lib.hid hr
      have HW := Lib.hid hbw
      clear hN1 hN2 hA hBf hk0 hk1 hbw hr
      by_cases hlt : k < p
      · have eb : decide ((k : Int) < p) = true := decide_eq_true (by omega)
        have hki : (k : Int) < p := by omega
        go_wp2_with fail
        refine (pick_any HR.out (by omega) _).mono ?_
        rintro e w6 ⟨q2, rfl, hq20, hq21, hr, hg⟩
        have hz6 := hg.size
        have hgl6 := hr.lt
        have hkA := blk_grown HA.out hg (by omega)
        have hkB := blk_grown HB.out hg (by omega)
        have hcA6 := blk_cell hkA
        have hfA6 := blk_free hkA
        have hlA6 := blk_lt hkA
        have hcB6 := blk_cell hkB
        have hfB6 := blk_free hkB
        have hlB6 := blk_lt hkB
        have G6 : Hid (wo.grownBy w6 (some g)) := Lib.hid hg
        clear hcA hfA hlA hcB hfB hlB hkA hkB hg
        by_cases e3 : q2 = 0
        · subst e3
          go_wp2_with fail
          apply wp_region_rdr (by kernel_rfl) ([] :: [0] :: [] :: [] :: [3] :: [1, 2] :: []) (RS.det [] _ :: RS.det [0] _ :: RS.det [] _ :: RS.det [] _ :: RS.p [3] (fun v => ∃ r g b a, v = .agg #[.int .i64 r, .int .i64 g, .int .i64 b, .int .i64 a]) :: RS.det [1, 2] _ :: []) [] rfl (by kernel_rfl) (fun h => absurd rfl h) (by kernel_rfl) (by kernel_rfl) (st_det (st_det (st_det (st_det (st_p (st_det st_nil)))))) _ (fun v => by simp; rfl)
          case hr => exact (by repeat' (first | (with_reducible assumption) | (with_reducible apply Rd.alloc) | (with_reducible apply Rd.drewN) | (with_reducible apply rd_below (by assumption)) | (with_reducible apply Rd.setFar) | omega | (simp; omega)))
          case hop =>
            simp only [OblsR]
            refine ⟨?_, ?_, ?_, ?_, ?_, ?_, trivial⟩
            · (intro v j w1 Kc hj hr hg hF hK; (try simp at hj); (try simp at hF); simp at hK; (try simp only [hF] at hK); have hz := hg.size; (try simp at hz); have hgl := Rd.lt hr)
              go_simp
              (try simp only [])
              exact hK _ _ rfl (by (repeat' (first | (with_reducible exact World.grownBy.refl _ _) | (with_reducible assumption) | (with_reducible refine only_alloc ?_ _) | (with_reducible refine only_drewN ?_ _) | (with_reducible refine only_setCell ?_ (by first | exact .inl rfl | exact .inr (Nat.le_refl _) | (right; simp; done) | (right; simp; omega)) _) | (with_reducible refine grown_call (by assumption) ?_) | (with_reducible refine grown_below (by assumption) ?_ (by first | omega | (simp; done) | (simp; omega)))))) (Rd.more (by repeat' (first | (with_reducible assumption) | (with_reducible apply Rd.alloc) | (with_reducible apply Rd.drewN) | (with_reducible apply rd_below (by assumption)) | (with_reducible apply Rd.setFar) | omega | (simp; omega))) (by omega))
            · (intro v j w1 Kc hj hr hg hF hK; (try simp at hj); (try simp at hF); simp at hK; (try simp only [hF] at hK); have hz := hg.size; (try simp at hz); have hgl := Rd.lt hr; (try (have hk := gcl hg (gb) (by first | omega | (simp; done) | (simp; omega)) (by omega); have hc := hk.1; have hf := hk.2.1; have hk := hk.2.2)))
              go_simp
              (try simp only [])
              exact hK _ _ rfl (by (repeat' (first | (with_reducible exact World.grownBy.refl _ _) | (with_reducible assumption) | (with_reducible refine only_alloc ?_ _) | (with_reducible refine only_drewN ?_ _) | (with_reducible refine only_setCell ?_ (by first | exact .inl rfl | exact .inr (Nat.le_refl _) | (right; simp; done) | (right; simp; omega)) _) | (with_reducible refine grown_call (by assumption) ?_) | (with_reducible refine grown_below (by assumption) ?_ (by first | omega | (simp; done) | (simp; omega)))))) (Rd.more (by repeat' (first | (with_reducible assumption) | (with_reducible apply Rd.alloc) | (with_reducible apply Rd.drewN) | (with_reducible apply rd_below (by assumption)) | (with_reducible apply Rd.setFar) | omega | (simp; omega))) (by omega))
            · (intro v j w1 Kc hj hr hg hF hK; (try simp at hj); (try simp at hF); simp at hK; (try simp only [hF] at hK); have hz := hg.size; (try simp at hz); have hgl := Rd.lt hr)
              go_simp
              (try simp only [])
              exact hK _ _ rfl (by (repeat' (first | (with_reducible exact World.grownBy.refl _ _) | (with_reducible assumption) | (with_reducible refine only_alloc ?_ _) | (with_reducible refine only_drewN ?_ _) | (with_reducible refine only_setCell ?_ (by first | exact .inl rfl | exact .inr (Nat.le_refl _) | (right; simp; done) | (right; simp; omega)) _) | (with_reducible refine grown_call (by assumption) ?_) | (with_reducible refine grown_below (by assumption) ?_ (by first | omega | (simp; done) | (simp; omega)))))) (Rd.more (by repeat' (first | (with_reducible assumption) | (with_reducible apply Rd.alloc) | (with_reducible apply Rd.drewN) | (with_reducible apply rd_below (by assumption)) | (with_reducible apply Rd.setFar) | omega | (simp; omega))) (by omega))
            · (intro v j w1 Kc hj hr hg hF hK; (try simp at hj); (try simp at hF); simp at hK; (try simp only [hF] at hK); have hz := hg.size; (try simp at hz); have hgl := Rd.lt hr)
              go_simp
              (try simp only [])
              exact hK _ _ rfl (by (repeat' (first | (with_reducible exact World.grownBy.refl _ _) | (with_reducible assumption) | (with_reducible refine only_alloc ?_ _) | (with_reducible refine only_drewN ?_ _) | (with_reducible refine only_setCell ?_ (by first | exact .inl rfl | exact .inr (Nat.le_refl _) | (right; simp; done) | (right; simp; omega)) _) | (with_reducible refine grown_call (by assumption) ?_) | (with_reducible refine grown_below (by assumption) ?_ (by first | omega | (simp; done) | (simp; omega)))))) (Rd.more (by repeat' (first | (with_reducible assumption) | (with_reducible apply Rd.alloc) | (with_reducible apply Rd.drewN) | (with_reducible apply rd_below (by assumption)) | (with_reducible apply Rd.setFar) | omega | (simp; omega))) (by omega))
            · (intro v j w1 Kc hj hr hg hF hK; (try simp at hj); (try simp at hF); simp at hK; (try simp only [hF] at hK); have hz := hg.size; (try simp at hz); have hgl := Rd.lt hr; (try (have hk := gcl hg (gb) (by first | omega | (simp; done) | (simp; omega)) (by omega); have hc := hk.1; have hf := hk.2.1; have hk := hk.2.2)))
              go_simp
              (first | (go_at_call 29; refine (anyColor_any hr (by omega)).mono ?_; rintro e w7 ⟨cr, cg, cb, ca, rfl, hr, hg⟩))
              (try simp only [])
              exact hK _ _ (⟨_, _, _, _, rfl⟩) (by (repeat' (first | (with_reducible exact World.grownBy.refl _ _) | (with_reducible assumption) | (with_reducible refine only_alloc ?_ _) | (with_reducible refine only_drewN ?_ _) | (with_reducible refine only_setCell ?_ (by first | exact .inl rfl | exact .inr (Nat.le_refl _) | (right; simp; done) | (right; simp; omega)) _) | (with_reducible refine grown_call (by assumption) ?_) | (with_reducible refine grown_below (by assumption) ?_ (by first | omega | (simp; done) | (simp; omega)))))) (Rd.more (by repeat' (first | (with_reducible assumption) | (with_reducible apply Rd.alloc) | (with_reducible apply Rd.drewN) | (with_reducible apply rd_below (by assumption)) | (with_reducible apply Rd.setFar) | omega | (simp; omega))) (by omega))
            · (intro v j w1 Kc hj hr hg hF hK; (try simp at hj); (try simp at hF); simp at hK; (try simp only [hF] at hK); have hz := hg.size; (try simp at hz); have hgl := Rd.lt hr)
              go_simp
              (try simp only [])
              exact hK _ _ rfl (by (repeat' (first | (with_reducible exact World.grownBy.refl _ _) | (with_reducible assumption) | (with_reducible refine only_alloc ?_ _) | (with_reducible refine only_drewN ?_ _) | (with_reducible refine only_setCell ?_ (by first | exact .inl rfl | exact .inr (Nat.le_refl _) | (right; simp; done) | (right; simp; omega)) _) | (with_reducible refine grown_call (by assumption) ?_) | (with_reducible refine grown_below (by assumption) ?_ (by first | omega | (simp; done) | (simp; omega)))))) (Rd.more (by repeat' (first | (with_reducible assumption) | (with_reducible apply Rd.alloc) | (with_reducible apply Rd.drewN) | (with_reducible apply rd_below (by assumption)) | (with_reducible apply Rd.setFar) | omega | (simp; omega))) (by omega))
          case hfo => exact trivial
          (intro v w1 hr hg hF; simp [List.range, List.range.loop] at hF; have hz := hg.size; (try simp at hz); have hgl := Rd.lt hr; (try (have hk := gcl hg (gb) (by first | omega | (simp; done) | (simp; omega)) (by omega); have hc := hk.1; have hf := hk.2.1; have hk := hk.2.2)))
          obtain ⟨e0, e1, e2, e3, ⟨cr, cg, cb, ca, e4⟩, e5⟩ := hF
          simp only [List.length_cons, List.length_nil, List.drop_succ_cons, List.drop_zero, e0, e1, e2, e3, e4, e5]
          clear e0 e1 e2 e3 e4 e5 v
          simp only [List.length_cons, List.length_nil] at hr
          have hgw : wo.grownBy w1 (some g) := grown_call hg G6.out
          have M1 := Lib.hid (HN1.out.grown hgw (by omega))
          have M2 := Lib.hid (HN2.out.grown hgw (by omega))
          have hnl8 := M2.out.lt
          obtain ⟨z0, c0⟩ := M2.out.at_ (j := k * 4) (by omega)
          obtain ⟨z1, c1⟩ := M2.out.at_ (j := k * 4 + 1) (by omega)
          obtain ⟨z2, c2⟩ := M2.out.at_ (j := k * 4 + 2) (by omega)
          obtain ⟨z3, c3⟩ := M2.out.at_ (j := k * 4 + 3) (by omega)
          have hfr0 := M2.out.free
          have K0 := Lib.hid (blk_grown HK0.out hgw (by omega))
          have K1 := Lib.hid (blk_grown HK1.out hgw (by omega))
          have KA := Lib.hid (blk_grown HA.out hgw (by omega))
          have KB := Lib.hid (blk_grown HB.out hgw (by omega))
          have WW : Hid (Below w.heap.size w w1) := Lib.hid (below_grown hgw HW.out (by omega) (by omega))
          have hbw := WW.out
          clear hgw hg
          go_wp2
          go_roundw
          case rel => exact ⟨k + 1, by go_num, by omega, (((M1.out.far _ (by simp; omega)).far _ (by simp; omega)).far _ (by simp; omega)).far _ (by simp; omega), Nums.set4 M2.out (k * 4) (k * 4 + 1) (k * 4 + 2) (k * 4 + 3) cr cg cb ca, blk_far4 KA.out (by omega) _ _ _ _, blk_far4 KB.out (by omega) _ _ _ _, blk_far4 K0.out (by omega) _ _ _ _, blk_far4 K1.out (by omega) _ _ _ _, ((((hr.setFar (by simp; omega)).setFar (by simp; omega)).setFar (by simp; omega)).setFar (by simp; omega)).more (by omega), by (repeat' (first | (with_reducible exact Below.refl _ _) | (with_reducible assumption) | (with_reducible refine Below.alloc ?_ ?_ _) | (with_reducible refine below_drewN ?_ _) | (with_reducible refine Below.drew ?_) | (with_reducible refine Below.setCell ?_ ?_ _) | (with_reducible refine below_call (by assumption) ?_ ?_) | (with_reducible refine below_grown (by assumption) ?_ ?_ ?_) | omega | (simp; done) | (simp; omega)))⟩
          case measure => simp [intOf]; omega
        · have f3 : decide (q2 = 0) = false := decide_eq_false e3
          have f3' : (q2 == 0) = false := by simp [e3]
          have hg := G6.out
          have HNa := Lib.hid (HN1.out.grown hg (by omega))
          have HNb := Lib.hid (HN2.out.grown hg (by omega))
          have KA := Lib.hid (blk_grown HA.out hg (by omega))
          have KB := Lib.hid (blk_grown HB.out hg (by omega))
          have K0 := Lib.hid (blk_grown HK0.out hg (by omega))
          have K1 := Lib.hid (blk_grown HK1.out hg (by omega))
          have RR := Lib.hid hr
          have WW : Hid (Below w.heap.size w w6) := Lib.hid (below_grown hg HW.out (by omega) (by omega))
          clear hg hr
          go_wp2
          go_roundw
          case rel => exact ⟨k + 1, by go_num, by omega, HNa.out, HNb.out, KA.out, KB.out, K0.out, K1.out, RR.out.more (by omega), WW.out⟩
          case measure => simp [intOf]; omega
      · obtain rfl : k = p := by omega
        have eb : decide ((k : Int) < k) = false := by simp
        have hk0 := HK0.out
        have hk1 := HK1.out
        have hc0 := blk_cell hk0
        have hf0 := blk_free hk0
        have hl0 := blk_lt hk0
        have hc1 := blk_cell hk1
        have hf1 := blk_free hk1
        have hl1 := blk_lt hk1
        have s0 := blk_set (blk_set (blk_set hk0 0 (.int .i64 x')) 1 (.int .i64 y')) 2 (.slice (some ⟨gp, 0, none⟩) k cp)
        have s1 := blk_far (p := ⟨w.heap.size, 2, none⟩) (blk_far (p := ⟨w.heap.size, 1, none⟩) (blk_far (p := ⟨w.heap.size, 0, none⟩) hk1 (.int .i64 x') (by simp)) (.int .i64 y') (by simp)) (.slice (some ⟨gp, 0, none⟩) k cp) (by simp)
        have r0 := blk_cell (blk_far (p := ⟨w.heap.size + 1, 2, none⟩) (blk_far (p := ⟨w.heap.size + 1, 1, none⟩) (blk_far (p := ⟨w.heap.size + 1, 0, none⟩) s0 (.int .i64 x') (by simp)) (.int .i64 y') (by simp)) (.slice (some ⟨g8, 0, none⟩) k c8) (by simp))
        have r1 := blk_cell (blk_set (blk_set (blk_set s1 0 (.int .i64 x')) 1 (.int .i64 y')) 2 (.slice (some ⟨g8, 0, none⟩) k c8))
        have hgN : w.heap.size + 1 + 1 ≤ gp := by omega
        have NX := fun (gg : Nat) (hgg : w.heap.size + 1 + 1 ≤ gg) (hN : Nums wo gg (k * 4)) => (((((((hN.far (p := ⟨w.heap.size, 0, none⟩) (.int .i64 x') (by simp; omega)).far (p := ⟨w.heap.size, 1, none⟩) (.int .i64 y') (by simp; omega)).far (p := ⟨w.heap.size, 2, none⟩) (.slice (some ⟨gp, 0, none⟩) k cp) (by simp; omega)).far (p := ⟨w.heap.size + 1, 0, none⟩) (.int .i64 x') (by simp; omega)).far (p := ⟨w.heap.size + 1, 1, none⟩) (.int .i64 y') (by simp; omega)).far (p := ⟨w.heap.size + 1, 2, none⟩) (.slice (some ⟨g8, 0, none⟩) k c8) (by simp; omega))).drew
        have NA := Lib.hid (NX gp (by omega) HN1.out)
        have NB := Lib.hid (NX g8 (by omega) HN2.out)
        have HR0 := Lib.hid r0
        have HR1 := Lib.hid r1
        have hbw := HW.out
        clear hk0 hk1 s0 s1 r0 r1 NX
        go_wp2
        go_region
        have r0 := HR0.out
        have r1 := HR1.out
        go_wp2
        ((try simp only [Exit.inBlock, Exit.then]); refine bodyPost_ret (by simp [results, Try.results12, go_sem, *]; try rfl) rfl ?_)
        exact ⟨_, _, k, gp, _, g8, _, rfl, by omega, by omega, NA.out, NB.out, by (repeat' (first | (with_reducible exact Below.refl _ _) | (with_reducible assumption) | (with_reducible refine Below.alloc ?_ ?_ _) | (with_reducible refine below_drewN ?_ _) | (with_reducible refine Below.drew ?_) | (with_reducible refine Below.setCell ?_ ?_ _) | (with_reducible refine below_call (by assumption) ?_ ?_) | (with_reducible refine below_grown (by assumption) ?_ ?_ ?_) | omega | (simp; done) | (simp; omega)))⟩

end Go.Proofs.Ytiocgklfkckomaa
