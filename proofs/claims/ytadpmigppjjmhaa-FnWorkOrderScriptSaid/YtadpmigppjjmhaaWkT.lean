/-
  A turn of the reference's workers.
-/
import Derived.Test.YtadpmigppjjmhaaWk
import Derived.Test.YtadpmigppjjmhaaDeqU
import Derived.Test.YtadpmigppjjmhaaDeqV
import Derived.Test.YtadpmigppjjmhaaDeqL
namespace Go.Proofs.Ytadpmigppjjmhaa
open Go.RowKit Pl

set_option linter.unusedSimpArgs false
set_option linter.unusedVariables false

/-- What comes back of a turn. -/
def RetT (n : Nat) (ds : List Dq) (r : Option Nat) (x : Int) (w : World) (e : Ending) (w' : World) : Prop :=
  ∃ g c, e = .returned (.tuple #[.slice (some ⟨g, 0, none⟩) n c, .int .i64 x]) ∧ ds.length = n ∧ HasQs w' g ds r ∧ n ≤ c ∧ c ≤ maxLen ∧ w.heap.size ≤ g ∧ Below w.heap.size w w'

theorem sepA {A : Option Addr} {r : Option Nat} {s : Nat} (hr : ∀ b, r = some b → b < s) (hA : ∀ a, A = some a → s ≤ a.block) : Sep (blkA A) r :=
  (Sep.far hr (fun g hg => by cases A with
    | none => cases hg
    | some a => cases hg; exact hA a rfl)).symm
theorem dAt_len {ds : List Dq} (h : AllD ds) (w : Int) : (dAt ds w).s.length = 16 := (validD_iff.1 (h.at_ w)).1
theorem dAt_ends {ds : List Dq} (h : AllD ds) (w : Int) : 0 ≤ (dAt ds w).t ∧ (dAt ds w).t ≤ 500 ∧ 0 ≤ (dAt ds w).b ∧ (dAt ds w).b ≤ 500 := by
  have := (validD_iff.1 (h.at_ w)).2.1; omega

set_option maxRecDepth 100000 in
set_option maxHeartbeats 4000000 in
theorem turn_any {g n c : Nat} {ds ds' : List Dq} {w : World} {i j : Nat} {x : Int} {r : Option Nat} (hq : HasQs w g ds r) (hr : ∀ b, r = some b → b < w.heap.size) (hv : AllD ds) (hn : ds.length = n) (h4 : n ≤ 4) (hi : i < n) (hj : j < n) (hT : turnD ds ((i : Int), (j : Int)) = (ds', x)) :
    Calls Try.prog 23 #[.slice (some ⟨g, 0, none⟩) n c, .agg #[.int .i64 (i : Int), .int .i64 (j : Int)]] w (RetT n ds' r x w) := by
  have HQ := Lib.hid hq
  have HV := Lib.hid hv
  have HN := Lib.hid hn
  have HT := Lib.hid hT
  have hgl := hq.lt
  have hki : (i : Int) < n := by omega
  have hkj : (j : Int) < n := by omega
  obtain ⟨A1, c1, l1, t1, b1, hd1, a0, a1, a2, aI⟩ := hq.at_ (by rw [hn]; exact hi) hv
  obtain ⟨A2, c2, l2, t2, b2, hd2, b0, b1', b2', bI⟩ := hq.at_ (by rw [hn]; exact hj) hv
  have HR := Lib.hid hr
  clear hq hv hn hT hr
  go_enter Try.func23, Try.ntmps23
  go_wp2_with (at_builtin
               refine append_qs rfl (.tmp 10) (.tmp 11) rfl w (w.heap.size + 1) rfl (by (repeat' (first | (with_reducible assumption) | (with_reducible exact blk_new _ _) | (with_reducible exact blk_new1 _ _ _) | (with_reducible exact blk_new2 _ _ _ _) | (with_reducible refine blk_alloc ?_ _) | (with_reducible refine blk_drewN ?_ _) | (with_reducible refine blk_down (by assumption) ?_) | (with_reducible refine blk_up (by assumption) (by omega) ?_) | (with_reducible refine blk_far ?_ _ (by simp; omega))))) (by omega) g n c ds rfl HN.out HQ.out (by (repeat' (first | (with_reducible exact Below.refl _ _) | (with_reducible assumption) | (with_reducible refine Below.alloc ?_ ?_ _) | (with_reducible refine below_drewN ?_ _) | (with_reducible refine Below.drew ?_) | (with_reducible refine Below.setCell ?_ ?_ _) | (with_reducible refine below_call (by assumption) ?_ ?_) | (with_reducible refine below_grown (by assumption) ?_ ?_ ?_) | omega | (simp; done) | (simp; omega)))) (by omega) (by omega) ?_
               intro g' c' w1 hq1 hc1 hc2 hg1 hb1 hgr1 hat1
               refine Kept.out ?_)
  have hz1 := hb1.size
  have hbx := blk_grown (blk_alloc (blk_new w (.cells #[.int .i64 (i : Int), .int .i64 (j : Int)] 33)) (.cells #[] 56)) hgr1 (by simp)
  have hz1' := hgr1.size
  simp at hz1'
  have hcx := blk_cell hbx
  have hfx := blk_free hbx
  have hlx := blk_lt hbx
  have HX := Lib.hid hbx
  have HQ1 := Lib.hid hq1
  have HQo := Lib.hid (HQ.out.below hb1)
  have hg1l := hq1.lt
  have HB1 := Lib.hid hb1
  clear hq1 hgr1 hbx a0 a1 a2 b0 b1' b2' aI bI HQ
  obtain ⟨A3, c3, l3, t3, b3, hd3, a0, a1, a2, aI⟩ := HQo.out.at_ (by rw [HN.out]; exact hi) HV.out
  have he1 := dAt_ends HV.out (i : Int)
  rw [hd1] at hd3
  cases hd3
  obtain ⟨ok, hok⟩ : ∃ v, takeOkD ⟨l1, t1, b1⟩ = v := ⟨_, rfl⟩
  obtain ⟨⟨ql, qt, qb⟩, hpq⟩ : ∃ q, popR ⟨l1, t1, b1⟩ = q := ⟨_, rfl⟩
  obtain ⟨y, hpy⟩ : ∃ q, popV ⟨l1, t1, b1⟩ = q := ⟨_, rfl⟩
  rw [hd1] at he1
  simp only at he1
  have HI1 := Lib.hid aI
  have K1 := Lib.hid hok
  have K2 := Lib.hid hpq
  have K3 := Lib.hid hpy
  have HD1 := Lib.hid hd1
  have HD2 := Lib.hid hd2
  clear aI hok hpq hpy hd1 hd2
  refine Kept.mk ?_
  go_wp2_with fail
  refine (sPopTile_eq c3 HI1.out (by omega) (by omega) (by omega) K1.out K2.out K3.out).mono ?_
  rintro e w2 ⟨A4, c4, rfl, ho4, hb2⟩
  have hz2 := hb2.size
  have HO4 := Lib.hid ho4
  have HA4 : Hid (∀ a, A4 = some a → w1.heap.size ≤ a.block) := Lib.hid (by obtain ⟨A', c'', e, _, _, _, h⟩ := ho4.form; cases e; exact h)
  have hbx2 := blk_below HX.out hb2
  have hcx2 := blk_cell hbx2
  have hfx2 := blk_free hbx2
  have hlx2 := blk_lt hbx2
  have HX2 := Lib.hid hbx2
  have HQ2 := Lib.hid (HQ1.out.below hb2)
  have HQo2 := Lib.hid (HQo.out.below hb2)
  clear ho4 hbx2 hcx hfx a0 a1 a2
  cases ok with
  | true =>
    have hl16 : ql.length = 16 := by have := pop_valid K1.out; rw [K2.out] at this; exact (validD_iff.1 this).1
    have hTx : ds' = ds.set i ⟨ql, qt, qb⟩ ∧ x = y := by
      have := HT.out
      simp only [turnD, HD1.out, K1.out, if_true, K2.out, K3.out, Int.toNat_natCast, Prod.mk.injEq] at this
      exact ⟨this.1.symm, this.2.symm⟩
    obtain ⟨rfl, rfl⟩ := hTx
    simp only [hl16] at HO4 ⊢
    have HL16 := Lib.hid hl16
    clear hl16
    obtain ⟨A5, c5, l5, t5, b5, hd5, a0, a1, a2, aI⟩ := HQ2.out.at_ (by rw [HN.out]; exact hi) HV.out
    obtain ⟨hs, cur, q1, _⟩ := HQ2.out.ex
    have hfq := blk_free q1
    have hlq := blk_lt q1
    clear q1 hd5 aI
    go_wp2_with fail
    go_ret2
    have hput := HasQs.put HQ2.out (j := i) (by rw [HN.out]; exact hi) (c := c4) (d := ⟨ql, qt, qb⟩) HO4.out.isI (fun a ha => by have := HA4.out a ha; omega) (sepA HR.out (fun a ha => by have := HA4.out a ha; omega))
    exact ⟨g', c', rfl, by rw [List.length_set]; exact HN.out, hput.below (by (repeat' (first | (with_reducible exact Below.refl _ _) | (with_reducible assumption) | (with_reducible refine Below.alloc ?_ ?_ _) | (with_reducible refine below_drewN ?_ _) | (with_reducible refine Below.drew ?_) | (with_reducible refine Below.setCell ?_ ?_ _) | (with_reducible refine below_call (by assumption) ?_ ?_) | (with_reducible refine below_grown (by assumption) ?_ ?_ ?_) | omega | (simp; done) | (simp; omega)))), hc1, hc2, hg1, by have hb1 := HB1.out; (repeat' (first | (with_reducible exact Below.refl _ _) | (with_reducible assumption) | (with_reducible refine Below.alloc ?_ ?_ _) | (with_reducible refine below_drewN ?_ _) | (with_reducible refine Below.drew ?_) | (with_reducible refine Below.setCell ?_ ?_ _) | (with_reducible refine below_call (by assumption) ?_ ?_) | (with_reducible refine below_grown (by assumption) ?_ ?_ ?_) | omega | (simp; done) | (simp; omega)))⟩
  | false =>
    obtain ⟨B, d4, hB⟩ : ∃ B d4, B = A4 ∧ d4 = c4 := ⟨_, _, rfl, rfl⟩
    obtain ⟨m0, hm0⟩ : ∃ m, ql.length = m := ⟨_, rfl⟩
    rw [hm0]
    have he2 := dAt_ends HV.out (j : Int)
    rw [HD2.out] at he2
    simp only at he2
    obtain ⟨ok, hok⟩ : ∃ v, takeOkD ⟨l2, t2, b2⟩ = v := ⟨_, rfl⟩
    obtain ⟨⟨rl, rt, rb⟩, hpq⟩ : ∃ q, stealR ⟨l2, t2, b2⟩ = q := ⟨_, rfl⟩
    obtain ⟨z, hpz⟩ : ∃ q, stealV ⟨l2, t2, b2⟩ = q := ⟨_, rfl⟩
    have J1 := Lib.hid hok
    have J2 := Lib.hid hpq
    have J3 := Lib.hid hpz
    obtain ⟨A6, c6, l6, t6, b6, hd6, a0, a1, a2, aI⟩ := HQo2.out.at_ (by rw [HN.out]; exact hj) HV.out
    rw [HD2.out] at hd6
    cases hd6
    have HI2 := Lib.hid aI
    have hgl2 : g < w2.heap.size := by omega
    have hgl3 : g' < w2.heap.size := by omega
    clear hok hpq hpz aI HO4 HA4 hm0 hB
    go_wp2_with fail
    refine (sStealTile_eq c6 (HI2.out.below (by (repeat' (first | (with_reducible exact Below.refl _ _) | (with_reducible assumption) | (with_reducible refine Below.alloc ?_ ?_ _) | (with_reducible refine below_drewN ?_ _) | (with_reducible refine Below.drew ?_) | (with_reducible refine Below.setCell ?_ ?_ _) | (with_reducible refine below_call (by assumption) ?_ ?_) | (with_reducible refine below_grown (by assumption) ?_ ?_ ?_) | omega | (simp; done) | (simp; omega))))) (by omega) (by omega) (by omega) J1.out J2.out J3.out).mono ?_
    rintro e w3 ⟨A7, c7, rfl, ho7, hb3⟩
    have hz3 := hb3.size
    simp at hz3
    have HO7 := Lib.hid ho7
    have HA7 : Hid (∀ a, A7 = some a → w2.heap.size + 1 ≤ a.block) := Lib.hid (by obtain ⟨A', c'', e, _, _, _, h⟩ := ho7.form; cases e; intro a ha; have := h a ha; simp at this; omega)
    have hbt := blk_below (blk_new w2 _) hb3
    have hct := blk_cell hbt
    have hft := blk_free hbt
    have hlt := blk_lt hbt
    have hbx3 := blk_below (blk_alloc HX2.out _) hb3
    have hcx3 := blk_cell hbx3
    have hfx3 := blk_free hbx3
    have hlx3 := blk_lt hbx3
    have HQ3 := Lib.hid ((HQ2.out.below (by (repeat' (first | (with_reducible exact Below.refl _ _) | (with_reducible assumption) | (with_reducible refine Below.alloc ?_ ?_ _) | (with_reducible refine below_drewN ?_ _) | (with_reducible refine Below.drew ?_) | (with_reducible refine Below.setCell ?_ ?_ _) | (with_reducible refine below_call (by assumption) ?_ ?_) | (with_reducible refine below_grown (by assumption) ?_ ?_ ?_) | omega | (simp; done) | (simp; omega))))).below hb3)
    have hbw : Below w.heap.size w w3 := by have hb1 := HB1.out; (repeat' (first | (with_reducible exact Below.refl _ _) | (with_reducible assumption) | (with_reducible refine Below.alloc ?_ ?_ _) | (with_reducible refine below_drewN ?_ _) | (with_reducible refine Below.drew ?_) | (with_reducible refine Below.setCell ?_ ?_ _) | (with_reducible refine below_call (by assumption) ?_ ?_) | (with_reducible refine below_grown (by assumption) ?_ ?_ ?_) | omega | (simp; done) | (simp; omega)))
    have HBW := Lib.hid hbw
    have hb23 : Below w2.heap.size w2 w3 := below_call hb3 ((Below.refl _ _).alloc (Nat.le_refl _) _) (by simp)
    have HB23 := Lib.hid hb23
    clear ho7 hbx3 hbt hcx2 hfx2 a0 a1 a2 hbw hb3 hb2 hb23
    cases ok with
    | true =>
      have hl16 : rl.length = 16 := by have := steal_valid J1.out; rw [J2.out] at this; exact (validD_iff.1 this).1
      have hTx : ds' = ds.set j ⟨rl, rt, rb⟩ ∧ x = z := by
        have := HT.out
        simp only [turnD, HD1.out, HD2.out, K1.out, J1.out, if_true, J2.out, J3.out, Int.toNat_natCast, Prod.mk.injEq, Bool.false_eq_true, if_false] at this
        exact ⟨this.1.symm, this.2.symm⟩
      obtain ⟨rfl, rfl⟩ := hTx
      simp only [hl16] at HO7 ⊢
      have HL16 := Lib.hid hl16
      clear hl16
      obtain ⟨A5, c5, l5, t5, b5, hd5, a0, a1, a2, aI⟩ := HQ3.out.at_ (by rw [HN.out]; exact hj) HV.out
      obtain ⟨hs, cur, q1, _⟩ := HQ3.out.ex
      have hfq := blk_free q1
      have hlq := blk_lt q1
      clear q1 hd5 aI
      go_wp2_with fail
      go_ret2
      have hq3 : HasQs (((w3.setCell ⟨w2.heap.size, 0, none⟩ (.slice A7 16 c7)).setCell ⟨w2.heap.size, 1, none⟩ (.int .i64 rt)).setCell ⟨w2.heap.size, 2, none⟩ (.int .i64 rb)) g' ds r := HQ2.out.below (by have hb23 := HB23.out; (repeat' (first | (with_reducible exact Below.refl _ _) | (with_reducible assumption) | (with_reducible refine Below.alloc ?_ ?_ _) | (with_reducible refine below_drewN ?_ _) | (with_reducible refine Below.drew ?_) | (with_reducible refine Below.setCell ?_ ?_ _) | (with_reducible refine below_call (by assumption) ?_ ?_) | (with_reducible refine below_grown (by assumption) ?_ ?_ ?_) | omega | (simp; done) | (simp; omega))))
      have hI3 : IsI (((w3.setCell ⟨w2.heap.size, 0, none⟩ (.slice A7 16 c7)).setCell ⟨w2.heap.size, 1, none⟩ (.int .i64 rt)).setCell ⟨w2.heap.size, 2, none⟩ (.int .i64 rb)) A7 16 rl :=
        IsVs.grown HO7.out.isI (row := some w2.heap.size) (by repeat' (first | (with_reducible exact World.grownBy.refl _ _) | (with_reducible refine only_setCell ?_ (.inl rfl) _))) (fun x hx e => by
          cases A7 with
          | none => cases hx
          | some a => simp only [blkA, Option.map, Option.some.injEq] at hx e; have := HA7.out a rfl; omega)
      have hput := HasQs.put hq3 (j := j) (by rw [HN.out]; exact hj) (c := c7) (d := ⟨rl, rt, rb⟩) hI3 (fun a ha => by have := HA7.out a ha; omega) (sepA HR.out (fun a ha => by have := HA7.out a ha; omega))
      exact ⟨g', c', rfl, by rw [List.length_set]; exact HN.out, hput, hc1, hc2, hg1, by have hbw := HBW.out; (repeat' (first | (with_reducible exact Below.refl _ _) | (with_reducible assumption) | (with_reducible refine Below.alloc ?_ ?_ _) | (with_reducible refine below_drewN ?_ _) | (with_reducible refine Below.drew ?_) | (with_reducible refine Below.setCell ?_ ?_ _) | (with_reducible refine below_call (by assumption) ?_ ?_) | (with_reducible refine below_grown (by assumption) ?_ ?_ ?_) | omega | (simp; done) | (simp; omega)))⟩
    | false =>
      have hTx : ds' = ds ∧ x = -1 := by
        have := HT.out
        simp only [turnD, HD1.out, HD2.out, K1.out, J1.out, Bool.false_eq_true, if_false, Prod.mk.injEq] at this
        exact ⟨this.1.symm, this.2.symm⟩
      obtain ⟨rfl, rfl⟩ := hTx
      go_wp2_with fail
      go_ret2
      exact ⟨g', c', rfl, HN.out, HQ2.out.below (by have hb23 := HB23.out; (repeat' (first | (with_reducible exact Below.refl _ _) | (with_reducible assumption) | (with_reducible refine Below.alloc ?_ ?_ _) | (with_reducible refine below_drewN ?_ _) | (with_reducible refine Below.drew ?_) | (with_reducible refine Below.setCell ?_ ?_ _) | (with_reducible refine below_call (by assumption) ?_ ?_) | (with_reducible refine below_grown (by assumption) ?_ ?_ ?_) | omega | (simp; done) | (simp; omega)))), hc1, hc2, hg1, by have hbw := HBW.out; (repeat' (first | (with_reducible exact Below.refl _ _) | (with_reducible assumption) | (with_reducible refine Below.alloc ?_ ?_ _) | (with_reducible refine below_drewN ?_ _) | (with_reducible refine Below.drew ?_) | (with_reducible refine Below.setCell ?_ ?_ _) | (with_reducible refine below_call (by assumption) ?_ ?_) | (with_reducible refine below_grown (by assumption) ?_ ?_ ?_) | omega | (simp; done) | (simp; omega)))⟩

end Go.Proofs.Ytadpmigppjjmhaa
