/-
  How the reference's workers begin.
-/
import Derived.Test.YtadpmigppjjmhaaWkT
import Derived.Test.YtadpmigppjjmhaaPlW4
namespace Go.Proofs.Ytadpmigppjjmhaa
open Go.RowKit Pl

set_option linter.unusedSimpArgs false
set_option linter.unusedVariables false

/-- append of one queue that has just been written out. -/
theorem append_q {ops : Array Oper} {rest : List Oper} {o : Oper} {a : Act} {Q : Exit → Act → World → Prop} {w : World} (hgd : o.guard = none) (s x : Operand)
    (ho : o.op = .call { callee := .builtin .append, args := #[s, x], argTypes := #[50, 50] })
    (base : Nat) (v : Value) (ds : List Dq) (hs : a.eval s = v) (hown : OwnQs base w v ds) (g m : Nat) (A : Option Addr) (c : Nat) (l : List Int) (t b : Int) (T' : TypeId) (hx : a.eval x = .slice (some ⟨g, 0, none⟩) 1 m)
    (hg : w.heap[g]? = some (.cells #[.slice A 16 c, .int .i64 t, .int .i64 b] T' (0, 0))) (hI : IsI w A 16 l) (hsep : Sep (blkA A) v.ownBlock) (hbA : ∀ a, A = some a → base ≤ a.block) (hlen : ds.length ≤ 1000000) (hbase : base ≤ w.heap.size)
    (h : ∀ v' w', OwnQs base w' v' (ds ++ [⟨l, t, b⟩]) → w.grownBy w' v.ownBlock → (∀ g, v.ownBlock = some g → base ≤ g) → wpList Try.prog ops Q rest (a.put o.dst v') w') : wpList Try.prog ops Q (o :: rest) a w := by
  have hrow := hown.row
  obtain ⟨hds, h1, h2, h3⟩ := hown
  obtain ⟨i0, hi0, hz0, hz1, hz2⟩ := info_parts dq_info
  refine wpList_append_own_at w hgd s x _ ho base 56 i0 _ 3 40 Try.underlying50 hi0 hz0 hz1 hz2 rfl (by omega) v ds.length (cellsD hds ds) hs h1 ⟨g, 0, none⟩ 1 m [.slice A 16 c, .int .i64 t, .int .i64 b] hx rfl (news_blk hg)
    (fun u hu => by simp only [List.mem_cons, List.not_mem_nil, or_false] at hu; rcases hu with rfl | rfl | rfl <;> rfl) (by unfold maxLen; omega) (by omega) hbase ?_
  intro v' w' k1 k2 _ k4
  refine h v' w' ⟨hds ++ [.slice A 16 c], ?_, by simp [h2], fun i hd d e1 e2 => ?_⟩ k2 (fun g hg => (hrow g hg).1)
  · have e := cellsD_append hds ds (.slice A 16 c) ⟨l, t, b⟩ h2
    rw [e, List.length_append]
    exact k1
  · have hone : HdQ w (.slice A 16 c) ⟨l, t, b⟩ := ⟨A, c, rfl, hI⟩
    rcases Nat.lt_or_ge i ds.length with hi | hi
    · rw [List.getElem?_append_left (by omega)] at e1 e2
      obtain ⟨q1, q2⟩ := h3 i hd d e1 e2
      exact ⟨q1.grown k2 q2.1, q2.1.app k4 q1.lt, q2.2⟩
    · have hi' : i < (ds ++ [(⟨l, t, b⟩ : Dq)]).length := (List.getElem?_eq_some_iff.1 e2).1
      simp at hi'
      obtain rfl : i = ds.length := by omega
      rw [List.getElem?_append_right (by omega), h2] at e1
      simp at e1 e2
      subst e1; subst e2
      have hs' : Sep (Value.slice A 16 c).ownBlock v.ownBlock := by rw [blkA_own]; exact hsep
      exact ⟨hone.grown k2 hs', hs'.app k4 hone.lt, fun b hb => by
        rw [blkA_own] at hb
        cases A with
        | none => cases hb
        | some a => cases hb; exact hbA a rfl⟩

/-- How it begins. -/
def RetQ (count ws : Nat) (r : Option Nat) (w : World) (e : Ending) (w' : World) : Prop :=
  ∃ g c ds, e = .returned (.slice (some ⟨g, 0, none⟩) ws c) ∧ HasQs w' g ds r ∧ AllD ds ∧ ds.length = ws ∧ ds.map tilesD = (startW (count : Int) (ws : Int)).qs ∧ ws ≤ c ∧ c ≤ maxLen ∧ w.heap.size ≤ g ∧ Below w.heap.size w w'

/-- A queue in a block of its own. -/
structure OneQ (wo : World) (B t ws k : Nat) (w : World) : Prop where
  ex : ∃ (A : Option Addr) (c : Nat) (l : List Int) (b : Int), w.heap[B]? = some (.cells #[.slice A 16 c, .int .i64 0, .int .i64 b] 56 (0, 0)) ∧ IsI w A 16 l ∧ (∀ a, A = some a → wo.heap.size ≤ a.block ∧ a.block ≠ B) ∧ validD ⟨l, 0, b⟩ = true ∧ tilesD ⟨l, 0, b⟩ = startQ (t : Int) ws k

set_option maxRecDepth 100000 in
set_option maxHeartbeats 4000000 in
theorem start_any {count ws : Nat} (h1 : 1 ≤ ws) (h4 : ws ≤ 4) (h16 : count ≤ 16) {r : Option Nat} (w : World) (hr : ∀ b, r = some b → b < w.heap.size) : Calls Try.prog 22 #[.int .i64 (count : Int), .int .i64 (ws : Int)] w (RetQ count ws r w) := by
  have HR := Lib.hid hr
  clear hr
  go_enter Try.func22, Try.ntmps22
  have E0 : Hid (OwnQs w.heap.size (w.alloc (.cells #[] 56)) (.slice (some ⟨w.heap.size, 0, none⟩) 0 0) []) := Lib.hid (OwnQs.empty rfl (Nat.le_refl _) (by (repeat' (first | (with_reducible assumption) | (with_reducible exact blk_new _ _) | (with_reducible exact blk_new1 _ _ _) | (with_reducible exact blk_new2 _ _ _ _) | (with_reducible refine blk_alloc ?_ _) | (with_reducible refine blk_drewN ?_ _) | (with_reducible refine blk_down (by assumption) ?_) | (with_reducible refine blk_up (by assumption) (by omega) ?_) | (with_reducible refine blk_far ?_ _ (by simp; omega))))))
  go_wp2_with fail
  go_loopw [6, 5] (fun i v wr => ∃ (k : Nat) (ds : List Dq), k ≤ ws ∧ i = .int .i64 (k : Int) ∧ OwnQs w.heap.size wr v ds ∧ AllD ds ∧ ds.length = k ∧ ds.map tilesD = (List.range k).map (startQ (count : Int) (ws : Int)) ∧ Below w.heap.size w wr) (fun i _ _ => ws - (intOf i).toNat)
  case atStart => exact ⟨0, [], by omega, rfl, E0.out, (fun d (hd : d ∈ ([] : List Dq)) => by cases hd), rfl, rfl, by (repeat' (first | (with_reducible exact Below.refl _ _) | (with_reducible assumption) | (with_reducible refine Below.alloc ?_ ?_ _) | (with_reducible refine below_drewN ?_ _) | (with_reducible refine Below.drew ?_) | (with_reducible refine Below.setCell ?_ ?_ _) | (with_reducible refine below_call (by assumption) ?_ ?_) | (with_reducible refine below_grown (by assumption) ?_ ?_ ?_) | omega | (simp; done) | (simp; omega)))⟩
  case round =>
    obtain ⟨wo, rfl⟩ : ∃ wo : World, wo = wr := ⟨_, rfl⟩
    obtain ⟨k, ds, hk, rfl, hown, hall, hlen, hmap, hbel⟩ := hrel
    have hsz := hbel.size
    have HO := Lib.hid hown
    have HA := Lib.hid hall
    have HL := Lib.hid hlen
    have HM := Lib.hid hmap
    have HB := Lib.hid hbel
    clear hown hall hlen hmap hbel E0
    by_cases hlt : k < ws
    · have eb : decide ((k : Int) < ws) = true := decide_eq_true (by omega)
      have hki : (k : Int) < ws := by omega
      go_wp2_with fail
      refine (sNewDeque_any _).mono ?_
      rintro e w1 ⟨A, c, rfl, ho1, hb1⟩
      have hz1 := hb1.size
      obtain ⟨A', c', e', _, _, hI1, hA1⟩ := ho1.form
      cases e'
      have hAlt : ∀ a, A = some a → a.block < w1.heap.size := fun a ha => by
        obtain ⟨b, o, e, hb, _⟩ := hI1.2 (by decide)
        rw [ha] at e; cases e; exact hb
      have hOne : OneQ wo w1.heap.size k ws k (w1.alloc (.cells #[.slice A 16 c, .int .i64 0, .int .i64 0] 56)) :=
        ⟨A, c, newD.s, 0, blk_new _ _, hI1.below (by (repeat' (first | (with_reducible exact Below.refl _ _) | (with_reducible assumption) | (with_reducible refine Below.alloc ?_ ?_ _) | (with_reducible refine below_drewN ?_ _) | (with_reducible refine Below.drew ?_) | (with_reducible refine Below.setCell ?_ ?_ _) | (with_reducible refine below_call (by assumption) ?_ ?_) | (with_reducible refine below_grown (by assumption) ?_ ?_ ?_) | omega | (simp; done) | (simp; omega)))), fun a ha => ⟨hA1 a ha, by have := hAlt a ha; omega⟩, new_valid, start_new hlt⟩
      have HOne := Lib.hid hOne
      have HB1 : Hid (Below wo.heap.size wo w1) := Lib.hid hb1
      have hml : k % ws = k := Nat.mod_eq_of_lt hlt
      clear hOne ho1 hI1 hA1 hAlt hb1
      go_wp2_with fail
      go_loopw [8] (fun i wr => ∃ t : Nat, i = .int .i64 (t : Int) ∧ (t < count + ws ∨ t = k) ∧ t ≤ 20 ∧ t % ws = k ∧ OneQ wo w1.heap.size t ws k wr ∧ w1.heap.size < wr.heap.size ∧ Below wo.heap.size wo wr) (fun i _ => 30 - (intOf i).toNat)
      case atStart => exact ⟨k, rfl, .inr rfl, by omega, hml, HOne.out, by simp, by have hb1 := HB1.out; (repeat' (first | (with_reducible exact Below.refl _ _) | (with_reducible assumption) | (with_reducible refine Below.alloc ?_ ?_ _) | (with_reducible refine below_drewN ?_ _) | (with_reducible refine Below.drew ?_) | (with_reducible refine Below.setCell ?_ ?_ _) | (with_reducible refine below_call (by assumption) ?_ ?_) | (with_reducible refine below_grown (by assumption) ?_ ?_ ?_) | omega | (simp; done) | (simp; omega)))⟩
      case round =>
        obtain ⟨wi, rfl⟩ : ∃ wi : World, wi = wr := ⟨_, rfl⟩
        obtain ⟨t, rfl, ht, ht20, htm, hone, hBl, hbel⟩ := hrel
        have hsz2 := hbel.size
        obtain ⟨A2, c2, l2, b2, hblk, hI2, hA2, hv2, ht2⟩ := hone.ex
        have HBK := Lib.hid hblk
        have HI2 := Lib.hid hI2
        have HA2 := Lib.hid hA2
        have HV2 := Lib.hid hv2
        have HT2 := Lib.hid ht2
        have HBI := Lib.hid hbel
        have hcb := blk_cell hblk
        have hfb := blk_free hblk
        clear hone hblk hI2 hA2 hv2 ht2 HOne hbel
        by_cases hlt2 : t < count
        · have eb2 : decide ((t : Int) < count) = true := decide_eq_true (by omega)
          have hki2 : (t : Int) < count := by omega
          obtain ⟨hpo, ql, hpr, hql, hqv, hqt, hb0, hb16⟩ := start_push HV2.out HT2.out (by omega) h1 hlt htm
          have K1 := Lib.hid hpo
          have K2 := Lib.hid hpr
          have HQV := Lib.hid hqv
          have HQT := Lib.hid hqt
          clear hpo hpr hqv hqt
          go_wp2_with fail
          refine (sPushTile_eq c2 HI2.out (by omega) (by omega) (by omega) K1.out K2.out).mono ?_
          rintro e w3 ⟨A3, c3, rfl, ho3, hb3⟩
          have hz3 := hb3.size
          simp only [hql] at ho3 ⊢
          have HI3 := Lib.hid ho3.isI
          have HA3 : Hid (∀ a, A3 = some a → wi.heap.size ≤ a.block) := Lib.hid (by
            obtain ⟨A', c'', e, _, _, _, h⟩ := ho3.form
            rw [hql] at e; cases e; exact h)
          have hb33 := blk_below HBK.out hb3
          have HB33 := Lib.hid hb33
          have hc3 := blk_cell hb33
          have hf3 := blk_free hb33
          have HBX : Hid (Below wo.heap.size wo w3) := Lib.hid (below_call hb3 HBI.out (by omega))
          have hmm : (t + ws) % ws = k := by rw [Nat.add_mod_right]; exact htm
          have s1 : IntKind.i64.wrap ((t : Int) + (ws : Int)) = ((t + ws : Nat) : Int) := by rw [IntWalk.i64_in _ (by omega)]; push_cast; rfl
          have HL16 := Lib.hid hql
          clear ho3 hb33 hb3 hcb hfb hql
          go_wp2
          go_roundw
          case rel =>
            refine ⟨t + ws, by push_cast; rfl, .inl (by omega), by omega, hmm, ⟨A3, c3, ql, b2 + 1, blk_set3 HB33.out _ _ _, ?_, fun a ha => by have := HA3.out a ha; omega, HQV.out, HQT.out⟩, by simp; omega, by have hbx := HBX.out; (repeat' (first | (with_reducible exact Below.refl _ _) | (with_reducible assumption) | (with_reducible refine Below.alloc ?_ ?_ _) | (with_reducible refine below_drewN ?_ _) | (with_reducible refine Below.drew ?_) | (with_reducible refine Below.setCell ?_ ?_ _) | (with_reducible refine below_call (by assumption) ?_ ?_) | (with_reducible refine below_grown (by assumption) ?_ ?_ ?_) | omega | (simp; done) | (simp; omega)))⟩
            exact IsVs.grown HI3.out (row := some w1.heap.size) (by repeat' (first | (with_reducible exact World.grownBy.refl _ _) | (with_reducible refine only_setCell ?_ (.inl rfl) _))) (fun x hx e => by
              cases A3 with
              | none => cases hx
              | some a => simp only [blkA, Option.map, Option.some.injEq] at hx e; have := HA3.out a rfl; omega)
          case measure => simp [intOf]; omega
        · have eb2 : decide ((t : Int) < count) = false := decide_eq_false (by omega)
          have hlast := startQ_last hlt (by omega : count ≤ t) ht htm
          have HLA := Lib.hid hlast
          clear hlast
          go_wp2_with (at_builtin
                       refine append_q rfl (.tmp 29) (.tmp 31) rfl w.heap.size _ ds rfl (HO.out.below (by have hbi := HBI.out; (repeat' (first | (with_reducible exact Below.refl _ _) | (with_reducible assumption) | (with_reducible refine Below.alloc ?_ ?_ _) | (with_reducible refine below_drewN ?_ _) | (with_reducible refine Below.drew ?_) | (with_reducible refine Below.setCell ?_ ?_ _) | (with_reducible refine below_call (by assumption) ?_ ?_) | (with_reducible refine below_grown (by assumption) ?_ ?_ ?_) | omega | (simp; done) | (simp; omega))))) _ 1 A2 c2 l2 0 b2 _ rfl (by (repeat' (first | (with_reducible assumption) | (with_reducible exact blk_new _ _) | (with_reducible exact blk_new1 _ _ _) | (with_reducible exact blk_new2 _ _ _ _) | (with_reducible refine blk_alloc ?_ _) | (with_reducible refine blk_drewN ?_ _) | (with_reducible refine blk_down (by assumption) ?_) | (with_reducible refine blk_up (by assumption) (by omega) ?_) | (with_reducible refine blk_far ?_ _ (by simp; omega))))) (HI2.out.below (by (repeat' (first | (with_reducible exact Below.refl _ _) | (with_reducible assumption) | (with_reducible refine Below.alloc ?_ ?_ _) | (with_reducible refine below_drewN ?_ _) | (with_reducible refine Below.drew ?_) | (with_reducible refine Below.setCell ?_ ?_ _) | (with_reducible refine below_call (by assumption) ?_ ?_) | (with_reducible refine below_grown (by assumption) ?_ ?_ ?_) | omega | (simp; done) | (simp; omega))))) ?_ (fun a ha => by have := (HA2.out a ha).1; omega) (by rw [HL.out]; omega) (by simp; omega) ?_
                       rotate_left 1
                       intro v3 w4 hown4 hg4 hr4)
          · have hall : AllD (ds ++ [⟨l2, 0, b2⟩]) := HA.out.append HV2.out
            have hbi := HBI.out
            refine ⟨⟨k + 1, ds ++ [⟨l2, 0, b2⟩], by omega, congrArg (Value.int .i64) (by push_cast; omega), hown4, hall, by rw [List.length_append, HL.out]; rfl, ?_, below_own hg4 (by have hb := HB.out; (repeat' (first | (with_reducible exact Below.refl _ _) | (with_reducible assumption) | (with_reducible refine Below.alloc ?_ ?_ _) | (with_reducible refine below_drewN ?_ _) | (with_reducible refine Below.drew ?_) | (with_reducible refine Below.setCell ?_ ?_ _) | (with_reducible refine below_call (by assumption) ?_ ?_) | (with_reducible refine below_grown (by assumption) ?_ ?_ ?_) | omega | (simp; done) | (simp; omega)))) (by simp; omega) hr4⟩, ?_⟩
            · rw [List.map_append, HM.out, List.range_succ, List.map_append]
              simp only [List.map_cons, List.map_nil]
              rw [HT2.out, HLA.out]
            · simp [intOf]; omega
          · exact fun x hx e => by
              have := (HO.out.row x e).2
              cases A2 with
              | none => cases hx
              | some a => simp only [blkA, Option.map, Option.some.injEq] at hx; have := (HA2.out a rfl).1; omega
    · obtain rfl : k = ws := by omega
      have eb : decide ((k : Int) < k) = false := by simp
      obtain ⟨g, c, e, q1, q2, q3, q4⟩ := HO.out.open (by rw [HL.out]; omega) HR.out
      rw [HL.out] at e q2
      subst e
      have HQ := Lib.hid q4
      clear q4
      go_wp2
      go_ret
      exact ⟨g, c, ds, rfl, HQ.out, HA.out, HL.out, by rw [HM.out]; simp [startW], q2, q3, q1, HB.out⟩

end Go.Proofs.Ytadpmigppjjmhaa
