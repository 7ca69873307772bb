/-
  Points appended; points moved, of the reference; points compared.
-/
import Derived.Test.YtnmbeocgnmnpfaaPtsG
namespace Go.Proofs.Ytnmbeocgnmnpfaa
open Go.RowKit Pl

set_option linter.unusedSimpArgs false
set_option linter.unusedVariables false

theorem news_blk {w : World} {g : Nat} {cs : Array Value} {T : TypeId} (h : w.heap[g]? = some (.cells cs T (0, 0))) : ∀ j u, cs.toList[j]? = some u → w.cell? ((⟨g, 0, none⟩ : Addr).add j) = some u := fun j u hu => by
  have hadd : (⟨g, 0, none⟩ : Addr).add j = ⟨g, j, none⟩ := by by_cases h : j = 0 <;> simp [Addr.add, h]
  rw [hadd, blk_cell h, ← hu, Array.getElem?_toList]

/-- append of one point that has just been written out. -/
theorem append_pts {ops : Array Oper} {rest : List Oper} {o : Oper} {a : Act} {Q : Exit → Act → World → Prop} {w : World} (hgd : o.guard = none) (s x : Operand)
    (ho : o.op = .call { callee := .builtin .append, args := #[s, x], argTypes := #[23, 23] })
    (base : Nat) (v : Value) (l : List Pt) (hs : a.eval s = v) (hown : OwnPts base w v l) (g m : Nat) (px py : Int) (T' : TypeId) (hx : a.eval x = .slice (some ⟨g, 0, none⟩) 1 m)
    (hg : w.heap[g]? = some (.cells #[.int .i64 px, .int .i64 py] T' (0, 0))) (hlen : l.length ≤ 1000000) (hbase : base ≤ w.heap.size)
    (h : ∀ v' w', OwnPts base w' v' (l ++ [(px, py)]) → w.grownBy w' v.ownBlock → wpList Try.prog ops Q rest (a.put o.dst v') w') : wpList Try.prog ops Q (o :: rest) a w := by
  obtain ⟨i0, hi0, hz0, hz1, hz2⟩ := info_parts pt_info
  refine wpList_append_own w hgd s x _ ho base 30 i0 _ 2 16 Try.underlying23 hi0 hz0 hz1 hz2 rfl (by omega) v l.length (cellsP l) hs hown ⟨g, 0, none⟩ 1 m [.int .i64 px, .int .i64 py] hx rfl (news_blk hg)
    (fun u hu => by simp only [List.mem_cons, List.not_mem_nil, or_false] at hu; rcases hu with rfl | rfl <;> rfl) (by unfold maxLen; omega) (by omega) hbase ?_
  intro v' w' h1 h2 _
  refine h v' w' ?_ h2
  have e : cellsP (l ++ [(px, py)]) = cellsP l ++ [.int .i64 px, .int .i64 py] := by rw [cellsP_append]; rfl
  unfold OwnPts
  rw [e, List.length_append]
  exact h1

theorem movedL_take {l : List Pt} {x y : Int} {k : Nat} (hk : k < l.length) : (movedL l x y).take (k + 1) = (movedL l x y).take k ++ [(px l k + x, py l k + y)] := by
  have hk' : k < (movedL l x y).length := by rw [movedL_len]; exact hk
  rw [List.take_succ_eq_append_getElem hk']
  have := movedL_at l x y hk
  congr 2
  have e : (movedL l x y)[k] = (px (movedL l x y) k, py (movedL l x y) k) := by simp [px, py, hk']
  rw [e, this.1, this.2]

set_option maxHeartbeats 2000000 in
theorem sMovePoints_eq {A : Option Addr} {n : Nat} {l : List Pt} {w : World} {x y : Int} {m : List Pt} {ok : Bool} (c : Nat) (h : IsPts w A n l) (hn : n ≤ 1000000000000) (hok : moveOk l x y = ok) (hm : moveR l x y = m) :
    Calls Try.prog 17 #[.slice A n c, .int .i64 x, .int .i64 y] w (RetPOk m ok w) := by
  subst hm
  unfold moveR
  rw [hok]
  unfold moveOk at hok
  have HP := Lib.hid h
  clear h
  rcases Bool.eq_false_or_eq_true (validL l) with h1 | h1
  · rcases Bool.eq_false_or_eq_true (inB x (-1000) 1000) with h2 | h2
    · rcases Bool.eq_false_or_eq_true (inB y (-1000) 1000) with h3 | h3
      · rw [h1, h2, h3] at hok
        simp only [Bool.true_and] at hok
        have e2 := inB_true.1 h2
        have e3 := inB_true.1 h3
        have h40 : n ≤ 40 := by have := validL_len h1; have := HP.out.1; omega
        have H1 := Lib.hid h1
        have H2 := Lib.hid h2
        have H3 := Lib.hid h3
        have H4 := Lib.hid hok
        clear h1 h2 h3 hok
        obtain ⟨x0, x1⟩ := e2
        obtain ⟨y0, y1⟩ := e3
        cases ok
        all_goals
          simp only [Bool.false_eq_true, if_false, if_true]
          go_enter Try.func17, Try.ntmps17
          go_wp2_with fail
          refine (validPoints_eq c (HP.out.below (by (repeat' (first | (with_reducible exact Below.refl _ _) | (with_reducible assumption) | (with_reducible refine Below.alloc ?_ ?_ _) | (with_reducible refine below_drewN ?_ _) | (with_reducible refine Below.drew ?_) | (with_reducible refine Below.setCell ?_ ?_ _) | (with_reducible refine below_call (by assumption) ?_ ?_) | go_size)))) hn (Hid.out (by with_reducible assumption))).mono ?_
          rintro e w1 ⟨rfl, hb⟩
          have hz1 := hb.size
          simp at hz1
          have E0 : Hid (OwnPts w.heap.size w1 (.slice (some ⟨w.heap.size, 0, none⟩) 0 0) []) := Lib.hid (OwnPts.empty rfl (Nat.le_refl _) (blk_below (blk_new w _) hb))
          have hb1 : Below w.heap.size w w1 := by (repeat' (first | (with_reducible exact Below.refl _ _) | (with_reducible assumption) | (with_reducible refine Below.alloc ?_ ?_ _) | (with_reducible refine below_drewN ?_ _) | (with_reducible refine Below.drew ?_) | (with_reducible refine Below.setCell ?_ ?_ _) | (with_reducible refine below_call (by assumption) ?_ ?_) | (with_reducible refine below_grown (by assumption) ?_ ?_ ?_) | omega | (simp; done) | (simp; omega)))
          clear hb
          go_wp2_with (go_at_call 34; (with_reducible refine (inRange_eq (Hid.out (by with_reducible assumption)) _).mono ?_); rintro e w1 ⟨rfl, rfl⟩)
          go_loopw [9, 8] (fun i v wr => ∃ k : Nat, k ≤ n ∧ i = .int .i64 k ∧ OwnPts w.heap.size wr v ((movedL l x y).take k) ∧ Below w.heap.size w wr) (fun i _ _ => n - (intOf i).toNat)
          case atStart => exact ⟨0, by omega, rfl, E0.out, hb1⟩
          case round =>
            obtain ⟨k, hk, rfl, hown, hbel⟩ := hrel
            have hsz := hbel.size
            have HO := Lib.hid hown
            clear hown E0
            by_cases hlt : k < n
            · have eb : decide ((k : Int) < n) = true := by simp; omega
              have hlt' : k < l.length := by rw [HP.out.1]; exact hlt
              obtain ⟨b, o, rfl, hbl, c0, c1⟩ := (HP.out.below hbel).at_ hlt
              obtain ⟨v1, v2, v3, v4⟩ := validL_at H1.out hlt'
              have s1 : IntKind.i64.wrap (px l k + x) = px l k + x := IntWalk.i64_in _ (by omega)
              have s2 : IntKind.i64.wrap (py l k + y) = py l k + y := IntWalk.i64_in _ (by omega)
              have hki : (k : Int) < n := by omega
              go_wp2_with fail
              apply wp_region_pure (by kernel_rfl) ([] :: [] :: [] :: [1, 2] :: [3] :: [4] :: [] :: [5, 6] :: [] :: [] :: [8, 9] :: [10] :: [11] :: [] :: [12, 13] :: [7, 14] :: [15] :: []) (RS.det [] _ :: RS.det [] _ :: RS.det [] _ :: RS.det [1, 2] _ :: RS.det [3] _ :: RS.det [4] _ :: RS.det [] _ :: RS.det [5, 6] _ :: RS.det [] _ :: RS.det [] _ :: RS.det [8, 9] _ :: RS.det [10] _ :: RS.det [11] _ :: RS.det [] _ :: RS.det [12, 13] _ :: RS.det [7, 14] _ :: RS.sl [15] _ _ _ _ :: []) [] rfl (by kernel_rfl) (fun h => absurd rfl h) (by kernel_rfl) (by kernel_rfl) (st_det (st_det (st_det (st_det (st_det (st_det (st_det (st_det (st_det (st_det (st_det (st_det (st_det (st_det (st_det (st_det (st_sl st_nil))))))))))))))))) _ (fun v => by simp; rfl)
              case hop =>
                simp only [Obls]
                refine ⟨?_, ?_, ?_, ?_, ?_, ?_, ?_, ?_, ?_, ?_, ?_, ?_, ?_, ?_, ?_, ?_, ?_, trivial⟩
                · (intro v w1 K hb hF hK; (try simp at hF); simp at hK; (try simp only [hF] at hK); have hz := hb.size; (try simp at hz))
                  go_simp
                  (try simp only [])
                  exact hK _ _ rfl (by (repeat' (first | (with_reducible exact Below.refl _ _) | (with_reducible assumption) | (with_reducible refine Below.alloc ?_ ?_ _) | (with_reducible refine below_drewN ?_ _) | (with_reducible refine Below.drew ?_) | (with_reducible refine Below.setCell ?_ ?_ _) | (with_reducible refine below_call (by assumption) ?_ ?_) | go_size)))
                · (intro v w1 K hb hF hK; (try simp at hF); simp at hK; (try simp only [hF] at hK); have hz := hb.size; (try simp at hz))
                  go_simp
                  (try simp only [])
                  exact hK _ _ rfl (by (repeat' (first | (with_reducible exact Below.refl _ _) | (with_reducible assumption) | (with_reducible refine Below.alloc ?_ ?_ _) | (with_reducible refine below_drewN ?_ _) | (with_reducible refine Below.drew ?_) | (with_reducible refine Below.setCell ?_ ?_ _) | (with_reducible refine below_call (by assumption) ?_ ?_) | go_size)))
                · (intro v w1 K hb hF hK; (try simp at hF); simp at hK; (try simp only [hF] at hK); have hz := hb.size; (try simp at hz))
                  go_simp
                  (try simp only [])
                  exact hK _ _ rfl (by (repeat' (first | (with_reducible exact Below.refl _ _) | (with_reducible assumption) | (with_reducible refine Below.alloc ?_ ?_ _) | (with_reducible refine below_drewN ?_ _) | (with_reducible refine Below.drew ?_) | (with_reducible refine Below.setCell ?_ ?_ _) | (with_reducible refine below_call (by assumption) ?_ ?_) | go_size)))
                · (intro v w1 K hb hF hK; (try simp at hF); simp at hK; (try simp only [hF] at hK); have hz := hb.size; (try simp at hz))
                  go_simp
                  (try simp only [])
                  exact hK _ _ rfl (by (repeat' (first | (with_reducible exact Below.refl _ _) | (with_reducible assumption) | (with_reducible refine Below.alloc ?_ ?_ _) | (with_reducible refine below_drewN ?_ _) | (with_reducible refine Below.drew ?_) | (with_reducible refine Below.setCell ?_ ?_ _) | (with_reducible refine below_call (by assumption) ?_ ?_) | go_size)))
                · (intro v w1 K hb hF hK; (try simp at hF); simp at hK; (try simp only [hF] at hK); have hz := hb.size; (try simp at hz))
                  go_simp
                  (try simp only [])
                  exact hK _ _ rfl (by (repeat' (first | (with_reducible exact Below.refl _ _) | (with_reducible assumption) | (with_reducible refine Below.alloc ?_ ?_ _) | (with_reducible refine below_drewN ?_ _) | (with_reducible refine Below.drew ?_) | (with_reducible refine Below.setCell ?_ ?_ _) | (with_reducible refine below_call (by assumption) ?_ ?_) | go_size)))
                · (intro v w1 K hb hF hK; (try simp at hF); simp at hK; (try simp only [hF] at hK); have hz := hb.size; (try simp at hz); (try (have hk := bcl hb (b) (by first | omega | (simp; done) | (simp; omega)); have hc := hk.1; have hf := hk.2.1; have hk := hk.2.2)))
                  go_simp
                  (try simp only [])
                  exact hK _ _ rfl (by (repeat' (first | (with_reducible exact Below.refl _ _) | (with_reducible assumption) | (with_reducible refine Below.alloc ?_ ?_ _) | (with_reducible refine below_drewN ?_ _) | (with_reducible refine Below.drew ?_) | (with_reducible refine Below.setCell ?_ ?_ _) | (with_reducible refine below_call (by assumption) ?_ ?_) | go_size)))
                · (intro v w1 K hb hF hK; (try simp at hF); simp at hK; (try simp only [hF] at hK); have hz := hb.size; (try simp at hz))
                  go_simp
                  (try simp only [])
                  exact hK _ _ rfl (by (repeat' (first | (with_reducible exact Below.refl _ _) | (with_reducible assumption) | (with_reducible refine Below.alloc ?_ ?_ _) | (with_reducible refine below_drewN ?_ _) | (with_reducible refine Below.drew ?_) | (with_reducible refine Below.setCell ?_ ?_ _) | (with_reducible refine below_call (by assumption) ?_ ?_) | go_size)))
                · (intro v w1 K hb hF hK; (try simp at hF); simp at hK; (try simp only [hF] at hK); have hz := hb.size; (try simp at hz))
                  go_simp
                  (try simp only [])
                  exact hK _ _ rfl (by (repeat' (first | (with_reducible exact Below.refl _ _) | (with_reducible assumption) | (with_reducible refine Below.alloc ?_ ?_ _) | (with_reducible refine below_drewN ?_ _) | (with_reducible refine Below.drew ?_) | (with_reducible refine Below.setCell ?_ ?_ _) | (with_reducible refine below_call (by assumption) ?_ ?_) | go_size)))
                · (intro v w1 K hb hF hK; (try simp at hF); simp at hK; (try simp only [hF] at hK); have hz := hb.size; (try simp at hz))
                  go_simp
                  (try simp only [])
                  exact hK _ _ rfl (by (repeat' (first | (with_reducible exact Below.refl _ _) | (with_reducible assumption) | (with_reducible refine Below.alloc ?_ ?_ _) | (with_reducible refine below_drewN ?_ _) | (with_reducible refine Below.drew ?_) | (with_reducible refine Below.setCell ?_ ?_ _) | (with_reducible refine below_call (by assumption) ?_ ?_) | go_size)))
                · (intro v w1 K hb hF hK; (try simp at hF); simp at hK; (try simp only [hF] at hK); have hz := hb.size; (try simp at hz))
                  go_simp
                  (try simp only [])
                  exact hK _ _ rfl (by (repeat' (first | (with_reducible exact Below.refl _ _) | (with_reducible assumption) | (with_reducible refine Below.alloc ?_ ?_ _) | (with_reducible refine below_drewN ?_ _) | (with_reducible refine Below.drew ?_) | (with_reducible refine Below.setCell ?_ ?_ _) | (with_reducible refine below_call (by assumption) ?_ ?_) | go_size)))
                · (intro v w1 K hb hF hK; (try simp at hF); simp at hK; (try simp only [hF] at hK); have hz := hb.size; (try simp at hz))
                  go_simp
                  (try simp only [])
                  exact hK _ _ rfl (by (repeat' (first | (with_reducible exact Below.refl _ _) | (with_reducible assumption) | (with_reducible refine Below.alloc ?_ ?_ _) | (with_reducible refine below_drewN ?_ _) | (with_reducible refine Below.drew ?_) | (with_reducible refine Below.setCell ?_ ?_ _) | (with_reducible refine below_call (by assumption) ?_ ?_) | go_size)))
                · (intro v w1 K hb hF hK; (try simp at hF); simp at hK; (try simp only [hF] at hK); have hz := hb.size; (try simp at hz))
                  go_simp
                  (try simp only [])
                  exact hK _ _ rfl (by (repeat' (first | (with_reducible exact Below.refl _ _) | (with_reducible assumption) | (with_reducible refine Below.alloc ?_ ?_ _) | (with_reducible refine below_drewN ?_ _) | (with_reducible refine Below.drew ?_) | (with_reducible refine Below.setCell ?_ ?_ _) | (with_reducible refine below_call (by assumption) ?_ ?_) | go_size)))
                · (intro v w1 K hb hF hK; (try simp at hF); simp at hK; (try simp only [hF] at hK); have hz := hb.size; (try simp at hz); (try (have hk := bcl hb (b) (by first | omega | (simp; done) | (simp; omega)); have hc := hk.1; have hf := hk.2.1; have hk := hk.2.2)))
                  go_simp
                  (try simp only [])
                  exact hK _ _ rfl (by (repeat' (first | (with_reducible exact Below.refl _ _) | (with_reducible assumption) | (with_reducible refine Below.alloc ?_ ?_ _) | (with_reducible refine below_drewN ?_ _) | (with_reducible refine Below.drew ?_) | (with_reducible refine Below.setCell ?_ ?_ _) | (with_reducible refine below_call (by assumption) ?_ ?_) | go_size)))
                · (intro v w1 K hb hF hK; (try simp at hF); simp at hK; (try simp only [hF] at hK); have hz := hb.size; (try simp at hz))
                  go_simp
                  (try simp only [])
                  exact hK _ _ rfl (by (repeat' (first | (with_reducible exact Below.refl _ _) | (with_reducible assumption) | (with_reducible refine Below.alloc ?_ ?_ _) | (with_reducible refine below_drewN ?_ _) | (with_reducible refine Below.drew ?_) | (with_reducible refine Below.setCell ?_ ?_ _) | (with_reducible refine below_call (by assumption) ?_ ?_) | go_size)))
                · (intro v w1 K hb hF hK; (try simp at hF); simp at hK; (try simp only [hF] at hK); have hz := hb.size; (try simp at hz))
                  go_simp
                  (try simp only [])
                  exact hK _ _ rfl (by (repeat' (first | (with_reducible exact Below.refl _ _) | (with_reducible assumption) | (with_reducible refine Below.alloc ?_ ?_ _) | (with_reducible refine below_drewN ?_ _) | (with_reducible refine Below.drew ?_) | (with_reducible refine Below.setCell ?_ ?_ _) | (with_reducible refine below_call (by assumption) ?_ ?_) | go_size)))
                · (intro v w1 K hb hF hK; (try simp at hF); simp at hK; (try simp only [hF] at hK); have hz := hb.size; (try simp at hz))
                  go_simp
                  (try simp only [])
                  exact hK _ _ rfl (by (repeat' (first | (with_reducible exact Below.refl _ _) | (with_reducible assumption) | (with_reducible refine Below.alloc ?_ ?_ _) | (with_reducible refine below_drewN ?_ _) | (with_reducible refine Below.drew ?_) | (with_reducible refine Below.setCell ?_ ?_ _) | (with_reducible refine below_call (by assumption) ?_ ?_) | go_size)))
                · (intro v w1 K hb hF hK; (try simp at hF); simp at hK; (try simp only [hF] at hK); have hz := hb.size; (try simp at hz))
                  go_simp
                  (try simp only [])
                  exact hK _ _ (isSl_new _ _ _ hb.size) (by (repeat' (first | (with_reducible exact Below.refl _ _) | (with_reducible assumption) | (with_reducible refine Below.alloc ?_ ?_ _) | (with_reducible refine below_drewN ?_ _) | (with_reducible refine Below.drew ?_) | (with_reducible refine Below.setCell ?_ ?_ _) | (with_reducible refine below_call (by assumption) ?_ ?_) | go_size)))
              case hfo => exact trivial
              (intro v w1 hb hF; simp [List.range, List.range.loop] at hF; have hz := hb.size; (try simp at hz); (try (have hk := bcl hb (b) (by first | omega | (simp; done) | (simp; omega)); have hc := hk.1; have hf := hk.2.1; have hk := hk.2.2)))
              obtain ⟨e0, e1, e2, e3, e4, e5, e6, e7, e8, e9, e10, e11, e12, e13, e14, e15, g, e16, hg, hgs, hgb⟩ := hF
              simp only [List.length_cons, List.length_nil, List.drop_succ_cons, List.drop_zero, e0, e1, e2, e3, e4, e5, e6, e7, e8, e9, e10, e11, e12, e13, e14, e15, e16]
              clear e0 e1 e2 e3 e4 e5 e6 e7 e8 e9 e10 e11 e12 e13 e14 e15 e16 v
              have hcg := blk_cell hgb; have hfg := blk_free hgb; have Hg := Lib.hid hgb; clear hgb; (try simp at hg)
              clear s1 s2
              go_wp2_with (at_builtin
                           refine append_pts rfl (.tmp 30) (.tmp 46) rfl w.heap.size _ _ rfl (HO.out.below hb) g 1 _ _ _ rfl Hg.out (by rw [List.length_take, movedL_len]; omega) (by omega) ?_
                           intro v2 w2 hown2 hg2)
              go_roundw
              case rel => exact ⟨k + 1, by omega, by go_num, by rw [movedL_take hlt']; exact hown2, grown_own hg2 (by (repeat' (first | (with_reducible exact Below.refl _ _) | (with_reducible assumption) | (with_reducible refine Below.alloc ?_ ?_ _) | (with_reducible refine below_drewN ?_ _) | (with_reducible refine Below.drew ?_) | (with_reducible refine Below.setCell ?_ ?_ _) | (with_reducible refine below_call (by assumption) ?_ ?_) | (with_reducible refine below_grown (by assumption) ?_ ?_ ?_) | omega | (simp; done) | (simp; omega)))) (by omega) (HO.out.row)⟩
              case measure => simp [intOf]; omega
            · obtain rfl : k = n := by omega
              have eb : decide ((k : Int) < k) = false := by simp
              have hml : (movedL l x y).length = k := by rw [movedL_len]; exact HP.out.1
              have HO2 : Hid (OwnPts w.heap.size wr _ (movedL l x y)) := Lib.hid (by have := HO.out; rwa [List.take_of_length_le (by omega)] at this)
              obtain ⟨A2, c2, e2, k1, k2, k3, k4⟩ := HO2.out.form
              subst e2
              have K1 := Lib.hid k1
              have ML := Lib.hid hml
              clear k1 k2 k3 k4 hml
              have hml2 : (movedL l x y).length ≤ 40 := by rw [ML.out]; omega
              go_wp2_with fail
              refine (validPoints_eq c2 K1.out (by omega) (Hid.out (by with_reducible assumption))).mono ?_
              rintro e w3 ⟨rfl, hb3⟩
              have hz3 := hb3.size
              go_wp2
              go_ret2
              first
                | exact ⟨_, rfl, OwnP.nil _ _, by (repeat' (first | (with_reducible exact Below.refl _ _) | (with_reducible assumption) | (with_reducible refine Below.alloc ?_ ?_ _) | (with_reducible refine below_drewN ?_ _) | (with_reducible refine Below.drew ?_) | (with_reducible refine Below.setCell ?_ ?_ _) | (with_reducible refine below_call (by assumption) ?_ ?_) | (with_reducible refine below_grown (by assumption) ?_ ?_ ?_) | omega | (simp; done) | (simp; omega)))⟩
                | exact ⟨_, rfl, HO2.out.weak.below hb3, by (repeat' (first | (with_reducible exact Below.refl _ _) | (with_reducible assumption) | (with_reducible refine Below.alloc ?_ ?_ _) | (with_reducible refine below_drewN ?_ _) | (with_reducible refine Below.drew ?_) | (with_reducible refine Below.setCell ?_ ?_ _) | (with_reducible refine below_call (by assumption) ?_ ?_) | (with_reducible refine below_grown (by assumption) ?_ ?_ ?_) | omega | (simp; done) | (simp; omega)))⟩
      · rw [h1, h2, h3] at hok
        simp only [Bool.false_and, Bool.and_false] at hok
        subst hok
        simp only [Bool.false_eq_true, if_false]
        have H1 := Lib.hid h1
        have H2 := Lib.hid h2
        have H3 := Lib.hid h3
        clear h1 h2 h3
        go_enter Try.func17, Try.ntmps17
        go_wp2_with fail
        refine (validPoints_eq c (HP.out.below (by (repeat' (first | (with_reducible exact Below.refl _ _) | (with_reducible assumption) | (with_reducible refine Below.alloc ?_ ?_ _) | (with_reducible refine below_drewN ?_ _) | (with_reducible refine Below.drew ?_) | (with_reducible refine Below.setCell ?_ ?_ _) | (with_reducible refine below_call (by assumption) ?_ ?_) | go_size)))) hn (Hid.out (by with_reducible assumption))).mono ?_
        rintro e w1 ⟨rfl, hb⟩
        go_wp2_with (go_at_call 34; (with_reducible refine (inRange_eq (Hid.out (by with_reducible assumption)) _).mono ?_); rintro e w1 ⟨rfl, rfl⟩)
        go_ret2
        exact ⟨_, rfl, OwnP.nil _ _, by (repeat' (first | (with_reducible exact Below.refl _ _) | (with_reducible assumption) | (with_reducible refine Below.alloc ?_ ?_ _) | (with_reducible refine below_drewN ?_ _) | (with_reducible refine Below.drew ?_) | (with_reducible refine Below.setCell ?_ ?_ _) | (with_reducible refine below_call (by assumption) ?_ ?_) | (with_reducible refine below_grown (by assumption) ?_ ?_ ?_) | omega | (simp; done) | (simp; omega)))⟩
    · rw [h1, h2] at hok
      simp only [Bool.false_and, Bool.and_false] at hok
      subst hok
      simp only [Bool.false_eq_true, if_false]
      have H1 := Lib.hid h1
      have H2 := Lib.hid h2
      clear h1 h2
      go_enter Try.func17, Try.ntmps17
      go_wp2_with fail
      refine (validPoints_eq c (HP.out.below (by (repeat' (first | (with_reducible exact Below.refl _ _) | (with_reducible assumption) | (with_reducible refine Below.alloc ?_ ?_ _) | (with_reducible refine below_drewN ?_ _) | (with_reducible refine Below.drew ?_) | (with_reducible refine Below.setCell ?_ ?_ _) | (with_reducible refine below_call (by assumption) ?_ ?_) | go_size)))) hn (Hid.out (by with_reducible assumption))).mono ?_
      rintro e w1 ⟨rfl, hb⟩
      go_wp2_with (go_at_call 34; (with_reducible refine (inRange_eq (Hid.out (by with_reducible assumption)) _).mono ?_); rintro e w1 ⟨rfl, rfl⟩)
      go_ret2
      exact ⟨_, rfl, OwnP.nil _ _, by (repeat' (first | (with_reducible exact Below.refl _ _) | (with_reducible assumption) | (with_reducible refine Below.alloc ?_ ?_ _) | (with_reducible refine below_drewN ?_ _) | (with_reducible refine Below.drew ?_) | (with_reducible refine Below.setCell ?_ ?_ _) | (with_reducible refine below_call (by assumption) ?_ ?_) | (with_reducible refine below_grown (by assumption) ?_ ?_ ?_) | omega | (simp; done) | (simp; omega)))⟩
  · rw [h1] at hok
    simp only [Bool.false_and] at hok
    subst hok
    simp only [Bool.false_eq_true, if_false]
    have H1 := Lib.hid h1
    clear h1
    go_enter Try.func17, Try.ntmps17
    go_wp2_with fail
    refine (validPoints_eq c (HP.out.below (by (repeat' (first | (with_reducible exact Below.refl _ _) | (with_reducible assumption) | (with_reducible refine Below.alloc ?_ ?_ _) | (with_reducible refine below_drewN ?_ _) | (with_reducible refine Below.drew ?_) | (with_reducible refine Below.setCell ?_ ?_ _) | (with_reducible refine below_call (by assumption) ?_ ?_) | go_size)))) hn (Hid.out (by with_reducible assumption))).mono ?_
    rintro e w1 ⟨rfl, hb⟩
    go_wp2
    go_ret2
    exact ⟨_, rfl, OwnP.nil _ _, by (repeat' (first | (with_reducible exact Below.refl _ _) | (with_reducible assumption) | (with_reducible refine Below.alloc ?_ ?_ _) | (with_reducible refine below_drewN ?_ _) | (with_reducible refine Below.drew ?_) | (with_reducible refine Below.setCell ?_ ?_ _) | (with_reducible refine below_call (by assumption) ?_ ?_) | (with_reducible refine below_grown (by assumption) ?_ ?_ ?_) | omega | (simp; done) | (simp; omega)))⟩

end Go.Proofs.Ytnmbeocgnmnpfaa
