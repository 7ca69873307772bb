/-
  All edges of rings, as the program lists them.
-/
import Derived.Test.YtkbbbnlljenpeaaVRings
namespace Go.Proofs.Ytkbbbnlljenpeaa
open Go.RowKit Pl

set_option linter.unusedSimpArgs false
set_option linter.unusedVariables false

/-- The cells of edges. -/
def cellsE (l : List (Pt × Pt)) : List Value := l.flatMap fun e => [.int .i64 e.1.1, .int .i64 e.1.2, .int .i64 e.2.1, .int .i64 e.2.2]
theorem cellsE_len (l : List (Pt × Pt)) : (cellsE l).length = l.length * 4 := by
  induction l with
  | nil => rfl
  | cons p l ih => simp only [cellsE, List.flatMap_cons, List.length_append, List.length_cons, List.length_nil] at *; omega
theorem cellsE_append (l m : List (Pt × Pt)) : cellsE (l ++ m) = cellsE l ++ cellsE m := by simp [cellsE]
theorem cellsE_at (l : List (Pt × Pt)) : ∀ (i : Nat) (e : Pt × Pt), l[i]? = some e → (cellsE l)[i * 4]? = some (.int .i64 e.1.1) ∧ (cellsE l)[i * 4 + 1]? = some (.int .i64 e.1.2) ∧ (cellsE l)[i * 4 + 2]? = some (.int .i64 e.2.1) ∧ (cellsE l)[i * 4 + 3]? = some (.int .i64 e.2.2) := by
  induction l with
  | nil => intro i e h; simp at h
  | cons p l ih =>
    intro i e hi
    cases i with
    | zero => simp only [List.getElem?_cons_zero, Option.some.injEq] at hi; subst hi; exact ⟨rfl, rfl, rfl, rfl⟩
    | succ i =>
      simp only [List.getElem?_cons_succ] at hi
      have := ih i e hi
      have e' : cellsE (p :: l) = .int .i64 p.1.1 :: .int .i64 p.1.2 :: .int .i64 p.2.1 :: .int .i64 p.2.2 :: cellsE l := rfl
      rw [e', show (i + 1) * 4 = i * 4 + 1 + 1 + 1 + 1 by omega]
      simp only [List.getElem?_cons_succ]
      exact this
/-- Edges that the call has made. -/
def OwnE (base : Nat) (w : World) (v : Value) (l : List (Pt × Pt)) : Prop := w.ownsRow base 54 4 v l.length (cellsE l)
theorem OwnE.nil (base : Nat) (w : World) : OwnE base w (.slice none 0 0) [] := ⟨rfl, .inl ⟨rfl, rfl⟩⟩
theorem OwnE.below {base : Nat} {w w' : World} {v : Value} {l : List (Pt × Pt)} (h : OwnE base w v l) (hb : Below w.heap.size w w') : OwnE base w' v l := by
  refine ⟨h.1, ?_⟩
  rcases h.2 with h | ⟨g, cap, cur, e, hb', hg, r⟩
  · exact .inl h
  · exact .inr ⟨g, cap, cur, e, hb', blk_below hg hb, r⟩
theorem OwnE.row {base : Nat} {w : World} {v : Value} {l : List (Pt × Pt)} (h : OwnE base w v l) : ∀ g, v.ownBlock = some g → base ≤ g := fun g hg => by
  rcases h.2 with ⟨rfl, _⟩ | ⟨g', cap, cur, rfl, hb', _⟩
  · cases hg
  · simp only [Value.ownBlock, Option.some.injEq] at hg; omega
/-- Edges, read. -/
def IsEs (w : World) (A : Option Addr) (n : Nat) (l : List (Pt × Pt)) : Prop := l.length = n ∧ (0 < n → ∃ b o, A = some ⟨b, o, none⟩ ∧ b < w.heap.size ∧ ∀ (i : Nat) (e : Pt × Pt), l[i]? = some e →
  w.cell? ⟨b, o + i * 4, none⟩ = some (.int .i64 e.1.1) ∧ w.cell? ⟨b, o + i * 4 + 1, none⟩ = some (.int .i64 e.1.2) ∧ w.cell? ⟨b, o + i * 4 + 2, none⟩ = some (.int .i64 e.2.1) ∧ w.cell? ⟨b, o + i * 4 + 3, none⟩ = some (.int .i64 e.2.2))
theorem IsEs.below {w w' : World} {A : Option Addr} {n : Nat} {l : List (Pt × Pt)} (h : IsEs w A n l) (hb : Below w.heap.size w w') : IsEs w' A n l :=
  ⟨h.1, fun hn => by
    obtain ⟨b, o, e, hl, hc⟩ := h.2 hn
    refine ⟨b, o, e, Nat.lt_of_lt_of_le hl hb.size, fun i e' he => ?_⟩
    obtain ⟨c0, c1, c2, c3⟩ := hc i e' he
    exact ⟨(hb.cell (p := ⟨b, _, none⟩) hl).trans c0, (hb.cell (p := ⟨b, _, none⟩) hl).trans c1, (hb.cell (p := ⟨b, _, none⟩) hl).trans c2, (hb.cell (p := ⟨b, _, none⟩) hl).trans c3⟩⟩
theorem OwnE.form {base : Nat} {w : World} {v : Value} {l : List (Pt × Pt)} (h : OwnE base w v l) : ∃ A c, v = .slice A l.length c ∧ IsEs w A l.length l := by
  obtain ⟨hl, h⟩ := h
  rcases h with ⟨rfl, hn⟩ | ⟨g, cap, cur, rfl, hb, hg, hn, hc, hs, ht⟩
  · exact ⟨none, 0, by rw [hn], ⟨rfl, fun h => by omega⟩⟩
  · refine ⟨some ⟨g, 0, none⟩, cap, rfl, ⟨rfl, fun _ => ⟨g, 0, rfl, blk_lt hg, fun i e he => ?_⟩⟩⟩
    have hi : i < l.length := (List.getElem?_eq_some_iff.1 he).1
    have hat : ∀ j, j < l.length * 4 → w.cell? ⟨g, 0 + j, none⟩ = (cellsE l)[j]? := fun j hj => by
      rw [blk_cell hg, ← ht, List.getElem?_take, if_pos hj, Nat.zero_add, Array.getElem?_toList]
    obtain ⟨d0, d1, d2, d3⟩ := cellsE_at l i e he
    exact ⟨by rw [hat _ (by omega), d0], by rw [Nat.add_assoc, hat _ (by omega), d1], by rw [Nat.add_assoc, hat _ (by omega), d2], by rw [Nat.add_assoc, hat _ (by omega), d3]⟩
def RetE (l : List (Pt × Pt)) (w : World) (e : Ending) (w' : World) : Prop := ∃ A c, e = .returned (.slice A l.length c) ∧ IsEs w' A l.length l ∧ Below w.heap.size w w'
theorem edge_info : (Try.prog.info? 54).map (fun i => (i.zero, i.size, i.bytes)) = some (some (.agg #[.int .i64 0, .int .i64 0, .int .i64 0, .int .i64 0]), 4, 32) := by kernel_rfl

/-- append of one edge that has just been written out. -/
theorem append_e {ops : Array Oper} {rest : List Oper} {o : Oper} {a : Act} {Q : Exit → Act → World → Prop} {w : World} (hgd : o.guard = none) (s x : Operand)
    (ho : o.op = .call { callee := .builtin .append, args := #[s, x], argTypes := #[51, 51] })
    (base : Nat) (v : Value) (l : List (Pt × Pt)) (hs : a.eval s = v) (hown : OwnE base w v l) (g m : Nat) (p q : Pt) (T' : TypeId) (hx : a.eval x = .slice (some ⟨g, 0, none⟩) 1 m)
    (hg : w.heap[g]? = some (.cells #[.int .i64 p.1, .int .i64 p.2, .int .i64 q.1, .int .i64 q.2] T' (0, 0))) (hlen : l.length ≤ 1048576) (hbase : base ≤ w.heap.size)
    (h : ∀ v' w', OwnE base w' v' (l ++ [(p, q)]) → w.grownBy w' v.ownBlock → wpList Try.prog ops Q rest (a.put o.dst v') w') : wpList Try.prog ops Q (o :: rest) a w := by
  obtain ⟨i0, hi0, hz0, hz1, hz2⟩ := info_parts edge_info
  refine wpList_append_own w hgd s x _ ho base 54 i0 _ 4 32 Try.underlying51 hi0 hz0 hz1 hz2 rfl (by omega) v l.length (cellsE l) hs hown ⟨g, 0, none⟩ 1 m [.int .i64 p.1, .int .i64 p.2, .int .i64 q.1, .int .i64 q.2] hx rfl
    (fun j u hu => by rw [add_off, Nat.zero_add, blk_cell hg, ← Array.getElem?_toList]; exact hu)
    (fun u hu => by simp only [List.mem_cons, List.not_mem_nil, or_false] at hu; rcases hu with rfl | rfl | rfl | rfl <;> rfl) (by unfold maxLen; omega) (by omega) hbase ?_
  intro v' w' h1 h2 _
  refine h v' w' ?_ h2
  have e : cellsE (l ++ [(p, q)]) = cellsE l ++ [.int .i64 p.1, .int .i64 p.2, .int .i64 q.1, .int .i64 q.2] := by rw [cellsE_append]; rfl
  unfold OwnE
  rw [e, List.length_append]
  exact h1

theorem ringEdges_take {r : List Pt} {j : Nat} (h : j < r.length) : (ringEdges r).take (j + 1) = (ringEdges r).take j ++ [(ptA r j, ptA r (nxt r j))] := by
  rw [List.take_succ_eq_append_getElem (by rw [ringEdges_len]; exact h)]
  simp [ringEdges]
theorem edgesL_take {L : List (List Pt)} {k : Nat} {r : List Pt} (h : L[k]? = some r) : edgesL (L.take (k + 1)) = edgesL (L.take k) ++ ringEdges r := by
  obtain ⟨hk, rfl⟩ := List.getElem?_eq_some_iff.1 h
  rw [List.take_succ_eq_append_getElem hk, edgesL_append]
  simp [edgesL]

set_option maxHeartbeats 2000000 in
theorem edges_any {A : Option Addr} {n : Nat} {L : List (List Pt)} {w : World} (c : Nat) (h : IsRs w A n L) (hsz : sizeR L ≤ 1048576) :
    Calls Try.prog 36 #[.slice A n c] w (RetE (edgesL L) w) := by
  have hl := h.len
  have hS : n + ringsLen L ≤ 1048576 := by rw [sizeR, hl] at hsz; exact hsz
  have HP := Lib.hid h
  have HL := Lib.hid hl
  clear h hl hsz
  go_enter Try.func36, Try.ntmps36
  go_wp2
  go_loopw [3, 10] (fun vo vi wr => ∃ k : Nat, k ≤ n ∧ vi = .int .i64 k ∧ OwnE w.heap.size wr vo (edgesL (L.take k)) ∧ Below w.heap.size w wr) (fun _ vi _ => n - (intOf vi).toNat)
  case atStart => exact ⟨0, by omega, rfl, OwnE.nil _ _, by (repeat' (first | (with_reducible exact Below.refl _ _) | (with_reducible assumption) | (with_reducible refine Below.alloc ?_ ?_ _) | (with_reducible refine below_drewN ?_ _) | (with_reducible refine Below.drew ?_) | (with_reducible refine Below.setCell ?_ ?_ _) | (with_reducible refine below_call (by assumption) ?_ ?_) | (with_reducible refine below_grown (by assumption) ?_ ?_ ?_) | omega | (simp; done) | (simp; omega)))⟩
  case round =>
    obtain ⟨k, hk, rfl, hown, hbel⟩ := hrel
    obtain ⟨wo, rfl⟩ : ∃ wo : World, wo = wr := ⟨_, rfl⟩
    have hsz := hbel.size
    have HO := Lib.hid hown
    clear hown
    have hek : (edgesL (L.take k)).length ≤ ringsLen L := by rw [edgesL_len]; exact ringsLen_le L k
    by_cases hlt : k < n
    · have eb : decide ((k : Int) < n) = true := by simp; omega
      have hki : (k : Int) < n := by omega
      obtain ⟨r, b, o, B, cr, hr, rfl, hbl, x0, q1, q2, hp⟩ := HP.out.at_ hlt
      have hst := edgesL_take hr
      have hln := ringsLen_take hr
      have hle2 := ringsLen_le L (k + 1)
      obtain ⟨m, hm⟩ : ∃ m, r.length = m := ⟨_, rfl⟩
      rw [hm] at x0 hln hp
      have HM := Lib.hid hm
      have HQ := Lib.hid hp
      have HT := Lib.hid hst
      have hm1 : (edgesL (L.take k)).length + m ≤ 1048576 := by rw [edgesL_len]; rw [edgesL_len] at hek; omega
      have x1 := (hbel.cell (p := ⟨b, o + k, none⟩) hbl).trans x0
      have hblo : b < wo.heap.size := by omega
      clear hr hp hm hst hln hle2 x0 q1 q2
      go_wp2
      go_loopw [3, 16] (fun vo vj wr => ∃ j : Nat, j ≤ m ∧ vj = .int .i64 j ∧ OwnE w.heap.size wr vo (edgesL (L.take k) ++ (ringEdges r).take j) ∧ Below w.heap.size w wr) (fun _ vj _ => m - (intOf vj).toNat)
      case atStart => exact ⟨0, by omega, rfl, by rw [List.take_zero, List.append_nil]; exact HO.out, hbel⟩
      case round =>
        obtain ⟨j, hj, rfl, hown2, hbel2⟩ := hrel
        obtain ⟨wi, rfl⟩ : ∃ wi : World, wi = wr := ⟨_, rfl⟩
        have hsz2 := hbel2.size
        have HO2 := Lib.hid hown2
        clear hown2
        by_cases hlt2 : j < m
        · have eb2 : decide ((j : Int) < m) = true := by simp; omega
          have hji : (j : Int) < m := by omega
          obtain ⟨nx, hnx⟩ : ∃ nx, (j + 1) % m = nx := ⟨_, rfl⟩
          have hnx1 : nx < m := by rw [← hnx]; exact Nat.mod_lt _ (by omega)
          obtain ⟨B', o', rfl, hBl, c0, c1⟩ := (HQ.out.below hbel2).at_ hlt2
          obtain ⟨_, _, e0, _, d0, d1⟩ := (HQ.out.below hbel2).at_ hnx1
          cases e0
          have hRT := ringEdges_take (r := r) (j := j) (by rw [HM.out]; exact hlt2)
          rw [nxt, HM.out, hnx] at hRT
          have HRT := Lib.hid hRT
          have hlen : (edgesL (L.take k) ++ (ringEdges r).take j).length ≤ 1048576 := by rw [List.length_append, List.length_take, ringEdges_len, HM.out]; omega
          have HLEN := Lib.hid hlen
          obtain ⟨x, hx⟩ : ∃ x, px r j = x := ⟨_, rfl⟩
          obtain ⟨y, hy⟩ : ∃ y, py r j = y := ⟨_, rfl⟩
          obtain ⟨x', hx'⟩ : ∃ x, px r nx = x := ⟨_, rfl⟩
          obtain ⟨y', hy'⟩ : ∃ y, py r nx = y := ⟨_, rfl⟩
          rw [hx] at c0
          rw [hy] at c1
          rw [hx'] at d0
          rw [hy'] at d1
          have HPA : Hid (ptA r j = (x, y)) := Lib.hid (by rw [ptA, hx, hy])
          have HPB : Hid (ptA r nx = (x', y')) := Lib.hid (by rw [ptA, hx', hy'])
          have e1 : IntKind.i64.wrap ((j : Int) + 1) = (j : Int) + 1 := IntWalk.i64_in _ (by omega)
          have e2 : Int.tmod ((j : Int) + 1) (m : Int) = (nx : Int) := by rw [← hnx]; rfl
          have hm0 : ¬ m = 0 := by omega
          have hnxi : (nx : Int) < m := by omega
          clear hRT hlen hx hy hx' hy' hnx
          go_wp2_with fail
          apply wp_region_pure (by kernel_rfl) ([] :: [] :: [] :: [] :: [3] :: [] :: [5] :: [4, 6] :: [2, 7] :: [8] :: [1, 9] :: [10] :: []) (RS.det [] _ :: RS.det [] _ :: RS.det [] _ :: RS.det [] _ :: RS.det [3] _ :: RS.det [] _ :: RS.det [5] _ :: RS.det [4, 6] _ :: RS.det [2, 7] _ :: RS.det [8] _ :: RS.det [1, 9] _ :: RS.sl [10] _ _ _ _ :: []) [0] rfl (by kernel_rfl) (by intro _ c a d v w h; cases d <;> exact h) (by kernel_rfl) (by kernel_rfl) (st_det (st_det (st_det (st_det (st_det (st_det (st_det (st_det (st_det (st_det (st_det (st_sl st_nil)))))))))))) _ (fun v => by simp; rfl)
          case hop =>
            simp only [Obls]
            refine ⟨?_, ?_, ?_, ?_, ?_, ?_, ?_, ?_, ?_, ?_, ?_, ?_, trivial⟩
            · (intro v w1 K hb hF hK; (try simp at hF); simp at hK; (try simp only [hF] at hK); have hz := hb.size; (try simp at hz))
              go_simp
              (try simp only [])
              exact hK _ _ rfl (by (repeat' (first | (with_reducible exact Below.refl _ _) | (with_reducible assumption) | (with_reducible refine Below.alloc ?_ ?_ _) | (with_reducible refine below_drewN ?_ _) | (with_reducible refine Below.drew ?_) | (with_reducible refine Below.setCell ?_ ?_ _) | (with_reducible refine below_call (by assumption) ?_ ?_) | go_size)))
            · (intro v w1 K hb hF hK; (try simp at hF); simp at hK; (try simp only [hF] at hK); have hz := hb.size; (try simp at hz); (try (have hk := bcl hb (B') (by first | omega | (simp; done) | (simp; omega)); have hc := hk.1; have hf := hk.2.1; have hk := hk.2.2)); (try (have hk := bcl hb (wi.heap.size) (by first | omega | (simp; done) | (simp; omega)); have hc := hk.1; have hf := hk.2.1; have hk := hk.2.2)))
              go_simp
              (try simp only [])
              exact hK _ _ rfl (by (repeat' (first | (with_reducible exact Below.refl _ _) | (with_reducible assumption) | (with_reducible refine Below.alloc ?_ ?_ _) | (with_reducible refine below_drewN ?_ _) | (with_reducible refine Below.drew ?_) | (with_reducible refine Below.setCell ?_ ?_ _) | (with_reducible refine below_call (by assumption) ?_ ?_) | go_size)))
            · (intro v w1 K hb hF hK; (try simp at hF); simp at hK; (try simp only [hF] at hK); have hz := hb.size; (try simp at hz))
              go_simp
              (try simp only [])
              exact hK _ _ rfl (by (repeat' (first | (with_reducible exact Below.refl _ _) | (with_reducible assumption) | (with_reducible refine Below.alloc ?_ ?_ _) | (with_reducible refine below_drewN ?_ _) | (with_reducible refine Below.drew ?_) | (with_reducible refine Below.setCell ?_ ?_ _) | (with_reducible refine below_call (by assumption) ?_ ?_) | go_size)))
            · (intro v w1 K hb hF hK; (try simp at hF); simp at hK; (try simp only [hF] at hK); have hz := hb.size; (try simp at hz))
              go_simp
              (try simp only [])
              exact hK _ _ rfl (by (repeat' (first | (with_reducible exact Below.refl _ _) | (with_reducible assumption) | (with_reducible refine Below.alloc ?_ ?_ _) | (with_reducible refine below_drewN ?_ _) | (with_reducible refine Below.drew ?_) | (with_reducible refine Below.setCell ?_ ?_ _) | (with_reducible refine below_call (by assumption) ?_ ?_) | go_size)))
            · (intro v w1 K hb hF hK; (try simp at hF); simp at hK; (try simp only [hF] at hK); have hz := hb.size; (try simp at hz))
              go_simp
              (try simp only [])
              exact hK _ _ rfl (by (repeat' (first | (with_reducible exact Below.refl _ _) | (with_reducible assumption) | (with_reducible refine Below.alloc ?_ ?_ _) | (with_reducible refine below_drewN ?_ _) | (with_reducible refine Below.drew ?_) | (with_reducible refine Below.setCell ?_ ?_ _) | (with_reducible refine below_call (by assumption) ?_ ?_) | go_size)))
            · (intro v w1 K hb hF hK; (try simp at hF); simp at hK; (try simp only [hF] at hK); have hz := hb.size; (try simp at hz))
              go_simp
              (try simp only [])
              exact hK _ _ rfl (by (repeat' (first | (with_reducible exact Below.refl _ _) | (with_reducible assumption) | (with_reducible refine Below.alloc ?_ ?_ _) | (with_reducible refine below_drewN ?_ _) | (with_reducible refine Below.drew ?_) | (with_reducible refine Below.setCell ?_ ?_ _) | (with_reducible refine below_call (by assumption) ?_ ?_) | go_size)))
            · (intro v w1 K hb hF hK; (try simp at hF); simp at hK; (try simp only [hF] at hK); have hz := hb.size; (try simp at hz))
              go_simp
              (try simp only [])
              exact hK _ _ rfl (by (repeat' (first | (with_reducible exact Below.refl _ _) | (with_reducible assumption) | (with_reducible refine Below.alloc ?_ ?_ _) | (with_reducible refine below_drewN ?_ _) | (with_reducible refine Below.drew ?_) | (with_reducible refine Below.setCell ?_ ?_ _) | (with_reducible refine below_call (by assumption) ?_ ?_) | go_size)))
            · (intro v w1 K hb hF hK; (try simp at hF); simp at hK; (try simp only [hF] at hK); have hz := hb.size; (try simp at hz))
              go_simp
              (try simp only [])
              exact hK _ _ rfl (by (repeat' (first | (with_reducible exact Below.refl _ _) | (with_reducible assumption) | (with_reducible refine Below.alloc ?_ ?_ _) | (with_reducible refine below_drewN ?_ _) | (with_reducible refine Below.drew ?_) | (with_reducible refine Below.setCell ?_ ?_ _) | (with_reducible refine below_call (by assumption) ?_ ?_) | go_size)))
            · (intro v w1 K hb hF hK; (try simp at hF); simp at hK; (try simp only [hF] at hK); have hz := hb.size; (try simp at hz))
              go_simp
              (try simp only [])
              exact hK _ _ rfl (by (repeat' (first | (with_reducible exact Below.refl _ _) | (with_reducible assumption) | (with_reducible refine Below.alloc ?_ ?_ _) | (with_reducible refine below_drewN ?_ _) | (with_reducible refine Below.drew ?_) | (with_reducible refine Below.setCell ?_ ?_ _) | (with_reducible refine below_call (by assumption) ?_ ?_) | go_size)))
            · (intro v w1 K hb hF hK; (try simp at hF); simp at hK; (try simp only [hF] at hK); have hz := hb.size; (try simp at hz); (try (have hk := bcl hb (B') (by first | omega | (simp; done) | (simp; omega)); have hc := hk.1; have hf := hk.2.1; have hk := hk.2.2)); (try (have hk := bcl hb (wi.heap.size) (by first | omega | (simp; done) | (simp; omega)); have hc := hk.1; have hf := hk.2.1; have hk := hk.2.2)))
              go_simp
              (try simp only [])
              exact hK _ _ rfl (by (repeat' (first | (with_reducible exact Below.refl _ _) | (with_reducible assumption) | (with_reducible refine Below.alloc ?_ ?_ _) | (with_reducible refine below_drewN ?_ _) | (with_reducible refine Below.drew ?_) | (with_reducible refine Below.setCell ?_ ?_ _) | (with_reducible refine below_call (by assumption) ?_ ?_) | go_size)))
            · (intro v w1 K hb hF hK; (try simp at hF); simp at hK; (try simp only [hF] at hK); have hz := hb.size; (try simp at hz))
              go_simp
              (try simp only [])
              exact hK _ _ rfl (by (repeat' (first | (with_reducible exact Below.refl _ _) | (with_reducible assumption) | (with_reducible refine Below.alloc ?_ ?_ _) | (with_reducible refine below_drewN ?_ _) | (with_reducible refine Below.drew ?_) | (with_reducible refine Below.setCell ?_ ?_ _) | (with_reducible refine below_call (by assumption) ?_ ?_) | go_size)))
            · (intro v w1 K hb hF hK; (try simp at hF); simp at hK; (try simp only [hF] at hK); have hz := hb.size; (try simp at hz))
              go_simp
              (try simp only [])
              exact hK _ _ (isSl_new _ _ _ hb.size) (by (repeat' (first | (with_reducible exact Below.refl _ _) | (with_reducible assumption) | (with_reducible refine Below.alloc ?_ ?_ _) | (with_reducible refine below_drewN ?_ _) | (with_reducible refine Below.drew ?_) | (with_reducible refine Below.setCell ?_ ?_ _) | (with_reducible refine below_call (by assumption) ?_ ?_) | go_size)))
          case hfo => exact ⟨fun _ => rfl, trivial⟩
          (intro v w1 hb hF; simp [List.range, List.range.loop] at hF; have hz := hb.size; (try simp at hz); (try (have hk := bcl hb (B') (by first | omega | (simp; done) | (simp; omega)); have hc := hk.1; have hf := hk.2.1; have hk := hk.2.2)); (try (have hk := bcl hb (wi.heap.size) (by first | omega | (simp; done) | (simp; omega)); have hc := hk.1; have hf := hk.2.1; have hk := hk.2.2)))
          obtain ⟨e0, e1, e2, e3, e4, e5, e6, e7, e8, e9, e10, gs, e11, hgs, hgss, hgsb⟩ := hF
          simp only [List.length_cons, List.length_nil, List.drop_succ_cons, List.drop_zero, e0, e1, e2, e3, e4, e5, e6, e7, e8, e9, e10, e11]
          clear e0 e1 e2 e3 e4 e5 e6 e7 e8 e9 e10 e11 v
          have hcgs := blk_cell hgsb; have hfgs := blk_free hgsb; have Hgs := Lib.hid hgsb; clear hgsb; (try simp at hgs)
          have hB : Hid (Below w.heap.size w w1) := Lib.hid (by (repeat' (first | (with_reducible exact Below.refl _ _) | (with_reducible assumption) | (with_reducible refine Below.alloc ?_ ?_ _) | (with_reducible refine below_drewN ?_ _) | (with_reducible refine Below.drew ?_) | (with_reducible refine Below.setCell ?_ ?_ _) | (with_reducible refine below_call (by assumption) ?_ ?_) | (with_reducible refine below_grown (by assumption) ?_ ?_ ?_) | omega | (simp; done) | (simp; omega))))
          have HO3 : Hid (OwnE w.heap.size w1 _ _) := Lib.hid (HO2.out.below (show Below wi.heap.size wi w1 by (repeat' (first | (with_reducible exact Below.refl _ _) | (with_reducible assumption) | (with_reducible refine Below.alloc ?_ ?_ _) | (with_reducible refine below_drewN ?_ _) | (with_reducible refine Below.drew ?_) | (with_reducible refine Below.setCell ?_ ?_ _) | (with_reducible refine below_call (by assumption) ?_ ?_) | (with_reducible refine below_grown (by assumption) ?_ ?_ ?_) | omega | (simp; done) | (simp; omega)))))
          refine append_e rfl (.tmp 21) (.tmp 32) rfl w.heap.size _ _ rfl HO3.out gs 1 (x, y) (x', y') _ rfl Hgs.out HLEN.out (by have := hB.out.size; omega) ?_
          intro v3 w4 hown3 hg3
          go_wp2
          go_roundw
          case rel => exact ⟨j + 1, by omega, by go_num, by rw [HRT.out, HPA.out, HPB.out, ← List.append_assoc]; exact hown3, grown_own hg3 hB.out (by have := hB.out.size; omega) (fun g hg => HO3.out.row g hg)⟩
          case measure => simp [intOf]; omega
        · obtain rfl : j = m := by omega
          have eb2 : decide ((j : Int) < j) = false := by simp
          have hfull : (ringEdges r).take j = ringEdges r := by rw [← HM.out, ← ringEdges_len r, List.take_length]
          have HF : Hid (OwnE w.heap.size wi _ (edgesL (L.take (k + 1)))) := Lib.hid (by rw [HT.out]; have := HO2.out; rw [hfull] at this; exact this)
          clear hfull
          go_wp2
          go_roundw
          case rel => exact ⟨k + 1, by omega, by go_num, HF.out, hbel2⟩
          case measure => simp [intOf]; omega
    · obtain rfl : k = n := by omega
      have eb : decide ((k : Int) < k) = false := by simp
      have ht : L.take k = L := by rw [← HL.out, List.take_length]
      obtain ⟨A2, c2, e2, hE⟩ := HO.out.form
      rw [ht] at e2 hE
      subst e2
      have HE := Lib.hid hE
      clear hE hek ht
      go_wp2
      go_ret
      exact ⟨_, _, rfl, HE.out, by (repeat' (first | (with_reducible exact Below.refl _ _) | (with_reducible assumption) | (with_reducible refine Below.alloc ?_ ?_ _) | (with_reducible refine below_drewN ?_ _) | (with_reducible refine Below.drew ?_) | (with_reducible refine Below.setCell ?_ ?_ _) | (with_reducible refine below_call (by assumption) ?_ ?_) | (with_reducible refine below_grown (by assumption) ?_ ?_ ?_) | omega | (simp; done) | (simp; omega)))⟩

end Go.Proofs.Ytkbbbnlljenpeaa
