/-
  FnStealTile holds. Whatever the generator gives. No condition.
-/
import Derived.Test.YtclfocdghbmmlaaDrawG
import Derived.Test.YtclfocdghbmmlaaIntQ
import Derived.Test.YtclfocdghbmmlaaDeqL
import Derived.Test.YtclfocdghbmmlaaCode
import Derived.ProofKit
import Derived.OpenShut
import Derived.ShutString
import Derived.ChangeOld
import Derived.Lib.SmallJoins
namespace Go.Proofs.Ytclfocdghbmmlaa
open Go.RowKit Pl Go.ChangeShapes Go.WideShapes Go.ChangeAt
open Go.ChangeMaps (open_string shut_string)

set_option linter.unusedSimpArgs false
set_option linter.unusedVariables false

theorem steal_len (d : Dq) : (stealR d).s.length ≤ d.s.length := by
  unfold stealR; split
  · exact Nat.le_of_eq (set16_len _ _ _)
  · exact Nat.zero_le _

set_option maxRecDepth 100000 in
set_option maxHeartbeats 1000000 in
theorem FnStealTile_walk (w : World) (A : Option Addr) (n c : Nat) (h : Code w A n c) :
    Calls Try.prog 6 #[.slice A n c] w fun e w' => e = .returned (.bool true) ∧ Below w.heap.size w w' := by
  by_cases hn : 1048576 < n
  · go_enter Try.func6, Try.ntmps6
    go_wp2
    go_ret
    exact ⟨rfl, by (repeat' (first | (with_reducible exact Below.refl _ _) | (with_reducible assumption) | (with_reducible refine Below.alloc ?_ ?_ _) | (with_reducible refine below_drewN ?_ _) | (with_reducible refine Below.drew ?_) | (with_reducible refine Below.setCell ?_ ?_ _) | (with_reducible refine below_call (by assumption) ?_ ?_) | go_size))⟩
  · go_enter Try.func6, Try.ntmps6
    go_wp2_with fail
    refine (DrawStealTile_any (h.below (by (repeat' (first | (with_reducible exact Below.refl _ _) | (with_reducible assumption) | (with_reducible refine Below.alloc ?_ ?_ _) | (with_reducible refine below_drewN ?_ _) | (with_reducible refine Below.drew ?_) | (with_reducible refine Below.setCell ?_ ?_ _) | (with_reducible refine below_call (by assumption) ?_ ?_) | go_size))))).mono ?_
    rintro e wd ⟨B, m, d, l, t, b, rfl, hm, ht, hbb, hS, hb⟩
    have hz0 := hb.size
    have HS := Lib.hid hS
    obtain ⟨ok, hok⟩ : ∃ v, takeOkD ⟨l, t, b⟩ = v := ⟨_, rfl⟩
    obtain ⟨⟨ql, qt, qb⟩, hq⟩ : ∃ v, stealR ⟨l, t, b⟩ = v := ⟨_, rfl⟩
    obtain ⟨x, hx⟩ : ∃ v, stealV ⟨l, t, b⟩ = v := ⟨_, rfl⟩
    have hl17 : l.length ≤ 17 := by rw [hS.1.len]; exact hm
    have hq17 : ql.length ≤ 17 := by
      have e : ql = (stealR ⟨l, t, b⟩).s := by rw [hq]
      rw [e]; exact Nat.le_trans (steal_len _) hl17
    have H1 := Lib.hid hok
    have H2 := Lib.hid hq
    have H3 := Lib.hid hx
    clear hS hok hq hx
    go_wp2_with fail
    refine (StealTile_eq d (HS.out.1.below (by (repeat' (first | (with_reducible exact Below.refl _ _) | (with_reducible assumption) | (with_reducible refine Below.alloc ?_ ?_ _) | (with_reducible refine below_drewN ?_ _) | (with_reducible refine Below.drew ?_) | (with_reducible refine Below.setCell ?_ ?_ _) | (with_reducible refine below_call (by assumption) ?_ ?_) | (with_reducible refine below_grown (by assumption) ?_ ?_ ?_) | omega | (simp; done) | (simp; omega))))) (by omega) (by omega) (by omega) H1.out H2.out H3.out).mono ?_
    rintro e wa ⟨A1, c1, rfl, ho1, hba⟩
    have hza := hba.size
    (try simp at hza)
    obtain ⟨_, _, e1, _, _, hi1, hbk1⟩ := ho1.form
    cases e1
    have HI1 := Lib.hid hi1
    clear hi1 ho1
    have hda := blk_below (blk_new wd (.cells #[.slice B m d, .int .i64 t, .int .i64 b] 24)) hba
    have hcda := blk_cell hda
    have hlda := blk_lt hda
    go_wp2_with fail
    refine (sStealTile_eq d (HS.out.1.below (by (repeat' (first | (with_reducible exact Below.refl _ _) | (with_reducible assumption) | (with_reducible refine Below.alloc ?_ ?_ _) | (with_reducible refine below_drewN ?_ _) | (with_reducible refine Below.drew ?_) | (with_reducible refine Below.setCell ?_ ?_ _) | (with_reducible refine below_call (by assumption) ?_ ?_) | (with_reducible refine below_grown (by assumption) ?_ ?_ ?_) | omega | (simp; done) | (simp; omega))))) (by omega) (by omega) (by omega) H1.out H2.out H3.out).mono ?_
    rintro e wb ⟨A2, c2, rfl, ho2, hbb2⟩
    have hzb := hbb2.size
    (try simp at hzb)
    obtain ⟨_, _, e1, _, _, hi2, hbk2⟩ := ho2.form
    cases e1
    have HI2 := Lib.hid hi2
    clear hi2 ho2
    have hdb := blk_below (blk_alloc hda (.cells #[.slice A1 ql.length c1, .int .i64 qt, .int .i64 qb] 24)) hbb2
    have heb := blk_below (blk_new wa (.cells #[.slice A1 ql.length c1, .int .i64 qt, .int .i64 qb] 24)) hbb2
    have hcdb := blk_cell hdb
    have hldb := blk_lt hdb
    have hceb := blk_cell heb
    have hleb := blk_lt heb
    clear hcda hlda
    go_wp2_with fail
    refine (equalDeque_same c1 c2 (HI1.out.below (by (repeat' (first | (with_reducible exact Below.refl _ _) | (with_reducible assumption) | (with_reducible refine Below.alloc ?_ ?_ _) | (with_reducible refine below_drewN ?_ _) | (with_reducible refine Below.drew ?_) | (with_reducible refine Below.setCell ?_ ?_ _) | (with_reducible refine below_call (by assumption) ?_ ?_) | (with_reducible refine below_grown (by assumption) ?_ ?_ ?_) | omega | (simp; done) | (simp; omega))))) (HI2.out.below (by (repeat' (first | (with_reducible exact Below.refl _ _) | (with_reducible assumption) | (with_reducible refine Below.alloc ?_ ?_ _) | (with_reducible refine below_drewN ?_ _) | (with_reducible refine Below.drew ?_) | (with_reducible refine Below.setCell ?_ ?_ _) | (with_reducible refine below_call (by assumption) ?_ ?_) | (with_reducible refine below_grown (by assumption) ?_ ?_ ?_) | omega | (simp; done) | (simp; omega))))) (by omega)).mono ?_
    rintro e wc ⟨rfl, hbc⟩
    have hzc := hbc.size
    (try simp at hzc)
    have hdc := blk_below (blk_alloc hdb (.cells #[.slice A2 ql.length c2, .int .i64 qt, .int .i64 qb] 24)) hbc
    have hec := blk_below (blk_alloc heb (.cells #[.slice A2 ql.length c2, .int .i64 qt, .int .i64 qb] 24)) hbc
    have hwc := blk_below (blk_new wb (.cells #[.slice A2 ql.length c2, .int .i64 qt, .int .i64 qb] 24)) hbc
    have hcdc := blk_cell hdc
    have hldc := blk_lt hdc
    have hcec := blk_cell hec
    have hlec := blk_lt hec
    have hcwc := blk_cell hwc
    have hlwc := blk_lt hwc
    clear hcdb hldb hceb hleb
    cases ok with
    | false =>
      go_wp2_with ((go_at_call 27; (with_reducible refine (equalDeque_same c1 c2 (HI1.out.below (by (repeat' (first | (with_reducible exact Below.refl _ _) | (with_reducible assumption) | (with_reducible refine Below.alloc ?_ ?_ _) | (with_reducible refine below_drewN ?_ _) | (with_reducible refine Below.drew ?_) | (with_reducible refine Below.setCell ?_ ?_ _) | (with_reducible refine below_call (by assumption) ?_ ?_) | (with_reducible refine below_grown (by assumption) ?_ ?_ ?_) | omega | (simp; done) | (simp; omega))))) (HI2.out.below (by (repeat' (first | (with_reducible exact Below.refl _ _) | (with_reducible assumption) | (with_reducible refine Below.alloc ?_ ?_ _) | (with_reducible refine below_drewN ?_ _) | (with_reducible refine Below.drew ?_) | (with_reducible refine Below.setCell ?_ ?_ _) | (with_reducible refine below_call (by assumption) ?_ ?_) | (with_reducible refine below_grown (by assumption) ?_ ?_ ?_) | omega | (simp; done) | (simp; omega))))) (by omega)).mono ?_); rintro e w1 ⟨rfl, hb⟩; have hz := hb.size; (try simp at hz)))
      go_ret
      exact ⟨rfl, by (repeat' (first | (with_reducible exact Below.refl _ _) | (with_reducible assumption) | (with_reducible refine Below.alloc ?_ ?_ _) | (with_reducible refine below_drewN ?_ _) | (with_reducible refine Below.drew ?_) | (with_reducible refine Below.setCell ?_ ?_ _) | (with_reducible refine below_call (by assumption) ?_ ?_) | (with_reducible refine below_grown (by assumption) ?_ ?_ ?_) | omega | (simp; done) | (simp; omega)))⟩
    | true =>
      have s1 := steal_tiles H1.out
      have s2 := steal_valid H1.out
      rw [H2.out] at s1 s2
      rw [H3.out] at s1
      obtain ⟨T, hT⟩ : ∃ T, tilesD ⟨ql, qt, qb⟩ = T := ⟨_, rfl⟩
      obtain ⟨F, hF⟩ : ∃ F, tilesD ⟨l, t, b⟩ = F := ⟨_, rfl⟩
      have hT16 : T.length ≤ 16 := by rw [← hT]; exact tiles_len _
      obtain ⟨k, hk⟩ : ∃ k, T.length = k := ⟨_, rfl⟩
      rw [hk] at hT16
      have G1 := Lib.hid hF
      have G2 := Lib.hid hT
      have G3 := Lib.hid s2
      rw [hT, hF] at s1
      have hFl : F.length = k + 1 := by rw [← s1]; simp [hk]
      have G4 := Lib.hid hFl
      have G5 := Lib.hid s1.symm
      have G6 := Lib.hid hk
      clear s1 s2 hT hF hFl hk
      have HSI : Hid (IsI wd B m l) := Lib.hid HS.out.1
      go_wp2_with fail
      apply wp_region_pure (by kernel_rfl) ([] :: [0] :: [1] :: [2] :: [2, 3] :: [2] :: [2, 5] :: [2, 4, 6] :: [2] :: [2, 8] :: []) (RS.det [] _ :: RS.det [0] _ :: RS.det [1] _ :: RS.det [2] _ :: RS.sl [2, 3] _ _ _ _ :: RS.det [2] _ :: RS.q [2, 5] (JQ wc.heap.size k T) :: RS.q [2, 4, 6] (JQ wc.heap.size (k + 1) F) :: RS.det [2] _ :: RS.q [2, 8] (JQ wc.heap.size (k + 1) F) :: []) [] rfl (by kernel_rfl) (fun h => absurd rfl h) (by kernel_rfl) (by kernel_rfl) (st_det (st_det (st_det (st_det (st_sl (st_det (st_q (fun _ _ _ hR h => h.below hR) (st_q (fun _ _ _ hR h => h.below hR) (st_det (st_q (fun _ _ _ hR h => h.below hR) st_nil)))))))))) _ (fun v => by simp; rfl)
      case hop =>
        simp only [Obls]
        refine ⟨?_, ?_, ?_, ?_, ?_, ?_, ?_, ?_, ?_, ?_, trivial⟩
        · (intro v w1 K hb hF hK; (try simp at hF); simp at hK; (try simp only [hF] at hK); have hz := hb.size; (try simp at hz); (try (have hk := bcl hb (wd.heap.size) (by first | omega | (simp; done) | (simp; omega)); have hc := hk.1; have hf := hk.2.1; have hk := hk.2.2)); (try (have hk := bcl hb (wa.heap.size) (by first | omega | (simp; done) | (simp; omega)); have hc := hk.1; have hf := hk.2.1; have hk := hk.2.2)))
          go_simp
          (try simp only [])
          exact hK _ _ rfl (by (repeat' (first | (with_reducible exact Below.refl _ _) | (with_reducible assumption) | (with_reducible refine Below.alloc ?_ ?_ _) | (with_reducible refine below_drewN ?_ _) | (with_reducible refine Below.drew ?_) | (with_reducible refine Below.setCell ?_ ?_ _) | (with_reducible refine below_call (by assumption) ?_ ?_) | go_size)))
        · (intro v w1 K hb hF hK; (try simp at hF); simp at hK; (try simp only [hF] at hK); have hz := hb.size; (try simp at hz); (try (have hk := bcl hb (wd.heap.size) (by first | omega | (simp; done) | (simp; omega)); have hc := hk.1; have hf := hk.2.1; have hk := hk.2.2)); (try (have hk := bcl hb (wa.heap.size) (by first | omega | (simp; done) | (simp; omega)); have hc := hk.1; have hf := hk.2.1; have hk := hk.2.2)))
          go_simp
          (first | (go_at_call 28; (with_reducible refine (ValidDeque_eq c1 (HI1.out.below (by (repeat' (first | (with_reducible exact Below.refl _ _) | (with_reducible assumption) | (with_reducible refine Below.alloc ?_ ?_ _) | (with_reducible refine below_drewN ?_ _) | (with_reducible refine Below.drew ?_) | (with_reducible refine Below.setCell ?_ ?_ _) | (with_reducible refine below_call (by assumption) ?_ ?_) | (with_reducible refine below_grown (by assumption) ?_ ?_ ?_) | omega | (simp; done) | (simp; omega))))) (by omega) G3.out).mono ?_); rintro e w2 ⟨rfl, hb2⟩) | (go_at_call 21; first | ((with_reducible refine (DequeTiles_eq c1 (HI1.out.below (by (repeat' (first | (with_reducible exact Below.refl _ _) | (with_reducible assumption) | (with_reducible refine Below.alloc ?_ ?_ _) | (with_reducible refine below_drewN ?_ _) | (with_reducible refine Below.drew ?_) | (with_reducible refine Below.setCell ?_ ?_ _) | (with_reducible refine below_call (by assumption) ?_ ?_) | (with_reducible refine below_grown (by assumption) ?_ ?_ ?_) | omega | (simp; done) | (simp; omega))))) (by omega) G2.out).mono ?_); rintro e w2 ⟨v2, rfl, ho2, hb2⟩) | ((with_reducible refine (DequeTiles_eq d (HSI.out.below (by (repeat' (first | (with_reducible exact Below.refl _ _) | (with_reducible assumption) | (with_reducible refine Below.alloc ?_ ?_ _) | (with_reducible refine below_drewN ?_ _) | (with_reducible refine Below.drew ?_) | (with_reducible refine Below.setCell ?_ ?_ _) | (with_reducible refine below_call (by assumption) ?_ ?_) | (with_reducible refine below_grown (by assumption) ?_ ?_ ?_) | omega | (simp; done) | (simp; omega))))) (by omega) G1.out).mono ?_); rintro e w2 ⟨v2, rfl, ho2, hb2⟩)))
          (try simp only [])
          exact hK _ _ rfl (by (repeat' (first | (with_reducible exact Below.refl _ _) | (with_reducible assumption) | (with_reducible refine Below.alloc ?_ ?_ _) | (with_reducible refine below_drewN ?_ _) | (with_reducible refine Below.drew ?_) | (with_reducible refine Below.setCell ?_ ?_ _) | (with_reducible refine below_call (by assumption) ?_ ?_) | go_size)))
        · (intro v w1 K hb hF hK; (try simp at hF); simp at hK; (try simp only [hF] at hK); have hz := hb.size; (try simp at hz))
          go_simp
          (try simp only [])
          exact hK _ _ rfl (by (repeat' (first | (with_reducible exact Below.refl _ _) | (with_reducible assumption) | (with_reducible refine Below.alloc ?_ ?_ _) | (with_reducible refine below_drewN ?_ _) | (with_reducible refine Below.drew ?_) | (with_reducible refine Below.setCell ?_ ?_ _) | (with_reducible refine below_call (by assumption) ?_ ?_) | go_size)))
        · (intro v w1 K hb hF hK; (try simp at hF); simp at hK; (try simp only [hF] at hK); have hz := hb.size; (try simp at hz))
          go_simp
          (try simp only [])
          exact hK _ _ rfl (by (repeat' (first | (with_reducible exact Below.refl _ _) | (with_reducible assumption) | (with_reducible refine Below.alloc ?_ ?_ _) | (with_reducible refine below_drewN ?_ _) | (with_reducible refine Below.drew ?_) | (with_reducible refine Below.setCell ?_ ?_ _) | (with_reducible refine below_call (by assumption) ?_ ?_) | go_size)))
        · (intro v w1 K hb hF hK; (try simp at hF); simp at hK; (try simp only [hF] at hK); have hz := hb.size; (try simp at hz))
          go_simp
          (try simp only [])
          exact hK _ _ (isSl_new _ _ _ hb.size) (by (repeat' (first | (with_reducible exact Below.refl _ _) | (with_reducible assumption) | (with_reducible refine Below.alloc ?_ ?_ _) | (with_reducible refine below_drewN ?_ _) | (with_reducible refine Below.drew ?_) | (with_reducible refine Below.setCell ?_ ?_ _) | (with_reducible refine below_call (by assumption) ?_ ?_) | go_size)))
        · (intro v w1 K hb hF hK; (try simp at hF); simp at hK; (try simp only [hF] at hK); have hz := hb.size; (try simp at hz); (try (have hk := bcl hb (wd.heap.size) (by first | omega | (simp; done) | (simp; omega)); have hc := hk.1; have hf := hk.2.1; have hk := hk.2.2)); (try (have hk := bcl hb (wa.heap.size) (by first | omega | (simp; done) | (simp; omega)); have hc := hk.1; have hf := hk.2.1; have hk := hk.2.2)))
          go_simp
          (try simp only [])
          exact hK _ _ rfl (by (repeat' (first | (with_reducible exact Below.refl _ _) | (with_reducible assumption) | (with_reducible refine Below.alloc ?_ ?_ _) | (with_reducible refine below_drewN ?_ _) | (with_reducible refine Below.drew ?_) | (with_reducible refine Below.setCell ?_ ?_ _) | (with_reducible refine below_call (by assumption) ?_ ?_) | go_size)))
        · (intro v w1 K hb hF hK; (try simp at hF); simp at hK; (try simp only [hF] at hK); have hz := hb.size; (try simp at hz); (try (have hk := bcl hb (wd.heap.size) (by first | omega | (simp; done) | (simp; omega)); have hc := hk.1; have hf := hk.2.1; have hk := hk.2.2)); (try (have hk := bcl hb (wa.heap.size) (by first | omega | (simp; done) | (simp; omega)); have hc := hk.1; have hf := hk.2.1; have hk := hk.2.2)))
          go_simp
          (first | (go_at_call 28; (with_reducible refine (ValidDeque_eq c1 (HI1.out.below (by (repeat' (first | (with_reducible exact Below.refl _ _) | (with_reducible assumption) | (with_reducible refine Below.alloc ?_ ?_ _) | (with_reducible refine below_drewN ?_ _) | (with_reducible refine Below.drew ?_) | (with_reducible refine Below.setCell ?_ ?_ _) | (with_reducible refine below_call (by assumption) ?_ ?_) | (with_reducible refine below_grown (by assumption) ?_ ?_ ?_) | omega | (simp; done) | (simp; omega))))) (by omega) G3.out).mono ?_); rintro e w2 ⟨rfl, hb2⟩) | (go_at_call 21; first | ((with_reducible refine (DequeTiles_eq c1 (HI1.out.below (by (repeat' (first | (with_reducible exact Below.refl _ _) | (with_reducible assumption) | (with_reducible refine Below.alloc ?_ ?_ _) | (with_reducible refine below_drewN ?_ _) | (with_reducible refine Below.drew ?_) | (with_reducible refine Below.setCell ?_ ?_ _) | (with_reducible refine below_call (by assumption) ?_ ?_) | (with_reducible refine below_grown (by assumption) ?_ ?_ ?_) | omega | (simp; done) | (simp; omega))))) (by omega) G2.out).mono ?_); rintro e w2 ⟨v2, rfl, ho2, hb2⟩) | ((with_reducible refine (DequeTiles_eq d (HSI.out.below (by (repeat' (first | (with_reducible exact Below.refl _ _) | (with_reducible assumption) | (with_reducible refine Below.alloc ?_ ?_ _) | (with_reducible refine below_drewN ?_ _) | (with_reducible refine Below.drew ?_) | (with_reducible refine Below.setCell ?_ ?_ _) | (with_reducible refine below_call (by assumption) ?_ ?_) | (with_reducible refine below_grown (by assumption) ?_ ?_ ?_) | omega | (simp; done) | (simp; omega))))) (by omega) G1.out).mono ?_); rintro e w2 ⟨v2, rfl, ho2, hb2⟩)))
          (try simp only [])
          exact hK _ _ (JQ.of hb.size G6.out ho2) (by (repeat' (first | (with_reducible exact Below.refl _ _) | (with_reducible assumption) | (with_reducible refine Below.alloc ?_ ?_ _) | (with_reducible refine below_drewN ?_ _) | (with_reducible refine Below.drew ?_) | (with_reducible refine Below.setCell ?_ ?_ _) | (with_reducible refine below_call (by assumption) ?_ ?_) | go_size)))
        · (intro v w1 K hb hF hK; (try simp at hF); simp at hK; (try simp only [hF] at hK); have hz := hb.size; (try simp at hz); (try (have hk := bcl hb (wd.heap.size) (by first | omega | (simp; done) | (simp; omega)); have hc := hk.1; have hf := hk.2.1; have hk := hk.2.2)); (try (have hk := bcl hb (wa.heap.size) (by first | omega | (simp; done) | (simp; omega)); have hc := hk.1; have hf := hk.2.1; have hk := hk.2.2)))
          obtain ⟨f2, f4, A6, c6, f6, ho6⟩ := hF
          (try simp only [f2, f4, f6] at hK)
          obtain ⟨_, eg, hgb, _, hgc⟩ := f4
          refine op_append_full ?hw (.tmp 62) (.tmp 64) 22 3 1 _ 8 Try.underlying22 int_info rfl ?hsz ?hby ?ho wc.heap.size _ 1 _ ?hs hgb hgc ?hc _ k c6 (iv T) ?hx ?hl (ho6.newsI).2 iv_one ?hlen hb.size ?h
          case ho => rfl
          case hsz => decide
          case hby => decide
          case hw => simp [Region.wanted, yielded, *]
          case hc => rfl
          case hs => first | (simp [Act.eval, eg]; done) | (simp [Act.eval, eg]; rfl)
          case hx => first | (simp [Act.eval, *]; done) | (simp [Act.eval, *]; rfl)
          case hl => rw [iv_len, Nat.mul_one]; exact (ho6.newsI).1.symm
          case hlen => omega
          case h =>
            intro u' w' k1 k3
            simp
            simp only [f2, f6]
            exact hK u' w' (JQ.own G4.out (by rw [G5.out, Nat.add_comm k 1]; exact k1)) k3
        · (intro v w1 K hb hF hK; (try simp at hF); simp at hK; (try simp only [hF] at hK); have hz := hb.size; (try simp at hz); (try (have hk := bcl hb (wd.heap.size) (by first | omega | (simp; done) | (simp; omega)); have hc := hk.1; have hf := hk.2.1; have hk := hk.2.2)); (try (have hk := bcl hb (wa.heap.size) (by first | omega | (simp; done) | (simp; omega)); have hc := hk.1; have hf := hk.2.1; have hk := hk.2.2)))
          go_simp
          (try simp only [])
          exact hK _ _ rfl (by (repeat' (first | (with_reducible exact Below.refl _ _) | (with_reducible assumption) | (with_reducible refine Below.alloc ?_ ?_ _) | (with_reducible refine below_drewN ?_ _) | (with_reducible refine Below.drew ?_) | (with_reducible refine Below.setCell ?_ ?_ _) | (with_reducible refine below_call (by assumption) ?_ ?_) | go_size)))
        · (intro v w1 K hb hF hK; (try simp at hF); simp at hK; (try simp only [hF] at hK); have hz := hb.size; (try simp at hz); (try (have hk := bcl hb (wd.heap.size) (by first | omega | (simp; done) | (simp; omega)); have hc := hk.1; have hf := hk.2.1; have hk := hk.2.2)); (try (have hk := bcl hb (wa.heap.size) (by first | omega | (simp; done) | (simp; omega)); have hc := hk.1; have hf := hk.2.1; have hk := hk.2.2)))
          go_simp
          (first | (go_at_call 28; (with_reducible refine (ValidDeque_eq c1 (HI1.out.below (by (repeat' (first | (with_reducible exact Below.refl _ _) | (with_reducible assumption) | (with_reducible refine Below.alloc ?_ ?_ _) | (with_reducible refine below_drewN ?_ _) | (with_reducible refine Below.drew ?_) | (with_reducible refine Below.setCell ?_ ?_ _) | (with_reducible refine below_call (by assumption) ?_ ?_) | (with_reducible refine below_grown (by assumption) ?_ ?_ ?_) | omega | (simp; done) | (simp; omega))))) (by omega) G3.out).mono ?_); rintro e w2 ⟨rfl, hb2⟩) | (go_at_call 21; first | ((with_reducible refine (DequeTiles_eq c1 (HI1.out.below (by (repeat' (first | (with_reducible exact Below.refl _ _) | (with_reducible assumption) | (with_reducible refine Below.alloc ?_ ?_ _) | (with_reducible refine below_drewN ?_ _) | (with_reducible refine Below.drew ?_) | (with_reducible refine Below.setCell ?_ ?_ _) | (with_reducible refine below_call (by assumption) ?_ ?_) | (with_reducible refine below_grown (by assumption) ?_ ?_ ?_) | omega | (simp; done) | (simp; omega))))) (by omega) G2.out).mono ?_); rintro e w2 ⟨v2, rfl, ho2, hb2⟩) | ((with_reducible refine (DequeTiles_eq d (HSI.out.below (by (repeat' (first | (with_reducible exact Below.refl _ _) | (with_reducible assumption) | (with_reducible refine Below.alloc ?_ ?_ _) | (with_reducible refine below_drewN ?_ _) | (with_reducible refine Below.drew ?_) | (with_reducible refine Below.setCell ?_ ?_ _) | (with_reducible refine below_call (by assumption) ?_ ?_) | (with_reducible refine below_grown (by assumption) ?_ ?_ ?_) | omega | (simp; done) | (simp; omega))))) (by omega) G1.out).mono ?_); rintro e w2 ⟨v2, rfl, ho2, hb2⟩)))
          (try simp only [])
          exact hK _ _ (JQ.of hb.size G4.out ho2) (by (repeat' (first | (with_reducible exact Below.refl _ _) | (with_reducible assumption) | (with_reducible refine Below.alloc ?_ ?_ _) | (with_reducible refine below_drewN ?_ _) | (with_reducible refine Below.drew ?_) | (with_reducible refine Below.setCell ?_ ?_ _) | (with_reducible refine below_call (by assumption) ?_ ?_) | go_size)))
      case hfo => exact trivial
      (intro v w1 hb hF; simp [List.range, List.range.loop] at hF; have hz := hb.size; (try simp at hz); (try (have hk := bcl hb (wd.heap.size) (by first | omega | (simp; done) | (simp; omega)); have hc := hk.1; have hf := hk.2.1; have hk := hk.2.2)); (try (have hk := bcl hb (wa.heap.size) (by first | omega | (simp; done) | (simp; omega)); have hc := hk.1; have hf := hk.2.1; have hk := hk.2.2)))
      obtain ⟨e0, e1, e2, e3, ⟨g0, e4, hg0, hg0s, hg0b⟩, e5, ⟨A6, c6, e6, ho6⟩, ⟨A7, c7, e7, ho7⟩, e8, A9, c9, e9, ho9⟩ := hF
      simp only [List.length_cons, List.length_nil, List.drop_succ_cons, List.drop_zero, e0, e1, e2, e3, e4, e5, e6, e7, e8, e9]
      clear e0 e1 e2 e3 e4 e5 e6 e7 e8 e9 v
      have HIa := Lib.hid (OwnW.isV ho7)
      have HIb := Lib.hid (OwnW.isV ho9)
      go_wp2_with fail
      refine (equalInts_same c7 c9 (IsI.below HIa.out (by (repeat' (first | (with_reducible exact Below.refl _ _) | (with_reducible assumption) | (with_reducible refine Below.alloc ?_ ?_ _) | (with_reducible refine below_drewN ?_ _) | (with_reducible refine Below.drew ?_) | (with_reducible refine Below.setCell ?_ ?_ _) | (with_reducible refine below_call (by assumption) ?_ ?_) | (with_reducible refine below_grown (by assumption) ?_ ?_ ?_) | omega | (simp; done) | (simp; omega))))) (IsI.below HIb.out (by (repeat' (first | (with_reducible exact Below.refl _ _) | (with_reducible assumption) | (with_reducible refine Below.alloc ?_ ?_ _) | (with_reducible refine below_drewN ?_ _) | (with_reducible refine Below.drew ?_) | (with_reducible refine Below.setCell ?_ ?_ _) | (with_reducible refine below_call (by assumption) ?_ ?_) | (with_reducible refine below_grown (by assumption) ?_ ?_ ?_) | omega | (simp; done) | (simp; omega))))) (by omega)).mono ?_
      rintro e wf ⟨rfl, hbf⟩
      go_wp2
      go_ret
      exact ⟨rfl, by (repeat' (first | (with_reducible exact Below.refl _ _) | (with_reducible assumption) | (with_reducible refine Below.alloc ?_ ?_ _) | (with_reducible refine below_drewN ?_ _) | (with_reducible refine Below.drew ?_) | (with_reducible refine Below.setCell ?_ ?_ _) | (with_reducible refine below_call (by assumption) ?_ ?_) | (with_reducible refine below_grown (by assumption) ?_ ?_ ?_) | omega | (simp; done) | (simp; omega)))⟩

theorem FnStealTile_own : ownKnob Try.prog.godebug = none := by kernel_rfl
theorem FnStealTile_laid : laidOutB Try.prog = true := by kernel_rfl

set_option maxRecDepth 100000 in
theorem FnStealTile_lifted (os : Os) (started : os.Started) (H : Type) (enc : TypeId × Value → H) :
    ReturnsInHanded {} Try.checked os 6 .any (Rows.fnStealTileSpec.pre6 enc Try.prog Try.f6 Rows.fnStealTileRow.domain false) (Rows.fnStealTileSpec.post enc Try.prog Try.f6 false true false false) := by
  refine returnsInHanded_of_change (C := Try.checked) FnStealTile_own started (by kernel_rfl) Try.func6
    (ChangeSpec.witness6 (enc := enc) (C := Try.checked) false ⟨#[], #[.slice none 0 0], []⟩ 8 (by kernel_rfl) (by kernel_rfl) (by kernel_rfl) (by kernel_rfl)) ?_
  intro W base args ds gs before hval0 hW hcnd _
  have hval : ∀ (j : Nat) t v, Try.f6.params[j]? = some t → args[j]? = some v → Value.okWide Try.prog W .any base t v := hval0
  have hW' := hW
  obtain ⟨p, q, hA0, hV, rfl, hfz, hnd⟩ := hW
  have hA : DataW.TrodAll enc Try.prog W 0 (fun _ => true) true Try.f6.params.toList args.toList ds p := hA0
  rw [Try.params6] at hA hval
  obtain ⟨v0, vs0, d0, ds0, p0, q0, hargs, rfl, rfl, h0, r0⟩ := trodAll_cons hA
  obtain ⟨rfl, rfl, rfl⟩ := trodAll_nil r0
  obtain rfl : args = #[v0] := by cases args; simp_all
  obtain ⟨rfl, rfl⟩ := trodVars_none hV
  have k0 := h0
  have lt0 : ∀ x ∈ p0, x.block < W.heap.size := by obtain ⟨m, hm⟩ := k0; exact DataW.trod_lt m _ _ _ hm
  obtain ⟨a0, len0, cap0, rfl⟩ := okWide_slice Try.underlying29 (hval 0 29 v0 rfl rfl)
  have w0 := code_of Try.underlying29 Try.underlying5 (by kernel_rfl) h0
  clear hA0 hval0
  refine (FnStealTile_walk W _ _ _ w0).mono fun e W' ⟨he, bel⟩ => ?_
  subst he
  exact ⟨_, rfl, _, _, _, [], _, [], hW', trodAll_mk1 (shut_bool Try.underlying4 _), (trodAll_cons_mk (Below.trod FnStealTile_laid (by kernel_rfl) (of_decide_eq_true (by kernel_rfl)) k0 bel lt0) trodAll_mk0), rfl, bel.frame _, fun h => by cases h⟩

theorem FnStealTile_over : Rows.fnStealTileRow.holds Try.pinned (OpenSpec.ofChange Rows.fnStealTileSpec) :=
  OpenClaim.holds_of_wide 6 Try.f6 rfl rfl rfl rfl rfl rfl rfl ⟨rfl, rfl, rfl, rfl, rfl⟩ rfl rfl rfl rfl rfl (by kernel_rfl) Try.func6 (by kernel_rfl)
    (of_decide_eq_true (by kernel_rfl)) (by unfold Func.isWrapper; first | (rw [if_pos (by decide +kernel)]; kernel_rfl) | (rw [if_neg (by decide +kernel)]; exact ⟨rfl, rfl⟩))
    (fun os started H enc _ => FnStealTile_lifted os started H enc)

/-- The statement. -/
theorem FnStealTile_holds : Rows.FnStealTileSaid := FnStealTile_over
#print axioms FnStealTile_holds

end Go.Proofs.Ytclfocdghbmmlaa
