/-
  A new queue of the program: Repeat at one number and sixteen.
-/
import Derived.Test.YtclfocdghbmmlaaDeqL
import Derived.Laws.CopyOwn
namespace Go.Proofs.Ytclfocdghbmmlaa
open Go.RowKit Pl

set_option linter.unusedSimpArgs false
set_option linter.unusedVariables false

set_option maxHeartbeats 1000000 in
theorem Mul64_16 (w : World) : Calls Try.prog 73 #[.int .u64 1, .int .u64 16] w fun e w' => e = .returned (.tuple #[.int .u64 0, .int .u64 16]) ∧ w = w' := by
  have b1 : bits .and .u64 1 4294967295 = 1 := by kernel_rfl
  have b2 : bits .and .u64 16 4294967295 = 16 := by kernel_rfl
  have b3 : bits .and .u64 0 4294967295 = 0 := by kernel_rfl
  have b4 : IntKind.u64.wrap 16 = 16 := by kernel_rfl
  have b5 : IntKind.u64.wrap 0 = 0 := by kernel_rfl
  have b6 : (0 : Int) / 4294967296 = 0 := by decide
  have b7 : (16 : Int) / 4294967296 = 0 := by decide
  go_enter Try.func73, Try.ntmps73
  go_wp2
  ((try simp only [Exit.inBlock, Exit.then]); refine bodyPost_ret (by simp [results, Try.results73, go_sem, *]; try rfl) rfl ?_)
  exact ⟨rfl, rfl⟩

set_option maxHeartbeats 1000000 in
theorem Mul_16 (w : World) : Calls Try.prog 60 #[.int .u64 1, .int .u64 16] w fun e w' => e = .returned (.tuple #[.int .u64 0, .int .u64 16]) ∧ w = w' := by
  go_enter Try.func60, Try.ntmps60
  go_wp2_with ((go_at_call 73; (with_reducible refine (Mul64_16 _).mono ?_); rintro e w1 ⟨rfl, rfl⟩))
  ((try simp only [Exit.inBlock, Exit.then]); refine bodyPost_ret (by simp [results, Try.results60, go_sem, *]; try rfl) rfl ?_)
  exact ⟨rfl, rfl⟩

/-- The block, when k cells are written. -/
def repC (k : Nat) : List Value := List.replicate k (.int .i64 (-1)) ++ List.replicate (16 - k) (.int .i64 0)

theorem repC_len {k : Nat} (h : k ≤ 16) : (repC k).length = 16 := by simp [repC]; omega
theorem int_one : (Try.prog.info? 3).map (·.size) = some 1 := by kernel_rfl

theorem rep_first {w : World} {g : Nat} (hg : w.heap[g]? = some (.cells #[.int .i64 (-1)] 3 (0, 0))) :
    ∃ w1, Sem.run Try.prog (Builtin.copy_ #[22, 22] 3 #[.slice (some ⟨w.heap.size, 0, none⟩) 16 16, .slice (some ⟨g, 0, none⟩) 1 1]) (w.alloc (.cells (repC 0).toArray 3)) = .ok (.int .i64 1) w1 ∧
      w1.heap[w.heap.size]? = some (.cells (repC 1).toArray 3 (0, 0)) ∧ Below w.heap.size w w1 := by
  have hnew := blk_new w (.cells (repC 0).toArray 3)
  have hr := run_copy_row (P := Try.prog) (w.alloc (.cells (repC 0).toArray 3)) 22 22 3 3 w.heap.size 0 16 16 ⟨g, 0, none⟩ 1 1 (repC 0).toArray 3 [.int .i64 (-1)]
    Try.underlying22 int_one hnew rfl (fun j v hv => by rw [add_off, Nat.zero_add, blk_cell (blk_alloc hg _), ← Array.getElem?_toList]; exact hv) (by decide) (fun v hv => by simp at hv; subst hv; rfl)
  refine ⟨_, hr, (setRow_heap _ _ _ _ _ _ hnew).trans ?_, below_setRow (by (repeat' (first | (with_reducible exact Below.refl _ _) | (with_reducible assumption) | (with_reducible refine Below.alloc ?_ ?_ _) | (with_reducible refine below_drewN ?_ _) | (with_reducible refine Below.drew ?_) | (with_reducible refine Below.setCell ?_ ?_ _) | (with_reducible refine below_call (by assumption) ?_ ?_) | (with_reducible refine below_grown (by assumption) ?_ ?_ ?_) | omega | (simp; done) | (simp; omega)))) (Nat.le_refl _) _⟩
  congr 1
theorem rep_step {w0 w : World} {g k : Nat} (hk : k = 1 ∨ k = 2 ∨ k = 4 ∨ k = 8) (hg : w.heap[g]? = some (.cells (repC k).toArray 3 (0, 0))) (hb : Below g w0 w) :
    ∃ w1, Sem.run Try.prog (Builtin.copy_ #[22, 22] 3 #[.slice (some ⟨g, k, none⟩) (16 - k) (16 - k), .slice (some ⟨g, 0, none⟩) k 16]) w = .ok (.int .i64 k) w1 ∧
      w1.heap[g]? = some (.cells (repC (2 * k)).toArray 3 (0, 0)) ∧ Below g w0 w1 := by
  have hr := run_copy_row (P := Try.prog) w 22 22 3 3 g k (16 - k) (16 - k) ⟨g, 0, none⟩ k 16 (repC k).toArray 3 (List.replicate k (.int .i64 (-1)))
    Try.underlying22 int_one hg (by rcases hk with rfl | rfl | rfl | rfl <;> rfl) (fun j v hv => by
      have hj : j < k := by have := (List.getElem?_eq_some_iff.1 hv).1; simpa using this
      rw [add_off, Nat.zero_add, blk_cell hg, ← Array.getElem?_toList]
      show (repC k)[j]? = _
      rw [repC, List.getElem?_append_left (by simpa using hj)]; exact hv) (by rcases hk with rfl | rfl | rfl | rfl <;> decide) (fun v hv => by rw [(List.mem_replicate.1 hv).2]; rfl)
  rw [List.length_replicate] at hr
  refine ⟨_, hr, (setRow_heap _ _ _ _ _ _ hg).trans ?_, below_setRow hb (Nat.le_refl _) _⟩
  · rcases hk with rfl | rfl | rfl | rfl <;> rfl

set_option maxHeartbeats 1000000 in
theorem Repeat_16 {w : World} {g : Nat} (hg : w.heap[g]? = some (.cells #[.int .i64 (-1)] 3 (0, 0))) : Calls Try.prog 42 #[.slice (some ⟨g, 0, none⟩) 1 1, .int .i64 16] w
    (fun e w' => ∃ A c, e = .returned (.slice A 16 c) ∧ OwnI w.heap.size w' (.slice A 16 c) (List.replicate 16 (-1)) ∧ Below w.heap.size w w') := by
  have hmk : ∀ w, (Instr.makeSlice 22 (.int .i64 16) (.int .i64 16)).run Try.prog w = .ok (.slice (some ⟨w.heap.size, 0, none⟩) 16 16) (w.alloc (.cells (repC 0).toArray 3)) := fun _ => by kernel_rfl
  obtain ⟨w1, hcp, hw1, hb1⟩ := rep_first hg
  have HB := Lib.hid hb1
  have HG := Lib.hid hw1
  clear hg hw1 hb1
  go_enter Try.func42, Try.ntmps42
  go_wp2_with fail
  refine (Mul_16 _).mono ?_
  rintro e w0 ⟨rfl, rfl⟩
  go_wp2
  go_loopw [8] (fun vn wr => ∃ (k : Nat) (i : Int), ((k = 1 ∧ i = 1) ∨ (k = 2 ∧ i = 2) ∨ (k = 4 ∧ i = 4) ∨ (k = 8 ∧ i = 8) ∨ (k = 16 ∧ i = 16)) ∧ vn = .int .i64 i ∧ wr.heap[w.heap.size]? = some (.cells (repC k).toArray 3 (0, 0)) ∧ Below w.heap.size w wr) (fun vn _ => 16 - (intOf vn).toNat)
  case atStart => exact ⟨1, 1, .inl ⟨rfl, rfl⟩, rfl, HG.out, HB.out⟩
  case round =>
    obtain ⟨k, i, hk, rfl, hg, hbel⟩ := hrel
    obtain ⟨wo, rfl⟩ : ∃ wo : World, wo = wr := ⟨_, rfl⟩
    have hsz := hbel.size
    by_cases h16 : k = 16
    · obtain rfl : i = 16 := by omega
      subst h16
      have HG2 := Lib.hid hg
      clear hg
      go_wp2
      go_ret
      refine ⟨_, _, rfl, OwnV.made (Nat.le_refl _) HG2.out rfl (by decide) rfl, hbel⟩
    · have hk4 : k = 1 ∨ k = 2 ∨ k = 4 ∨ k = 8 := by omega
      have eb : decide (i < 16) = true := decide_eq_true (by omega)
      have HG2 := Lib.hid hg
      clear hg
      rcases hk with ⟨rfl, rfl⟩ | ⟨rfl, rfl⟩ | ⟨rfl, rfl⟩ | ⟨rfl, rfl⟩ | ⟨rfl, rfl⟩
      case inr.inr.inr.inr => omega
      all_goals
        go_wp2_with fail
        apply wp_region_pure (by kernel_rfl) ([] :: [] :: [] :: [1, 2] :: [] :: [] :: [4, 5] :: []) (RS.det [] _ :: RS.det [] _ :: RS.det [] _ :: RS.det [1, 2] _ :: RS.det [] _ :: RS.det [] _ :: RS.det [4, 5] _ :: []) [0] rfl (by kernel_rfl) (by intro _ c a d v w h; cases d <;> exact h) (by kernel_rfl) (by kernel_rfl) (st_det (st_det (st_det (st_det (st_det (st_det (st_det st_nil))))))) _ (fun v => by simp; rfl)
        case hop =>
          simp only [Obls]
          refine ⟨?_, ?_, ?_, ?_, ?_, ?_, ?_, trivial⟩
          · (intro v w1 K hb hF hK; (try simp at hF); simp at hK; (try simp only [hF] at hK); have hz := hb.size; (try simp at hz))
            go_simp
            (try simp only [])
            exact hK _ _ rfl (by (repeat' (first | (with_reducible exact Below.refl _ _) | (with_reducible assumption) | (with_reducible refine Below.alloc ?_ ?_ _) | (with_reducible refine below_drewN ?_ _) | (with_reducible refine Below.drew ?_) | (with_reducible refine Below.setCell ?_ ?_ _) | (with_reducible refine below_call (by assumption) ?_ ?_) | go_size)))
          · (intro v w1 K hb hF hK; (try simp at hF); simp at hK; (try simp only [hF] at hK); have hz := hb.size; (try simp at hz))
            go_simp
            (try simp only [])
            exact hK _ _ rfl (by (repeat' (first | (with_reducible exact Below.refl _ _) | (with_reducible assumption) | (with_reducible refine Below.alloc ?_ ?_ _) | (with_reducible refine below_drewN ?_ _) | (with_reducible refine Below.drew ?_) | (with_reducible refine Below.setCell ?_ ?_ _) | (with_reducible refine below_call (by assumption) ?_ ?_) | go_size)))
          · (intro v w1 K hb hF hK; (try simp at hF); simp at hK; (try simp only [hF] at hK); have hz := hb.size; (try simp at hz))
            go_simp
            (try simp only [])
            exact hK _ _ rfl (by (repeat' (first | (with_reducible exact Below.refl _ _) | (with_reducible assumption) | (with_reducible refine Below.alloc ?_ ?_ _) | (with_reducible refine below_drewN ?_ _) | (with_reducible refine Below.drew ?_) | (with_reducible refine Below.setCell ?_ ?_ _) | (with_reducible refine below_call (by assumption) ?_ ?_) | go_size)))
          · (intro v w1 K hb hF hK; (try simp at hF); simp at hK; (try simp only [hF] at hK); have hz := hb.size; (try simp at hz))
            go_simp
            (try simp only [])
            exact hK _ _ rfl (by (repeat' (first | (with_reducible exact Below.refl _ _) | (with_reducible assumption) | (with_reducible refine Below.alloc ?_ ?_ _) | (with_reducible refine below_drewN ?_ _) | (with_reducible refine Below.drew ?_) | (with_reducible refine Below.setCell ?_ ?_ _) | (with_reducible refine below_call (by assumption) ?_ ?_) | go_size)))
          · (intro v w1 K hb hF hK; (try simp at hF); simp at hK; (try simp only [hF] at hK); have hz := hb.size; (try simp at hz))
            go_simp
            (try simp only [])
            exact hK _ _ rfl (by (repeat' (first | (with_reducible exact Below.refl _ _) | (with_reducible assumption) | (with_reducible refine Below.alloc ?_ ?_ _) | (with_reducible refine below_drewN ?_ _) | (with_reducible refine Below.drew ?_) | (with_reducible refine Below.setCell ?_ ?_ _) | (with_reducible refine below_call (by assumption) ?_ ?_) | go_size)))
          · (intro v w1 K hb hF hK; (try simp at hF); simp at hK; (try simp only [hF] at hK); have hz := hb.size; (try simp at hz))
            go_simp
            (try simp only [])
            exact hK _ _ rfl (by (repeat' (first | (with_reducible exact Below.refl _ _) | (with_reducible assumption) | (with_reducible refine Below.alloc ?_ ?_ _) | (with_reducible refine below_drewN ?_ _) | (with_reducible refine Below.drew ?_) | (with_reducible refine Below.setCell ?_ ?_ _) | (with_reducible refine below_call (by assumption) ?_ ?_) | go_size)))
          · (intro v w1 K hb hF hK; (try simp at hF); simp at hK; (try simp only [hF] at hK); have hz := hb.size; (try simp at hz))
            go_simp
            (try simp only [])
            exact hK _ _ rfl (by (repeat' (first | (with_reducible exact Below.refl _ _) | (with_reducible assumption) | (with_reducible refine Below.alloc ?_ ?_ _) | (with_reducible refine below_drewN ?_ _) | (with_reducible refine Below.drew ?_) | (with_reducible refine Below.setCell ?_ ?_ _) | (with_reducible refine below_call (by assumption) ?_ ?_) | go_size)))
        case hfo => exact ⟨fun _ => rfl, trivial⟩
        (intro v w1 hb hF; simp [List.range, List.range.loop] at hF; have hz := hb.size; (try simp at hz))
        obtain ⟨e0, e1, e2, e3, e4, e5, e6⟩ := hF
        simp only [List.length_cons, List.length_nil, List.drop_succ_cons, List.drop_zero, e0, e1, e2, e3, e4, e5, e6]
        clear e0 e1 e2 e3 e4 e5 e6 v
        obtain ⟨wq, hcq, hgq, hbq⟩ := rep_step (by decide) (blk_below HG2.out hb) (hbel.trans (hb.mono hbel.size))
        have HGq := Lib.hid hgq
        have HBq := Lib.hid hbq
        clear hgq hbq
        simp at hcq
        go_wp2
        go_roundw
        case rel => exact ⟨_, _, by decide, rfl, HGq.out, HBq.out⟩
        case measure => simp [intOf]

set_option maxHeartbeats 1000000 in
theorem NewDeque_any (w : World) : Calls Try.prog 16 #[] w (RetD newD w) := by
  go_enter Try.func16, Try.ntmps16
  go_wp2_with fail
  refine (Repeat_16 (blk_new1 w _ _)).mono ?_
  rintro e w1 ⟨A, c, rfl, hown, hb⟩
  have hk0 := blk_below (blk_alloc (blk_new w (.cells #[.slice none 0 0, .int .i64 0, .int .i64 0] 24)) (.cells #[.int .i64 (-1)] 3)) hb
  have hkc := blk_cell hk0
  have hkf := blk_free hk0
  have hkl := blk_lt hk0
  have HO := Lib.hid hown
  clear hown
  go_wp2
  ((try simp only [Exit.inBlock, Exit.then]); refine bodyPost_ret (by simp [results, Try.results16, go_sem, *]; try rfl) rfl ?_)
  exact ⟨A, c, rfl, (HO.out.weak.heap (fun g hg => by
    have hg' : w.heap.size + 2 ≤ g := by simpa using hg
    repeat (first | rfl | (with_reducible refine blk_far ?_ _ (by first | omega | (simp; omega)))))).lower (by simp; omega), by (repeat' (first | (with_reducible exact Below.refl _ _) | (with_reducible assumption) | (with_reducible refine Below.alloc ?_ ?_ _) | (with_reducible refine below_drewN ?_ _) | (with_reducible refine Below.drew ?_) | (with_reducible refine Below.setCell ?_ ?_ _) | (with_reducible refine below_call (by assumption) ?_ ?_) | (with_reducible refine below_grown (by assumption) ?_ ?_ ?_) | omega | (simp; done) | (simp; omega)))⟩

end Go.Proofs.Ytclfocdghbmmlaa
