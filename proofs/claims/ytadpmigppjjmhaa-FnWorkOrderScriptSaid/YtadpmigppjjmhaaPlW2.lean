/-
  Plain laws on the order of work, second part: what comes out, one worker, one more turn.
-/
import Derived.Test.YtadpmigppjjmhaaPlW
namespace Go.Proofs.Ytadpmigppjjmhaa.Pl

def workB (script : List Tn) (count ws : Int) : Bool := decide (0 ≤ count ∧ count ≤ 16) && wOk script ws
/-- L is the order of work. -/
def WorkIs (script : List Tn) (count ws : Int) (L : List Tn) : Prop :=
  if workB script count ws = true then ∃ k, EndsAt script count ws k ∧ L = (runW script count ws k).out else L = []
theorem WorkIs.unique {script : List Tn} {count ws : Int} {L M : List Tn} (h : WorkIs script count ws L) (h' : WorkIs script count ws M) : L = M := by
  unfold WorkIs at h h'
  split at h
  · rename_i hb
    rw [if_pos hb] at h'
    obtain ⟨k, hk, rfl⟩ := h
    obtain ⟨j, hj, rfl⟩ := h'
    rw [hk.unique hj]
  · rename_i hb
    rw [if_neg hb] at h'
    rw [h, h']
theorem workB_parts {script : List Tn} {count ws : Int} (h : workB script count ws = true) : (0 ≤ count ∧ count ≤ 16) ∧ wOk script ws = true := by
  simpa only [workB, Bool.and_eq_true, decide_eq_true_eq] using h
theorem WorkIs.len {script : List Tn} {count ws : Int} {L : List Tn} (h : WorkIs script count ws L) : L.length ≤ 16 := by
  unfold WorkIs at h
  split at h
  · rename_i hb
    obtain ⟨k, hk, rfl⟩ := h
    have := hk.1; have := (workB_parts hb).1; omega
  · rw [h]; simp
theorem WorkIs.some {script : List Tn} {count ws : Int} {L : List Tn} (h : WorkIs script count ws L) (hL : 0 < L.length) : workB script count ws = true ∧ (L.length : Int) = count := by
  unfold WorkIs at h
  split at h
  · rename_i hb
    obtain ⟨k, hk, rfl⟩ := h
    exact ⟨hb, hk.1⟩
  · rw [h] at hL; simp at hL

/-! One more turn, that comes in the same way anyway. -/
def moreT (script : List Tn) (ws : Int) : List Tn := script ++ [((script.length : Int) % ws, ((script.length : Int) + 1) % ws)]
theorem turnAt_more (script : List Tn) (ws : Int) (i : Nat) : turnAt (moreT script ws) ws i = turnAt script ws i := by
  unfold turnAt moreT
  rw [List.length_append]
  simp only [List.length_cons, List.length_nil]
  by_cases h : i < script.length
  · rw [if_pos (by omega), if_pos h]
    simp [List.getD, List.getElem?_append_left h]
  · by_cases e : i = script.length
    · subst e
      rw [if_pos (by omega), if_neg h]
      simp [List.getD]
    · rw [if_neg (by omega), if_neg h]
theorem runW_more (script : List Tn) (count ws : Int) : ∀ k, runW (moreT script ws) count ws k = runW script count ws k
  | 0 => rfl
  | k + 1 => by simp only [runW, stepW, runW_more script count ws k, turnAt_more]
theorem wOk_more {script : List Tn} {ws : Int} (h : wOk script ws = true) (hl : script.length < 30) : wOk (moreT script ws) ws = true := by
  obtain ⟨h1, h2⟩ := wOk_parts h
  simp only [wOk, moreT, Bool.and_eq_true, decide_eq_true_eq, List.all_eq_true, List.length_append, List.length_cons, List.length_nil]
  refine ⟨by omega, fun t ht => ?_⟩
  rcases List.mem_append.1 ht with ht | ht
  · exact h2 t ht
  · simp only [List.mem_cons, List.not_mem_nil, or_false] at ht
    subst ht
    exact ⟨Int.emod_nonneg _ (by omega), Int.emod_lt_of_pos _ (by omega), Int.emod_nonneg _ (by omega), Int.emod_lt_of_pos _ (by omega)⟩
theorem WorkIs.more {script : List Tn} {count ws : Int} {L : List Tn} (h : WorkIs script count ws L) (hb : workB script count ws = true) (hl : script.length < 30) : WorkIs (moreT script ws) count ws L := by
  obtain ⟨h1, h2⟩ := workB_parts hb
  have hb' : workB (moreT script ws) count ws = true := by
    simp only [workB, Bool.and_eq_true, decide_eq_true_eq]; exact ⟨h1, wOk_more h2 hl⟩
  unfold WorkIs at h ⊢
  rw [if_pos hb] at h
  rw [if_pos hb']
  obtain ⟨k, hk, rfl⟩ := h
  exact ⟨k, ⟨by rw [runW_more]; exact hk.1, fun j hj => by rw [runW_more]; exact hk.2 j hj⟩, by rw [runW_more]⟩

/-! One worker. -/
def upTo (n : Nat) : List Int := (List.range n).map fun (t : Nat) => (t : Int)
theorem upTo_succ (n : Nat) : upTo (n + 1) = upTo n ++ [(n : Int)] := by simp [upTo, List.range_succ]
def downL (n k : Nat) : List Tn := (List.range k).map fun (j : Nat) => ((0 : Int), (n : Int) - 1 - (j : Int))
theorem startW_one (n : Nat) : startW n 1 = ⟨[upTo n], []⟩ := by
  have e : startQ n 1 0 = upTo n := by
    unfold startQ upTo
    rw [List.filter_eq_self.2]
    · simp
    · intro t _; simp [Int.emod_one]
  simp [startW, e]
theorem turn_one (i : Nat) : turnAt [] 1 i = (0, 0) := by simp [turnAt, Int.emod_one]
theorem run_one (n : Nat) : ∀ k, k ≤ n → runW [] n 1 k = ⟨[upTo (n - k)], downL n k⟩
  | 0, _ => by simp [runW, startW_one, downL]
  | k + 1, h => by
    rw [runW, run_one n k (by omega)]
    obtain ⟨m, hm⟩ : ∃ m, n - k = m + 1 := ⟨n - k - 1, by omega⟩
    have e2 : n - (k + 1) = m := by omega
    have e3 : (n : Int) - 1 - k = m := by omega
    have hne : upTo (m + 1) ≠ [] := by rw [upTo_succ]; simp
    have hq : qAt [upTo (m + 1)] 0 = upTo (m + 1) := rfl
    unfold stepW
    rw [turn_one, hm, e2]
    simp only [turnQ, hq, if_pos hne]
    rw [upTo_succ]
    simp [qSet, downL, List.range_succ, e3]
theorem WorkIs.one {count : Int} {L : List Tn} (h : WorkIs [] count 1 L) (h0 : 0 ≤ count) (h1 : count ≤ 16) : (L.length : Int) = count ∧ ∀ i, i < L.length → L.getD i (0, 0) = (0, count - 1 - (i : Int)) := by
  obtain ⟨n, rfl⟩ := Int.eq_ofNat_of_zero_le h0
  have hb : workB [] (n : Int) 1 = true := by simp [workB, wOk]; omega
  unfold WorkIs at h
  rw [if_pos hb] at h
  obtain ⟨k, hk, rfl⟩ := h
  have hn : EndsAt [] (n : Int) 1 n := ⟨by rw [run_one n n (Nat.le_refl _)]; simp [downL], fun j hj => by rw [run_one n j (by omega)]; simp [downL]; omega⟩
  obtain rfl := hk.unique hn
  refine ⟨hk.1, fun i hi => ?_⟩
  rw [run_one k k (Nat.le_refl _)] at hi ⊢
  simp [downL] at hi
  simp [downL, List.getD, hi]

end Go.Proofs.Ytadpmigppjjmhaa.Pl
