/-
  Plain laws on the order of work, fifth part: a turn of either program is a step.
-/
import Derived.Test.YtadpmigppjjmhaaPlW4
namespace Go.Proofs.Ytadpmigppjjmhaa.Pl

def oneT (w : Int) : Option Int → List Tn
  | some x => [(w, x)]
  | none => []
theorem step_eq {script : List Tn} {count ws : Int} {k : Nat} {t : Tn} {q : List (List Int)} {y : Option Int} (ht : turnAt script ws k = t) (hq : turnQ (runW script count ws k).qs t = (q, y)) :
    runW script count ws (k + 1) = ⟨q, (runW script count ws k).out ++ oneT t.1 y⟩ := by
  simp only [runW, stepW]
  rw [ht, hq]
  cases y <;> simp [oneT]
/-- A step by the reference's queues. -/
theorem step_ref {script : List Tn} {count ws : Int} {k : Nat} {ds ds' : List Dq} {t : Tn} {x : Int} (hall : AllD ds) (hmap : ds.map tilesD = (runW script count ws k).qs) (ht : turnAt script ws k = t)
    (h1 : 0 ≤ t.1 ∧ t.1 < ds.length) (h2 : 0 ≤ t.2 ∧ t.2 < ds.length) (hT : turnD ds t = (ds', x)) :
    AllD ds' ∧ ds'.length = ds.length ∧ ds'.map tilesD = (runW script count ws (k + 1)).qs ∧ (runW script count ws (k + 1)).out = (runW script count ws k).out ++ (if 0 ≤ x then [(t.1, x)] else []) := by
  have a1 := turnD_valid hall t
  have a2 := turnD_len ds t
  have a3 := turnD_tiles hall h1 h2
  rw [hT] at a1 a2 a3
  rw [hmap] at a3
  obtain ⟨b1, b2⟩ := a3
  simp only at a1 a2 b1 b2
  have e := step_eq (count := count) (q := ds'.map tilesD) (y := if 0 ≤ x then some x else none) ht (by rw [b1, ← b2])
  refine ⟨a1, a2, by rw [e], ?_⟩
  rw [e]
  simp only
  by_cases hx : 0 ≤ x
  · rw [if_pos hx, if_pos hx]; rfl
  · rw [if_neg hx, if_neg hx]; rfl
/-- What is kept from step to step. -/
structure RunOk (script : List Tn) (count ws k : Nat) : Prop where
  ok : okW (count : Int) (ws : Int) (runW script count ws k)
  near : k + measW script count ws k (runW script count ws k) ≤ 1100
  all : ∀ j, j < k → ((runW script count ws j).out.length : Int) < count
theorem RunOk.zero {script : List Tn} {count ws : Nat} (h : wOk script ws = true) (h16 : count ≤ 16) : RunOk script count ws 0 := by
  obtain ⟨h1, _⟩ := wOk_parts h
  refine ⟨startW_okW (by omega), ?_, fun j hj => by omega⟩
  have := wait_le h 0 (runW script count ws 0).qs
  have e : (runW script count ws 0).out.length = 0 := rfl
  unfold measW
  rw [e]; omega
theorem RunOk.next {script : List Tn} {count ws k : Nat} (h : wOk script ws = true) (r : RunOk script count ws k) (hlt : (runW script count ws k).out.length < count) :
    RunOk script count ws (k + 1) ∧ measW script count ws (k + 1) (runW script count ws (k + 1)) < measW script count ws k (runW script count ws k) := by
  have a := (step_ok (i := k) h r.ok).1
  have b := meas_lt (i := k) h r.ok (by omega)
  refine ⟨⟨a, ?_, fun j hj => ?_⟩, b⟩
  · have := r.near
    have e : runW script count ws (k + 1) = stepW script ws k (runW script count ws k) := rfl
    rw [← e] at b; omega
  · rcases Nat.lt_or_ge j k with h' | h'
    · exact r.all j h'
    · obtain rfl : j = k := by omega
      omega
theorem RunOk.ends {script : List Tn} {count ws k : Nat} (r : RunOk script count ws k) (h : ¬ (runW script count ws k).out.length < count) : EndsAt script count ws k := by
  have := r.ok.2
  exact ⟨by omega, r.all⟩
theorem RunOk.len {script : List Tn} {count ws k : Nat} (r : RunOk script count ws k) : (runW script count ws k).qs.length = ws ∧ (runW script count ws k).out.length ≤ count := by
  have := r.ok.1; have := r.ok.2; omega
/-- The turn, in numbers that are not negative. -/
theorem turn_nat {script : List Tn} {ws : Nat} (h : wOk script ws = true) (k : Nat) : ∃ i j : Nat, turnAt script ws k = ((i : Int), (j : Int)) ∧ i < ws ∧ j < ws := by
  obtain ⟨a, b, c, d⟩ := turnAt_in h k
  refine ⟨(turnAt script ws k).1.toNat, (turnAt script ws k).2.toNat, ?_, by omega, by omega⟩
  ext
  · simp only; omega
  · simp only; omega
theorem turn_own {script : List Tn} {ws k : Nat} (h : ¬ k < script.length) : turnAt script (ws : Int) k = (((k % ws : Nat) : Int), (((k + 1) % ws : Nat) : Int)) := by
  unfold turnAt; rw [if_neg h]; push_cast; rfl
theorem turn_script {script : List Tn} {ws k : Nat} (h : k < script.length) : turnAt script (ws : Int) k = (script.getD k (0, 0)) := by
  unfold turnAt; rw [if_pos h]

end Go.Proofs.Ytadpmigppjjmhaa.Pl
