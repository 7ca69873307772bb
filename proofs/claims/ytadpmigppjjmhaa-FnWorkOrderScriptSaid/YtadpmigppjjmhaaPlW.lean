/-
  Plain laws on the order of work, with no program in sight.
-/
import Derived.Test.YtadpmigppjjmhaaPlD
namespace Go.Proofs.Ytadpmigppjjmhaa.Pl

/-- A turn: the worker and the victim. -/
abbrev Tn := Int × Int
def turnAt (script : List Tn) (ws : Int) (i : Nat) : Tn := if i < script.length then script.getD i (0, 0) else ((i : Int) % ws, ((i : Int) + 1) % ws)
def qAt (qs : List (List Int)) (w : Int) : List Int := qs.getD w.toNat []
def qSet (qs : List (List Int)) (w : Int) (q : List Int) : List (List Int) := qs.set w.toNat q
/-- One turn: the queues behind it, and the tile. -/
def turnQ (qs : List (List Int)) (t : Tn) : List (List Int) × Option Int :=
  if qAt qs t.1 ≠ [] then (qSet qs t.1 (qAt qs t.1).dropLast, (qAt qs t.1).getLast?)
  else if qAt qs t.2 ≠ [] then (qSet qs t.2 (qAt qs t.2).tail, (qAt qs t.2).head?)
  else (qs, none)
structure WS where
  qs : List (List Int)
  out : List (Int × Int)
def stepW (script : List Tn) (ws : Int) (i : Nat) (s : WS) : WS :=
  match turnQ s.qs (turnAt script ws i) with
  | (q, some x) => ⟨q, s.out ++ [((turnAt script ws i).1, x)]⟩
  | (q, none) => ⟨q, s.out⟩
/-- The tiles that worker w begins with. -/
def startQ (count ws : Int) (w : Nat) : List Int := ((List.range count.toNat).filter fun t : Nat => decide ((t : Int) % ws = w)).map fun (t : Nat) => (t : Int)
def startW (count ws : Int) : WS := ⟨(List.range ws.toNat).map (startQ count ws), []⟩
def runW (script : List Tn) (count ws : Int) : Nat → WS
  | 0 => startW count ws
  | k + 1 => stepW script ws k (runW script count ws k)
/-- The first k at which all is done. -/
def EndsAt (script : List Tn) (count ws : Int) (k : Nat) : Prop := ((runW script count ws k).out.length : Int) = count ∧ ∀ j, j < k → ((runW script count ws j).out.length : Int) < count
theorem EndsAt.unique {script : List Tn} {count ws : Int} {k j : Nat} (h : EndsAt script count ws k) (h' : EndsAt script count ws j) : k = j := by
  rcases Nat.lt_trichotomy k j with a | a | a
  · have := h'.2 k a; have := h.1; omega
  · exact a
  · have := h.2 j a; have := h'.1; omega
def leftQ : List (List Int) → Nat
  | [] => 0
  | q :: l => q.length + leftQ l
theorem leftQ_set : ∀ (qs : List (List Int)) (i : Nat) (q : List Int), i < qs.length → leftQ (qs.set i q) + (qs.getD i []).length = leftQ qs + q.length
  | [], _, _, h => by simp at h
  | x :: l, 0, q, _ => by simp only [List.set_cons_zero, leftQ, List.getD_cons_zero]; omega
  | x :: l, i + 1, q, h => by
    have := leftQ_set l i q (by simpa using h)
    simp only [List.set_cons_succ, leftQ, List.getD_cons_succ]; omega
/-- Where a queue has something. -/
theorem leftQ_pos : ∀ (qs : List (List Int)), 0 < leftQ qs → ∃ i, i < qs.length ∧ qs.getD i [] ≠ []
  | [], h => by simp [leftQ] at h
  | x :: l, h => by
    by_cases e : x = []
    · subst e
      obtain ⟨i, hi, hne⟩ := leftQ_pos l (by simpa [leftQ] using h)
      exact ⟨i + 1, by simpa using hi, by simpa using hne⟩
    · exact ⟨0, by simp, by simpa using e⟩
def wOk (script : List Tn) (ws : Int) : Bool := decide (1 ≤ ws ∧ ws ≤ 4 ∧ script.length ≤ 30) && script.all fun t => decide (0 ≤ t.1 ∧ t.1 < ws ∧ 0 ≤ t.2 ∧ t.2 < ws)
theorem wOk_parts {script : List Tn} {ws : Int} (h : wOk script ws = true) : (1 ≤ ws ∧ ws ≤ 4 ∧ script.length ≤ 30) ∧ ∀ t ∈ script, 0 ≤ t.1 ∧ t.1 < ws ∧ 0 ≤ t.2 ∧ t.2 < ws := by
  simp only [wOk, Bool.and_eq_true, decide_eq_true_eq, List.all_eq_true] at h; exact h
theorem turnAt_in {script : List Tn} {ws : Int} (h : wOk script ws = true) (i : Nat) : 0 ≤ (turnAt script ws i).1 ∧ (turnAt script ws i).1 < ws ∧ 0 ≤ (turnAt script ws i).2 ∧ (turnAt script ws i).2 < ws := by
  obtain ⟨h1, h2⟩ := wOk_parts h
  unfold turnAt
  split
  · rename_i hi
    have e : script.getD i (0, 0) = script[i] := by simp [hi]
    rw [e]; exact h2 _ (List.getElem_mem hi)
  · exact ⟨Int.emod_nonneg _ (by omega), Int.emod_lt_of_pos _ (by omega), Int.emod_nonneg _ (by omega), Int.emod_lt_of_pos _ (by omega)⟩
/-- What a turn does to the queues. -/
theorem turn_left {qs : List (List Int)} {t : Tn} (h1 : 0 ≤ t.1 ∧ t.1 < qs.length) (h2 : 0 ≤ t.2 ∧ t.2 < qs.length) :
    (turnQ qs t).1.length = qs.length ∧ (((∃ x, (turnQ qs t).2 = some x) ∧ leftQ (turnQ qs t).1 + 1 = leftQ qs) ∨ ((turnQ qs t).2 = none ∧ (turnQ qs t).1 = qs ∧ qAt qs t.1 = [])) := by
  unfold turnQ
  by_cases a : qAt qs t.1 ≠ []
  · rw [if_pos a]
    have hl := List.length_pos_iff.2 a
    have := leftQ_set qs t.1.toNat (qAt qs t.1).dropLast (by omega)
    refine ⟨by simp [qSet], .inl ⟨⟨_, List.getLast?_eq_some_getLast a⟩, ?_⟩⟩
    rw [List.length_dropLast] at this
    simp only [qSet, qAt] at *; omega
  · rw [if_neg a]
    by_cases b : qAt qs t.2 ≠ []
    · rw [if_pos b]
      have hl := List.length_pos_iff.2 b
      have := leftQ_set qs t.2.toNat (qAt qs t.2).tail (by omega)
      refine ⟨by simp [qSet], .inl ⟨⟨_, List.head?_eq_some_head b⟩, ?_⟩⟩
      rw [List.length_tail] at this
      simp only [qSet, qAt] at *; omega
    · rw [if_neg b]
      exact ⟨rfl, .inr ⟨rfl, rfl, by simpa using a⟩⟩
/-- The state behind k turns: as many queues as workers, and no tile is lost. -/
def okW (count ws : Int) (s : WS) : Prop := (s.qs.length : Int) = ws ∧ (leftQ s.qs : Int) + s.out.length = count
theorem step_ok {script : List Tn} {count ws : Int} {i : Nat} {s : WS} (h : wOk script ws = true) (hs : okW count ws s) : okW count ws (stepW script ws i s) ∧
    (((stepW script ws i s).out.length = s.out.length + 1) ∨ (stepW script ws i s = s ∧ qAt s.qs (turnAt script ws i).1 = [])) := by
  obtain ⟨a, b⟩ := hs
  have ht := turnAt_in h i
  obtain ⟨c, d⟩ := turn_left (qs := s.qs) (t := turnAt script ws i) (by omega) (by omega)
  unfold stepW
  rcases d with ⟨⟨x, hx⟩, d⟩ | ⟨hx, hq, he⟩
  · obtain ⟨q, o, hq⟩ : ∃ q o, turnQ s.qs (turnAt script ws i) = (q, o) := ⟨_, _, rfl⟩
    rw [hq] at c d hx ⊢
    simp only at hx
    subst hx
    simp only at c d
    refine ⟨⟨by simp only; omega, ?_⟩, .inl (by simp)⟩
    simp only [List.length_append, List.length_cons, List.length_nil]; omega
  · obtain ⟨q, o, hq'⟩ : ∃ q o, turnQ s.qs (turnAt script ws i) = (q, o) := ⟨_, _, rfl⟩
    rw [hq'] at hx hq ⊢
    simp only at hx hq
    subst hx; subst hq
    exact ⟨⟨a, b⟩, .inr ⟨rfl, he⟩⟩
/-- How long to wait, at most, until a worker whose queue has something is on turn. -/
def firstQ : List (List Int) → Nat
  | [] => 0
  | q :: l => if q = [] then firstQ l + 1 else 0
theorem firstQ_at : ∀ (qs : List (List Int)), 0 < leftQ qs → firstQ qs < qs.length ∧ qs.getD (firstQ qs) [] ≠ []
  | [], h => by simp [leftQ] at h
  | x :: l, h => by
    by_cases e : x = []
    · subst e
      have := firstQ_at l (by simpa [leftQ] using h)
      simp only [firstQ, if_true, List.length_cons, List.getD_cons_succ]; exact ⟨by omega, this.2⟩
    · simp only [firstQ, if_neg e, List.length_cons, List.getD_cons_zero]; exact ⟨by omega, e⟩
def waitW (script : List Tn) (ws : Int) (i : Nat) (qs : List (List Int)) : Nat := (script.length - i) + (((firstQ qs : Int) - (max i script.length : Nat)) % ws).toNat
def measW (script : List Tn) (count ws : Int) (i : Nat) (s : WS) : Nat := (count - s.out.length).toNat * 64 + waitW script ws i s.qs
theorem wait_le {script : List Tn} {ws : Int} (h : wOk script ws = true) (i : Nat) (qs : List (List Int)) : waitW script ws i qs < 34 := by
  obtain ⟨h1, _⟩ := wOk_parts h
  unfold waitW
  have a := Int.emod_lt_of_pos ((firstQ qs : Int) - (max i script.length : Nat)) (by omega : 0 < ws)
  have b := Int.emod_nonneg ((firstQ qs : Int) - (max i script.length : Nat)) (by omega : ws ≠ 0)
  omega
theorem emod_pred {a ws : Int} (h : 1 ≤ ws) (hne : a % ws ≠ 0) : (a - 1) % ws = a % ws - 1 := by
  have h1 := Int.emod_nonneg a (by omega : ws ≠ 0)
  have h2 := Int.emod_lt_of_pos a (by omega : 0 < ws)
  have e : a - 1 = (a % ws - 1) + ws * (a / ws) := by have := Int.emod_add_mul_ediv a ws; omega
  rw [e, Int.add_mul_emod_self_left, Int.emod_eq_of_lt (by omega) (by omega)]
/-- Each turn is a step nearer to the end. -/
theorem meas_lt {script : List Tn} {count ws : Int} {i : Nat} {s : WS} (h : wOk script ws = true) (hs : okW count ws s) (hlt : (s.out.length : Int) < count) :
    measW script count ws (i + 1) (stepW script ws i s) < measW script count ws i s := by
  obtain ⟨h1, _⟩ := wOk_parts h
  obtain ⟨a, b⟩ := step_ok (i := i) h hs
  rcases b with b | ⟨b, hq⟩
  · have := wait_le h (i + 1) (stepW script ws i s).qs
    unfold measW
    rw [b]; omega
  · rw [b]
    unfold measW
    have hp := firstQ_at s.qs (by have := hs.2; omega)
    suffices hw : waitW script ws (i + 1) s.qs < waitW script ws i s.qs by omega
    unfold waitW
    by_cases hi : i < script.length
    · rw [show max (i + 1) script.length = max i script.length by omega]; omega
    · rw [show max (i + 1) script.length = i + 1 by omega, show max i script.length = i by omega]
      have ht : turnAt script ws i = ((i : Int) % ws, ((i : Int) + 1) % ws) := by unfold turnAt; rw [if_neg hi]
      rw [ht] at hq
      have hne : ((firstQ s.qs : Int) - (i : Int)) % ws ≠ 0 := fun he => by
        have e1 : (firstQ s.qs : Int) % ws = (i : Int) % ws := Int.emod_eq_emod_iff_emod_sub_eq_zero.2 he
        have e2 : (firstQ s.qs : Int) % ws = firstQ s.qs := Int.emod_eq_of_lt (by omega) (by have := hs.1; omega)
        rw [← e1, e2] at hq
        exact hp.2 (by simpa [qAt] using hq)
      have e := emod_pred h1.1 hne
      have e3 : (firstQ s.qs : Int) - ((i + 1 : Nat) : Int) = (firstQ s.qs : Int) - (i : Int) - 1 := by push_cast; omega
      rw [e3, e]
      have := Int.emod_nonneg ((firstQ s.qs : Int) - (i : Int)) (by omega : ws ≠ 0)
      omega

end Go.Proofs.Ytadpmigppjjmhaa.Pl
