/-
  Plain laws on the order of work, third part: how the queues begin; the reference's queues.
-/
import Derived.Test.YtadpmigppjjmhaaPlW2
namespace Go.Proofs.Ytadpmigppjjmhaa.Pl

theorem startQ_zero (ws : Int) (w : Nat) : startQ 0 ws w = [] := by simp [startQ]
theorem startQ_succ (n : Nat) (ws : Int) (w : Nat) : startQ ((n + 1 : Nat) : Int) ws w = startQ (n : Int) ws w ++ if (n : Int) % ws = w then [(n : Int)] else [] := by
  simp only [startQ, Int.toNat_natCast, List.range_succ, List.filter_append, List.map_append]
  congr 1
  by_cases h : (n : Int) % ws = w
  · simp [h]
  · simp [h]
theorem startQ_gap (ws : Int) (w n : Nat) : ∀ k, (∀ e : Nat, n ≤ e → e < n + k → (e : Int) % ws ≠ w) → startQ ((n + k : Nat) : Int) ws w = startQ (n : Int) ws w
  | 0, _ => rfl
  | k + 1, h => by
    rw [← Nat.add_assoc, startQ_succ, startQ_gap ws w n k fun e h1 h2 => h e h1 (by omega), if_neg (h (n + k) (by omega) (by omega)), List.append_nil]
theorem startQ_to {ws : Int} {w n m : Nat} (hnm : n ≤ m) (h : ∀ e : Nat, n ≤ e → e < m → (e : Int) % ws ≠ w) : startQ (m : Int) ws w = startQ (n : Int) ws w := by
  have := startQ_gap ws w n (m - n) fun e h1 h2 => h e h1 (by omega)
  rwa [show n + (m - n) = m by omega] at this
/-- From one tile of a worker on to the next one. -/
theorem startQ_next {ws w t : Nat} (h1 : 1 ≤ ws) (hw : w < ws) (ht : t % ws = w) : startQ ((t + ws : Nat) : Int) ws w = startQ (t : Int) ws w ++ [(t : Int)] := by
  have e := startQ_succ t (ws : Int) w
  rw [if_pos (by exact_mod_cast ht)] at e
  rw [← e]
  refine startQ_to (by omega) fun e h1 h2 h => ?_
  have h' : e % ws = w := by exact_mod_cast h
  have a1 := Nat.div_add_mod e ws
  have a2 := Nat.div_add_mod t ws
  rw [h'] at a1
  rw [ht] at a2
  obtain ⟨p, hp⟩ : ∃ p, e / ws = p := ⟨_, rfl⟩
  obtain ⟨q, hq⟩ : ∃ q, t / ws = q := ⟨_, rfl⟩
  rw [hp] at a1
  rw [hq] at a2
  rcases Nat.lt_trichotomy p q with c | c | c
  · have := Nat.mul_le_mul_left ws (show p + 1 ≤ q by omega)
    rw [Nat.mul_add] at this; omega
  · subst c; omega
  · have := Nat.mul_le_mul_left ws (show q + 1 ≤ p by omega)
    rw [Nat.mul_add] at this; omega
theorem startQ_len (ws : Int) (w : Nat) : ∀ n : Nat, (startQ (n : Int) ws w).length ≤ n
  | 0 => by simp [startQ]
  | n + 1 => by rw [startQ_succ, List.length_append]; have := startQ_len ws w n; split <;> simp <;> omega
theorem startQ_in (ws : Int) (w n : Nat) : ∀ x ∈ startQ (n : Int) ws w, 0 ≤ x ∧ x < n := fun x hx => by
  simp only [startQ, List.mem_map, List.mem_filter, List.mem_range] at hx
  obtain ⟨t, ⟨h, _⟩, rfl⟩ := hx
  omega
theorem startW_at {n : Nat} {ws w : Nat} (h : w < ws) : (startW (n : Int) (ws : Int)).qs[w]? = some (startQ (n : Int) ws w) := by simp [startW, h]
theorem startW_okW {n ws : Nat} (h : 1 ≤ ws) : okW n ws (startW n ws) := by
  refine ⟨by simp [startW], ?_⟩
  simp only [startW, Int.toNat_natCast, List.length_nil]
  have key : ∀ n : Nat, leftQ ((List.range ws).map (startQ (n : Int) (ws : Int))) = n := fun n => by
    induction n with
    | zero =>
      have : ∀ k, leftQ ((List.range k).map (startQ ((0 : Nat) : Int) (ws : Int))) = 0 := fun k => by
        have : (List.range k).map (startQ ((0 : Nat) : Int) (ws : Int)) = (List.range k).map fun _ => [] := List.map_congr_left fun i _ => startQ_zero _ _
        rw [this]
        clear this
        have : ∀ l : List Nat, leftQ (l.map fun _ => ([] : List Int)) = 0 := fun l => by induction l with
          | nil => rfl
          | cons a l ih => simp [leftQ, ih]
        exact this _
      exact this ws
    | succ n ih =>
      have hm : n % ws < ws := Nat.mod_lt _ (by omega)
      have e : (List.range ws).map (startQ ((n + 1 : Nat) : Int) (ws : Int)) = ((List.range ws).map (startQ (n : Int) (ws : Int))).set (n % ws) (startQ (n : Int) ws (n % ws : Nat) ++ [(n : Int)]) := by
        apply List.ext_getElem (by simp)
        intro i h1 h2
        simp at h1
        rw [List.getElem_map, List.getElem_range, startQ_succ, List.getElem_set]
        by_cases c : n % ws = i
        · subst c; rw [if_pos (by exact_mod_cast rfl), if_pos rfl]
        · rw [if_neg (fun h => c (by exact_mod_cast h)), if_neg c]; simp
      have hs := leftQ_set ((List.range ws).map (startQ (n : Int) (ws : Int))) (n % ws) (startQ (n : Int) ws (n % ws : Nat) ++ [(n : Int)]) (by simpa using hm)
      have hg : ((List.range ws).map (startQ (n : Int) (ws : Int))).getD (n % ws) [] = startQ (n : Int) ws (n % ws : Nat) := by simp [List.getD, hm]
      rw [ih, hg, List.length_append] at hs
      rw [e]
      simp only [List.length_cons, List.length_nil] at hs
      omega
  have := key n
  omega

/-! The reference's queues. -/
def dAt (ds : List Dq) (w : Int) : Dq := ds.getD w.toNat newD
def AllD (ds : List Dq) : Prop := ∀ d ∈ ds, validD d = true
theorem AllD.at_ {ds : List Dq} (h : AllD ds) (w : Int) : validD (dAt ds w) = true := by
  unfold dAt
  rw [List.getD_eq_getElem?_getD]
  rcases h' : ds[w.toNat]? with _ | d
  · exact new_valid
  · exact h d (List.mem_of_getElem? h')
theorem AllD.set {ds : List Dq} (h : AllD ds) (i : Nat) {d : Dq} (hd : validD d = true) : AllD (ds.set i d) := fun x hx => by
  rcases List.mem_or_eq_of_mem_set hx with hx | rfl
  · exact h x hx
  · exact hd
theorem AllD.append {ds : List Dq} (h : AllD ds) {d : Dq} (hd : validD d = true) : AllD (ds ++ [d]) := fun x hx => by
  simp only [List.mem_append, List.mem_cons, List.not_mem_nil, or_false] at hx
  rcases hx with hx | rfl
  · exact h x hx
  · exact hd
theorem tiles_map {ds : List Dq} {w : Int} (hw : w.toNat < ds.length) : qAt (ds.map tilesD) w = tilesD (dAt ds w) := by
  unfold qAt dAt; simp [List.getD, hw]
theorem take_iff {d : Dq} (h : validD d = true) : takeOkD d = true ↔ tilesD d ≠ [] := by
  have he := (validD_iff.1 h).2.1
  rw [takeOkD, h, Bool.true_and, decide_eq_true_eq, tilesD, if_pos h]
  constructor
  · intro hne e
    have := seqD_len d.s d.t (d.b - d.t).toNat
    rw [e] at this
    simp at this; omega
  · intro hne e
    apply hne
    have : (d.b - d.t).toNat = 0 := by omega
    rw [this]; rfl
/-- A turn of the reference's. -/
def turnD (ds : List Dq) (t : Tn) : List Dq × Int :=
  if takeOkD (dAt ds t.1) then (ds.set t.1.toNat (popR (dAt ds t.1)), popV (dAt ds t.1))
  else if takeOkD (dAt ds t.2) then (ds.set t.2.toNat (stealR (dAt ds t.2)), stealV (dAt ds t.2))
  else (ds, -1)
theorem turnD_valid {ds : List Dq} (h : AllD ds) (t : Tn) : AllD (turnD ds t).1 := by
  unfold turnD
  split
  · rename_i h1; exact h.set _ (pop_valid h1)
  · split
    · rename_i h1; exact h.set _ (steal_valid h1)
    · exact h
theorem turnD_len (ds : List Dq) (t : Tn) : (turnD ds t).1.length = ds.length := by
  unfold turnD
  split
  · simp
  · split <;> simp
theorem turnD_tiles {ds : List Dq} (h : AllD ds) {t : Tn} (h1 : 0 ≤ t.1 ∧ t.1 < ds.length) (h2 : 0 ≤ t.2 ∧ t.2 < ds.length) :
    (turnD ds t).1.map tilesD = (turnQ (ds.map tilesD) t).1 ∧ (turnQ (ds.map tilesD) t).2 = (if 0 ≤ (turnD ds t).2 then some (turnD ds t).2 else none) := by
  have q1 := tiles_map (ds := ds) (w := t.1) (by omega)
  have q2 := tiles_map (ds := ds) (w := t.2) (by omega)
  have v1 := take_iff (h.at_ t.1)
  have v2 := take_iff (h.at_ t.2)
  unfold turnD turnQ
  rw [q1, q2]
  by_cases c1 : takeOkD (dAt ds t.1) = true
  · have e := pop_tiles c1
    have hx := tiles_in (d := dAt ds t.1) (popV (dAt ds t.1)) (by rw [← e]; simp)
    rw [if_pos c1, if_pos (v1.1 c1)]
    simp only
    rw [if_pos hx.1, ← e]
    simp [qSet, List.map_set]
  · rw [if_neg c1, if_neg (fun h => c1 (v1.2 h))]
    by_cases c2 : takeOkD (dAt ds t.2) = true
    · have e := steal_tiles c2
      have hx := tiles_in (d := dAt ds t.2) (stealV (dAt ds t.2)) (by rw [← e]; simp)
      rw [if_pos c2, if_pos (v2.1 c2)]
      simp only
      rw [if_pos hx.1, ← e]
      simp [qSet, List.map_set]
    · rw [if_neg c2, if_neg (fun h => c2 (v2.2 h))]
      exact ⟨rfl, rfl⟩
/-- How a tile is put to a queue of the start. -/
theorem push_start {d : Dq} {x : Int} (h : validD d = true) (h0 : 0 ≤ x) (h1 : x ≤ 99) (hb : d.b - d.t ≠ 16) (hb2 : d.b ≠ 500) : pushOk d x = true := by
  simp only [pushOk, h, Bool.true_and, Bool.and_eq_true, decide_eq_true_eq]; exact ⟨⟨h0, h1⟩, hb, hb2⟩

end Go.Proofs.Ytadpmigppjjmhaa.Pl
