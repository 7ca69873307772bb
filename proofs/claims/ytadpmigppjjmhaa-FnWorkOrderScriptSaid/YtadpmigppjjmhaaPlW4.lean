/-
  Plain laws on the order of work, fourth part: the queues at the beginning, tile by tile.
-/
import Derived.Test.YtadpmigppjjmhaaPlW3
namespace Go.Proofs.Ytadpmigppjjmhaa.Pl

theorem startQ_first {ws k : Nat} (hk : k < ws) : startQ (k : Int) ws k = [] := by
  have := startQ_to (ws := (ws : Int)) (w := k) (n := 0) (m := k) (by omega) fun e h1 h2 h => by
    have h' : e % ws = k := by exact_mod_cast h
    rw [Nat.mod_eq_of_lt (by omega)] at h'; omega
  rw [this]; exact startQ_zero _ _
theorem startQ_last {count t ws k : Nat} (hk : k < ws) (h1 : count ≤ t) (h2 : t < count + ws ∨ t = k) (h3 : t % ws = k) : startQ (count : Int) ws k = startQ (t : Int) ws k := by
  refine (startQ_to h1 fun e h4 h5 h => ?_).symm
  have h' : e % ws = k := by exact_mod_cast h
  have a1 := Nat.div_add_mod e ws
  have a2 := Nat.div_add_mod t ws
  rw [h'] at a1
  rw [h3] at a2
  obtain ⟨p, hp⟩ : ∃ p, e / ws = p := ⟨_, rfl⟩
  obtain ⟨q, hq⟩ : ∃ q, t / ws = q := ⟨_, rfl⟩
  rw [hp] at a1
  rw [hq] at a2
  rcases Nat.lt_or_ge p q with c | c
  · have := Nat.mul_le_mul_left ws (show p + 1 ≤ q by omega)
    rw [Nat.mul_add] at this
    have hp0 : 0 ≤ ws * p := Nat.zero_le _
    rcases h2 with h2 | h2
    · omega
    · subst h2; omega
  · have := Nat.mul_le_mul_left ws c
    omega
theorem startQ_set (n ws : Nat) : (List.range ws).map (startQ ((n + 1 : Nat) : Int) (ws : Int)) = ((List.range ws).map (startQ (n : Int) (ws : Int))).set (n % ws) (startQ (n : Int) ws (n % ws : Nat) ++ [(n : Int)]) := by
  apply List.ext_getElem (by simp)
  intro i h1 h2
  simp at h1
  rw [List.getElem_map, List.getElem_range, startQ_succ, List.getElem_set]
  by_cases c : n % ws = i
  · subst c; rw [if_pos (by exact_mod_cast rfl), if_pos rfl]
  · rw [if_neg (fun h => c (by exact_mod_cast h)), if_neg c]; simp
theorem start_push {l : List Int} {b : Int} {t ws k : Nat} (h : validD ⟨l, 0, b⟩ = true) (ht : tilesD ⟨l, 0, b⟩ = startQ (t : Int) ws k) (h16 : t < 16) (h1 : 1 ≤ ws) (hk : k < ws) (hm : t % ws = k) :
    pushOk ⟨l, 0, b⟩ t = true ∧ ∃ ql, pushR ⟨l, 0, b⟩ t = ⟨ql, 0, b + 1⟩ ∧ ql.length = 16 ∧ validD ⟨ql, 0, b + 1⟩ = true ∧ tilesD ⟨ql, 0, b + 1⟩ = startQ ((t + ws : Nat) : Int) ws k ∧ 0 ≤ b ∧ b ≤ 16 := by
  have he := (validD_iff.1 h).2.1
  have hlen := startQ_len (ws : Int) k t
  have hl : (b - 0).toNat ≤ t := by
    have e : tilesD ⟨l, 0, b⟩ = seqD l 0 (b - 0).toNat := by rw [tilesD, if_pos h]
    rw [← ht, e, seqD_len] at hlen
    exact hlen
  simp only at he
  have hp : pushOk ⟨l, 0, b⟩ t = true := push_start h (by omega) (by omega) (by simp only; omega) (by simp only; omega)
  have hv := push_valid hp
  have htl := push_tiles hp
  have hr : pushR ⟨l, 0, b⟩ (t : Int) = ⟨set16 l b t, 0, b + 1⟩ := by rw [pushR, if_pos hp]
  rw [hr] at hv htl
  exact ⟨hp, _, hr, (validD_iff.1 hv).1, hv, by rw [htl, ht, startQ_next h1 hk hm], by omega, by omega⟩
theorem start_new {ws k : Nat} (hk : k < ws) : tilesD ⟨newD.s, 0, 0⟩ = startQ (k : Int) ws k := by
  rw [startQ_first hk]; exact new_tiles

end Go.Proofs.Ytadpmigppjjmhaa.Pl
