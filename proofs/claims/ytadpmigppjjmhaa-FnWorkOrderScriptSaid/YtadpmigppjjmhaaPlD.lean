/-
  Plain laws on queues of tiles, with no program in sight.
-/
import Derived.Test.YtadpmigppjjmhaaPlain
namespace Go.Proofs.Ytadpmigppjjmhaa.Pl

/-- A queue: its slots, its top, its bottom. -/
structure Dq where
  s : List Int
  t : Int
  b : Int
  deriving DecidableEq
def at16 (l : List Int) (x : Int) : Int := l.getD (x % 16).toNat 0
def usedB (t b i : Int) : Bool := decide ((i - t) % 16 < b - t)
def slotOk (t b i s : Int) : Bool := if usedB t b i then decide (0 ≤ s ∧ s ≤ 99) else decide (s = -1)
def endsB (t b : Int) : Bool := decide (0 ≤ t ∧ t ≤ 500 ∧ t ≤ b ∧ b ≤ 500 ∧ b ≤ t + 16)
theorem endsB_true {t b : Int} : endsB t b = true ↔ 0 ≤ t ∧ t ≤ 500 ∧ t ≤ b ∧ b ≤ 500 ∧ b ≤ t + 16 := by simp [endsB]
/-- The first n slots are in order. -/
def slotsOk (l : List Int) (t b : Int) : Nat → Bool
  | 0 => true
  | n + 1 => slotsOk l t b n && slotOk t b n (l.getD n 0)
def validD (d : Dq) : Bool := decide (d.s.length = 16) && (endsB d.t d.b && slotsOk d.s d.t d.b 16)
theorem slotsOk_iff {l : List Int} {t b : Int} : ∀ {n : Nat}, slotsOk l t b n = true ↔ ∀ i : Nat, i < n → slotOk t b i (l.getD i 0) = true
  | 0 => by simp [slotsOk]
  | n + 1 => by
    simp only [slotsOk, Bool.and_eq_true, slotsOk_iff]
    constructor
    · rintro ⟨h1, h2⟩ i hi
      by_cases e : i = n
      · subst e; exact h2
      · exact h1 i (by omega)
    · intro h; exact ⟨fun i hi => h i (by omega), h n (by omega)⟩
theorem validD_iff {d : Dq} : validD d = true ↔ d.s.length = 16 ∧ (0 ≤ d.t ∧ d.t ≤ 500 ∧ d.t ≤ d.b ∧ d.b ≤ 500 ∧ d.b ≤ d.t + 16) ∧ ∀ i : Int, 0 ≤ i → i < 16 → slotOk d.t d.b i (at16 d.s i) = true := by
  simp only [validD, Bool.and_eq_true, decide_eq_true_eq, endsB_true, slotsOk_iff]
  refine and_congr Iff.rfl (and_congr Iff.rfl ⟨fun h i h0 h1 => ?_, fun h i hi => ?_⟩)
  · have := h i.toNat (by omega)
    rw [show ((i.toNat : Nat) : Int) = i by omega] at this
    rw [at16, Int.emod_eq_of_lt h0 h1]; exact this
  · have := h i (by omega) (by omega)
    rw [at16, Int.emod_eq_of_lt (by omega) (by omega)] at this
    simpa using this
theorem at16_mod (l : List Int) (x : Int) : at16 l (x % 16) = at16 l x := by simp [at16]
theorem at16_congr {l : List Int} {x y : Int} (h : x % 16 = y % 16) : at16 l x = at16 l y := by simp [at16, h]
def set16 (l : List Int) (x v : Int) : List Int := l.set (x % 16).toNat v
theorem set16_len (l : List Int) (x v : Int) : (set16 l x v).length = l.length := by simp [set16]
theorem at16_set {l : List Int} (hl : l.length = 16) (x y v : Int) : at16 (set16 l x v) y = if x % 16 = y % 16 then v else at16 l y := by
  have hx := Int.emod_nonneg x (by omega : (16 : Int) ≠ 0)
  have hy := Int.emod_nonneg y (by omega : (16 : Int) ≠ 0)
  have hx' := Int.emod_lt_of_pos x (by omega : (0 : Int) < 16)
  unfold at16 set16
  by_cases h : x % 16 = y % 16
  · rw [if_pos h, h, List.getD_eq_getElem?_getD, List.getElem?_set_self (by omega)]; rfl
  · have : (x % 16).toNat ≠ (y % 16).toNat := by omega
    rw [if_neg h]; simp [this]
theorem ext16 {l m : List Int} (hl : l.length = 16) (hm : m.length = 16) (h : ∀ x : Int, 0 ≤ x → x < 16 → at16 l x = at16 m x) : l = m := by
  apply List.ext_getElem (by omega)
  intro i h1 h2
  have := h i (by omega) (by omega)
  unfold at16 at this
  rw [Int.emod_eq_of_lt (by omega) (by omega)] at this
  simpa [h1, h2] using this
theorem slot_in {d : Dq} (h : validD d = true) {x : Int} (h0 : d.t ≤ x) (h1 : x < d.b) : 0 ≤ at16 d.s x ∧ at16 d.s x ≤ 99 := by
  obtain ⟨_, he, hs⟩ := validD_iff.1 h
  have := hs (x % 16) (by omega) (by omega)
  have hu : usedB d.t d.b (x % 16) = true := by simp only [usedB, decide_eq_true_eq]; omega
  rw [slotOk, hu, if_pos rfl, at16_mod, decide_eq_true_eq] at this
  exact this
theorem slot_out {d : Dq} (h : validD d = true) {x : Int} (h0 : d.b ≤ x) (h1 : x < d.t + 16) : at16 d.s x = -1 := by
  obtain ⟨_, he, hs⟩ := validD_iff.1 h
  have := hs (x % 16) (by omega) (by omega)
  have hu : usedB d.t d.b (x % 16) = false := by simp only [usedB, decide_eq_false_iff_not]; omega
  rw [slotOk, hu, if_neg (by decide), at16_mod, decide_eq_true_eq] at this
  exact this
theorem validD_of {s : List Int} {t b : Int} (hl : s.length = 16) (he : 0 ≤ t ∧ t ≤ 500 ∧ t ≤ b ∧ b ≤ 500 ∧ b ≤ t + 16) (h1 : ∀ x, t ≤ x → x < b → 0 ≤ at16 s x ∧ at16 s x ≤ 99) (h2 : ∀ x, b ≤ x → x < t + 16 → at16 s x = -1) : validD ⟨s, t, b⟩ = true := by
  refine validD_iff.2 ⟨hl, he, fun i h0 hi => ?_⟩
  have hx : ∃ x, x % 16 = i ∧ t ≤ x ∧ x < t + 16 ∧ x - t = (i - t) % 16 := ⟨t + (i - t) % 16, by omega, by omega, by omega, by omega⟩
  obtain ⟨x, rfl, a1, a2, a3⟩ := hx
  rw [at16_mod]
  simp only [slotOk, usedB, ← a3]
  by_cases hb : x - t < b - t
  · rw [if_pos (by simpa using hb)]; simpa using h1 x a1 (by omega)
  · rw [if_neg (by simpa using hb)]; simpa using h2 x (by omega) a2

def pushOk (d : Dq) (n : Int) : Bool := validD d && (decide (0 ≤ n ∧ n ≤ 99) && decide (d.b - d.t ≠ 16 ∧ d.b ≠ 500))
def pushR (d : Dq) (n : Int) : Dq := if pushOk d n then ⟨set16 d.s d.b n, d.t, d.b + 1⟩ else ⟨[], 0, 0⟩
def takeOkD (d : Dq) : Bool := validD d && decide (d.t ≠ d.b)
def popR (d : Dq) : Dq := if takeOkD d then ⟨set16 d.s (d.b - 1) (-1), d.t, d.b - 1⟩ else ⟨[], 0, 0⟩
def popV (d : Dq) : Int := if takeOkD d then at16 d.s (d.b - 1) else -1
def stealR (d : Dq) : Dq := if takeOkD d then ⟨set16 d.s d.t (-1), d.t + 1, d.b⟩ else ⟨[], 0, 0⟩
def stealV (d : Dq) : Int := if takeOkD d then at16 d.s d.t else -1
def seqD (l : List Int) (t : Int) (n : Nat) : List Int := (List.range n).map fun k : Nat => at16 l (t + (k : Int))
theorem seqD_succ (l : List Int) (t : Int) (n : Nat) : seqD l t (n + 1) = seqD l t n ++ [at16 l (t + n)] := by simp [seqD, List.range_succ]
theorem seqD_len (l : List Int) (t : Int) (n : Nat) : (seqD l t n).length = n := by simp [seqD]
theorem seqD_cons (l : List Int) (t : Int) (n : Nat) : seqD l t (n + 1) = at16 l t :: seqD l (t + 1) n := by
  simp only [seqD, List.range_succ_eq_map, List.map_cons, List.map_map]
  congr 1
  · simp
  · apply List.map_congr_left; intro k _; simp only [Function.comp]; congr 1; omega
theorem seqD_set {l : List Int} (hl : l.length = 16) {t x v : Int} {n : Nat} (h : ∀ k : Nat, k < n → x % 16 ≠ (t + k) % 16) : seqD (set16 l x v) t n = seqD l t n := by
  apply List.map_congr_left
  intro k hk
  rw [at16_set hl, if_neg (h k (List.mem_range.1 hk))]
def tilesD (d : Dq) : List Int := if validD d then seqD d.s d.t (d.b - d.t).toNat else []
theorem pushOk_parts {d : Dq} {n : Int} (h : pushOk d n = true) : validD d = true ∧ 0 ≤ n ∧ n ≤ 99 ∧ d.b - d.t ≠ 16 ∧ d.b ≠ 500 := by
  simp only [pushOk, Bool.and_eq_true, decide_eq_true_eq] at h; exact ⟨h.1, h.2.1.1, h.2.1.2, h.2.2.1, h.2.2.2⟩
theorem takeOkD_parts {d : Dq} (h : takeOkD d = true) : validD d = true ∧ d.t ≠ d.b := by
  simp only [takeOkD, Bool.and_eq_true, decide_eq_true_eq] at h; exact h
theorem push_valid {d : Dq} {n : Int} (h : pushOk d n = true) : validD (pushR d n) = true := by
  obtain ⟨hv, h1, h2, h3, h4⟩ := pushOk_parts h
  obtain ⟨hl, he, _⟩ := validD_iff.1 hv
  rw [pushR, if_pos h]
  refine validD_of (by rw [set16_len]; exact hl) (by omega) (fun x a b => ?_) (fun x a b => ?_)
  · rw [at16_set hl]; split
    · omega
    · exact slot_in hv a (by omega)
  · rw [at16_set hl, if_neg (by omega)]; exact slot_out hv (by omega) b
theorem pop_valid {d : Dq} (h : takeOkD d = true) : validD (popR d) = true := by
  obtain ⟨hv, h1⟩ := takeOkD_parts h
  obtain ⟨hl, he, _⟩ := validD_iff.1 hv
  rw [popR, if_pos h]
  refine validD_of (by rw [set16_len]; exact hl) (by omega) (fun x a b => ?_) (fun x a b => ?_)
  · rw [at16_set hl, if_neg (by omega)]; exact slot_in hv a (by omega)
  · rw [at16_set hl]; split
    · rfl
    · exact slot_out hv (by omega) b
theorem steal_valid {d : Dq} (h : takeOkD d = true) : validD (stealR d) = true := by
  obtain ⟨hv, h1⟩ := takeOkD_parts h
  obtain ⟨hl, he, _⟩ := validD_iff.1 hv
  rw [stealR, if_pos h]
  refine validD_of (by rw [set16_len]; exact hl) (by omega) (fun x a b => ?_) (fun x a b => ?_)
  · rw [at16_set hl, if_neg (by omega)]; exact slot_in hv (by omega) b
  · rw [at16_set hl]; split
    · rfl
    · exact slot_out hv (by omega) (by omega)
theorem push_tiles {d : Dq} {n : Int} (h : pushOk d n = true) : tilesD (pushR d n) = tilesD d ++ [n] := by
  have hp := push_valid h
  obtain ⟨hv, h1, h2, h3, h4⟩ := pushOk_parts h
  obtain ⟨hl, he, _⟩ := validD_iff.1 hv
  rw [tilesD, if_pos hp, tilesD, if_pos hv, pushR, if_pos h]
  simp only
  rw [show (d.b + 1 - d.t).toNat = (d.b - d.t).toNat + 1 by omega, seqD_succ, seqD_set hl (fun k hk => by omega), at16_set hl, if_pos (by omega)]
theorem pop_tiles {d : Dq} (h : takeOkD d = true) : tilesD (popR d) ++ [popV d] = tilesD d := by
  have hp := pop_valid h
  obtain ⟨hv, h1⟩ := takeOkD_parts h
  obtain ⟨hl, he, _⟩ := validD_iff.1 hv
  rw [tilesD, if_pos hp, tilesD, if_pos hv, popR, if_pos h, popV, if_pos h]
  simp only
  rw [show (d.b - d.t).toNat = (d.b - 1 - d.t).toNat + 1 by omega, seqD_succ, seqD_set hl (fun k hk => by omega)]
  congr 2; congr 1; omega
theorem steal_tiles {d : Dq} (h : takeOkD d = true) : stealV d :: tilesD (stealR d) = tilesD d := by
  have hp := steal_valid h
  obtain ⟨hv, h1⟩ := takeOkD_parts h
  obtain ⟨hl, he, _⟩ := validD_iff.1 hv
  rw [tilesD, if_pos hp, tilesD, if_pos hv, stealR, if_pos h, stealV, if_pos h]
  simp only
  rw [show (d.b - d.t).toNat = (d.b - (d.t + 1)).toNat + 1 by omega, seqD_cons, seqD_set hl (fun k hk => by omega)]
theorem push_take {d : Dq} {n : Int} (h : pushOk d n = true) : takeOkD (pushR d n) = true := by
  have hp := push_valid h
  obtain ⟨hv, _⟩ := pushOk_parts h
  obtain ⟨hl, he, _⟩ := validD_iff.1 hv
  simp only [takeOkD, hp, Bool.true_and, decide_eq_true_eq]
  rw [pushR, if_pos h]; simp only; omega
theorem push_pop {d : Dq} {n : Int} (h : pushOk d n = true) : popR (pushR d n) = d ∧ popV (pushR d n) = n := by
  have ht := push_take h
  obtain ⟨hv, h1, h2, h3, h4⟩ := pushOk_parts h
  obtain ⟨hl, he, _⟩ := validD_iff.1 hv
  rw [popR, if_pos ht, popV, if_pos ht, pushR, if_pos h]
  simp only [show d.b + 1 - 1 = d.b by omega]
  constructor
  · obtain ⟨s, t, b⟩ := d
    simp only [Dq.mk.injEq, and_true]
    refine ext16 (by rw [set16_len, set16_len]; exact hl) hl fun x h0 hx => ?_
    rw [at16_set (by rw [set16_len]; exact hl), at16_set hl]
    by_cases e : b % 16 = x % 16
    · rw [if_pos e, ← at16_congr e]
      exact (slot_out hv (Int.le_refl _) (by simp only at he h3 ⊢; omega)).symm
    · rw [if_neg e, if_neg e]
  · rw [at16_set hl, if_pos rfl]
theorem push_steal {d : Dq} {n : Int} (h : pushOk d n = true) (he : d.t = d.b) : stealV (pushR d n) = n := by
  have ht := push_take h
  obtain ⟨hv, h1, h2, h3, h4⟩ := pushOk_parts h
  obtain ⟨hl, _, _⟩ := validD_iff.1 hv
  rw [stealV, if_pos ht, pushR, if_pos h]
  simp only
  rw [at16_set hl, if_pos (by rw [he])]
theorem steal_pop {d : Dq} (h : takeOkD d = true) (h2 : ¬ d.b - d.t < 2) : takeOkD (stealR d) = true ∧ takeOkD (popR d) = true ∧ popR (stealR d) = stealR (popR d) ∧ popV (stealR d) = popV d ∧ stealV (popR d) = stealV d := by
  have hs := steal_valid h
  have hp := pop_valid h
  obtain ⟨hv, h1⟩ := takeOkD_parts h
  obtain ⟨hl, he, _⟩ := validD_iff.1 hv
  have k1 : takeOkD (stealR d) = true := by
    simp only [takeOkD, hs, Bool.true_and, decide_eq_true_eq]; rw [stealR, if_pos h]; simp only; omega
  have k2 : takeOkD (popR d) = true := by
    simp only [takeOkD, hp, Bool.true_and, decide_eq_true_eq]; rw [popR, if_pos h]; simp only; omega
  refine ⟨k1, k2, ?_, ?_, ?_⟩
  · rw [popR, if_pos k1, stealR, if_pos h]
    rw [stealR, if_pos k2, popR, if_pos h]
    simp only [Dq.mk.injEq, and_self, and_true]
    refine ext16 (by rw [set16_len, set16_len]; exact hl) (by rw [set16_len, set16_len]; exact hl) fun x h0 hx => ?_
    rw [at16_set (by rw [set16_len]; exact hl), at16_set hl, at16_set (by rw [set16_len]; exact hl), at16_set hl]
    split <;> split <;> first | rfl | omega
  · rw [popV, if_pos k1, popV, if_pos h, stealR, if_pos h]
    simp only
    rw [at16_set hl, if_neg (by omega)]
  · rw [stealV, if_pos k2, stealV, if_pos h, popR, if_pos h]
    simp only
    rw [at16_set hl, if_neg (by omega)]
theorem tiles_in {d : Dq} : ∀ x ∈ tilesD d, 0 ≤ x ∧ x ≤ 99 := fun x hx => by
  rw [tilesD] at hx
  split at hx
  · rename_i hv
    obtain ⟨_, he, _⟩ := validD_iff.1 hv
    obtain ⟨k, hk, rfl⟩ := List.mem_map.1 hx
    have := List.mem_range.1 hk
    exact slot_in hv (by omega) (by omega)
  · cases hx
theorem tiles_len (d : Dq) : (tilesD d).length ≤ 16 := by
  rw [tilesD]; split
  · rename_i hv
    obtain ⟨_, he, _⟩ := validD_iff.1 hv
    rw [seqD_len]; omega
  · simp
def newD : Dq := ⟨List.replicate 16 (-1), 0, 0⟩
theorem new_valid : validD newD = true := by decide
theorem new_tiles : tilesD newD = [] := by rw [tilesD, if_pos new_valid]; rfl

end Go.Proofs.Ytadpmigppjjmhaa.Pl
