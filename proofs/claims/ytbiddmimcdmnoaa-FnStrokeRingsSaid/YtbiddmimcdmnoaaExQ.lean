/-
  Marks on lists of points.
-/
import Derived.Test.YtbiddmimcdmnoaaExP
namespace Go.Proofs.Ytbiddmimcdmnoaa
open Go.RowKit Pl

set_option linter.unusedSimpArgs false
set_option linter.unusedVariables false

/-- What marking leaves: the number behind the marks; the marks; nothing else turned. -/
def Marked (base : Nat) (v : Value) (n : Nat) (k : Int) (w : World) (e : Ending) (w' : World) : Prop := e = .returned (.int .i64 (k + 2 * (n : Int))) ∧ OwnP base w' v (marks k n) ∧ w.grownBy w' v.ownBlock

set_option maxHeartbeats 1000000 in
theorem markPointS_any {base : Nat} {A : Option Addr} {n c : Nat} {l : List Pt} {w : World} {m : Int} (h : OwnP base w (.slice A n c) l) (hn : n ≤ 1048576) (h0 : 0 ≤ m) (h1 : m ≤ 1000000000) :
    Calls Try.prog 12 #[.slice A n c, .int .i64 m] w (Marked base (.slice A n c) n m w) := by
  obtain ⟨A', c', e0, k1, k2, k3, k4⟩ := h
  cases e0
  have HN := Lib.hid (show l.length = l.length from rfl)
  rcases Nat.eq_zero_or_pos l.length with hz | hz
  · have e2 := List.length_eq_zero_iff.1 hz
    subst e2
    clear k4 hz HN
    go_enter Try.func12, Try.ntmps12
    go_wp2
    go_loop [5, 1] (fun i mm => i = .int .i64 0 ∧ mm = .int .i64 m) (fun _ _ => 0)
    case atStart => exact ⟨rfl, rfl⟩
    case round =>
      obtain ⟨rfl, rfl⟩ := hrel
      go_wp2
      go_ret
      exact ⟨by simp, ⟨A, c, rfl, k1, k2, k3, fun h => absurd h (Nat.lt_irrefl _)⟩, World.grownBy.refl _ _⟩
  · obtain ⟨g, cur, rfl, hg, hh⟩ := k4 hz
    have hbg := k3 _ rfl
    simp only at hbg
    obtain ⟨n, hnl⟩ : ∃ n, l.length = n := ⟨_, rfl⟩
    have HL := Lib.hid hnl
    have hgs := blk_lt hg
    have H0 : Hid (HasQ cur l m 0) := Lib.hid ⟨hh.1, fun i hi => absurd hi (Nat.not_lt_zero i)⟩
    clear k4 k3 hh HN
    rw [hnl] at hn hz k1 ⊢
    clear hnl
    go_enter Try.func12, Try.ntmps12
    go_wp2
    go_loopw [5, 1] (fun i mm wr => ∃ (k : Nat) (cur : Array Value), k ≤ n ∧ i = .int .i64 k ∧ mm = .int .i64 (m + 2 * (k : Int)) ∧ wr.heap[g]? = some (.cells cur 38 (0, 0)) ∧ HasQ cur l m k ∧ w.grownBy wr (some g)) (fun i _ _ => n - (intOf i).toNat)
    case atStart => exact ⟨0, cur, by omega, rfl, by simp, hg, H0.out, World.grownBy.refl _ _⟩
    case round =>
      obtain ⟨k, cur, hk, rfl, rfl, hb1, hm, hgr⟩ := hrel
      have hl1 := blk_lt hb1
      have hc1 := blk_cell hb1
      have hf1 := blk_free hb1
      have HB := Lib.hid hb1
      have HM := Lib.hid hm
      have HG := Lib.hid hgr
      have hcs : Hid (n * 2 ≤ cur.size) := Lib.hid (by rw [← HL.out]; exact hm.1)
      clear hb1 hm hg H0 hgr
      by_cases hlt : k < n
      · have eb : decide ((k : Int) < n) = true := by simp; omega
        have hki : (k : Int) < n := by omega
        have c0 : ∃ u, wr.cell? ⟨g, k * 2, none⟩ = some u := ⟨_, (hc1 _).trans (Array.getElem?_eq_getElem (by have := hcs.out; omega))⟩
        have c1 : ∃ u, wr.cell? ⟨g, k * 2 + 1, none⟩ = some u := ⟨_, (hc1 _).trans (Array.getElem?_eq_getElem (by have := hcs.out; omega))⟩
        obtain ⟨u0, c0⟩ := c0
        obtain ⟨u1, c1⟩ := c1
        clear hc1
        go_wp2
        go_roundw
        case rel => exact ⟨k + 1, _, by omega, by go_num, by rw [show m + 2 * ((k + 1 : Nat) : Int) = m + 2 * (k : Int) + 1 + 1 by omega], blk_set (blk_set HB.out _ _) _ _, HM.out.step (by rw [HL.out]; exact hlt), only_setCell (only_setCell HG.out (.inl rfl) _) (.inl rfl) _⟩
        case measure => simp [intOf]; omega
      · obtain rfl : k = n := by omega
        have eb : decide ((k : Int) < k) = false := by simp
        have HD : Hid (Has cur (marks m k)) := Lib.hid (by have := HM.out; rw [← HL.out] at this ⊢; exact this.done)
        go_wp2
        go_ret
        exact ⟨rfl, ⟨_, c, by rw [marks_len], by rw [marks_len]; exact k1, k2, fun a e => (by cases e; exact hbg), fun _ => ⟨g, cur, rfl, HB.out, HD.out⟩⟩, HG.out⟩

set_option maxHeartbeats 1000000 in
theorem heldPointS_any {A : Option Addr} {n : Nat} {w : World} {m : Int} (c : Nat) (h : IsPts w A n (marks m n)) (hn : n ≤ 1048576) (h0 : 0 ≤ m) (h1 : m ≤ 1000000000) :
    Calls Try.prog 29 #[.slice A n c, .int .i64 m] w fun e w' => e = .returned (.int .i64 (m + 2 * (n : Int))) ∧ w = w' := by
  have HP := Lib.hid h
  clear h
  go_enter Try.func29, Try.ntmps29
  go_wp2
  go_loop [5, 1] (fun i mm => ∃ k : Nat, k ≤ n ∧ i = .int .i64 k ∧ mm = .int .i64 (m + 2 * (k : Int))) (fun i _ => n - (intOf i).toNat)
  case atStart => exact ⟨0, by omega, rfl, by simp⟩
  case round =>
    obtain ⟨k, hk, rfl, rfl⟩ := hrel
    by_cases hlt : k < n
    · have eb : decide ((k : Int) < n) = true := by simp; omega
      have hki : (k : Int) < n := by omega
      obtain ⟨b, o, rfl, hbl, c0, c1⟩ := HP.out.at_ hlt
      rw [(marks_at hlt).1] at c0
      rw [(marks_at hlt).2] at c1
      go_wp2
      go_round
      case rel => exact ⟨k + 1, by omega, by go_num, by rw [show m + 2 * ((k + 1 : Nat) : Int) = m + 2 * (k : Int) + 1 + 1 by omega]⟩
      case measure => simp [intOf]; omega
    · obtain rfl : k = n := by omega
      have eb : decide ((k : Int) < k) = false := by simp
      go_wp2
      go_ret
      exact ⟨rfl, rfl⟩

end Go.Proofs.Ytbiddmimcdmnoaa
