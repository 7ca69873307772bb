/-
  FnExactSplitCurve holds: the program's SplitCurve returns what the reference's returns, leaves the curve as it was, and returns memory of its own. No condition.
-/
import Derived.Test.YtmddkhincpibhaaOpenP
import Derived.Test.YtmddkhincpibhaaExQ
import Derived.Test.YtmddkhincpibhaaSplitS
import Derived.ProofKit
import Derived.OpenShut
import Derived.ShutString
import Derived.ChangeOld
import Derived.Lib.SmallJoins
namespace Go.Proofs.Ytmddkhincpibhaa
open Go.RowKit Pl Go.ChangeShapes Go.WideShapes Go.ChangeAt
open Go.ChangeMaps (open_string shut_string)

set_option linter.unusedSimpArgs false
set_option linter.unusedVariables false

theorem OwnP.apart {base : Nat} {w w' : World} {v : Value} {l : List Pt} {row : Option Nat} (h : OwnP base w v l) (hg : w.grownBy w' row) (hs : 0 < l.length → Sep v.ownBlock row) : OwnP base w' v l := by
  obtain ⟨A, c, e, h1, h2, h3, h4⟩ := h
  refine ⟨A, c, e, h1, h2, h3, fun hn => ?_⟩
  obtain ⟨g, cur, e', hgb, hh⟩ := h4 hn
  refine ⟨g, cur, e', (hg.block g (blk_lt hgb) (fun e2 => hs hn g (by rw [e, e']; rfl) e2.symm)).trans hgb, hh⟩
theorem OwnP.row {base : Nat} {w : World} {v : Value} {l : List Pt} (h : OwnP base w v l) : ∀ g, v.ownBlock = some g → base ≤ g := by
  obtain ⟨A, c, e, h1, h2, h3, h4⟩ := h
  subst e
  rw [blkA_own]
  exact blkA_ge h3
/-- x was made before v, and has a point if v has one: what marks x leaves v as it was. -/
theorem OwnP.past {base base' : Nat} {wx w w' : World} {x v : Value} {lx l : List Pt} (hx : OwnP base wx x lx) (h0 : lx.length = 0 → l.length = 0) (hs : wx.heap.size ≤ base') (h : OwnP base' w v l) (hg : w.grownBy w' x.ownBlock) : OwnP base' w' v l :=
  h.apart hg fun hn => (Sep.far (s := base') (fun g hg => Nat.lt_of_lt_of_le (OwnP.lt' hx (by omega) g hg) hs) h.row).symm
theorem OwnP.markBelow {B base : Nat} {a wx w w' : World} {x : Value} {lx : List Pt} (hx : OwnP base wx x lx) (hB : B ≤ base) (h : Below B a w) (hw : B ≤ w.heap.size) (hg : w.grownBy w' x.ownBlock) : Below B a w' :=
  h.grown hg hw fun k hk => Nat.le_trans hB (hx.row k hk)

set_option maxRecDepth 100000 in
set_option maxHeartbeats 4000000 in
theorem FnExactSplitCurve_walk (w : World) (A : Option Addr) (n c : Nat) (l : List Pt) (h : IsPts w A n l) (hm : n ≤ maxLen) :
    Calls Try.prog 11 #[.slice A n c] w fun e w' => e = .returned (.bool true) ∧ Below w.heap.size w w' := by
  unfold maxLen at hm
  have HP := Lib.hid h
  clear h
  by_cases hn : 1048576 < n
  · go_enter Try.func11, Try.ntmps11
    go_wp2_with ((go_at_call 23; (with_reducible refine (szPointS_long hn (by omega) _).mono ?_); rintro e w1 ⟨rfl, rfl⟩))
    go_ret
    exact ⟨rfl, by (repeat' (first | (with_reducible exact Below.refl _ _) | (with_reducible assumption) | (with_reducible refine Below.alloc ?_ ?_ _) | (with_reducible refine below_drewN ?_ _) | (with_reducible refine Below.drew ?_) | (with_reducible refine Below.setCell ?_ ?_ _) | (with_reducible refine below_call (by assumption) ?_ ?_) | go_size))⟩
  · have hn' : n ≤ 1048576 := by omega
    have hh : ¬ (1048576 : Int) - (n : Int) < 0 := by omega
    have hk0 : ¬ 1 + 2 * (n : Int) < 0 := by omega
    obtain ⟨ok, hok⟩ : ∃ v, curveB l = v := ⟨_, rfl⟩
    obtain ⟨a, ha⟩ : ∃ m, splitA l = m := ⟨_, rfl⟩
    obtain ⟨b, hb'⟩ : ∃ m, splitB l = m := ⟨_, rfl⟩
    have hll := HP.out.1
    have hm41 : a.length ≤ 4 ∧ a.length = b.length ∧ (l.length = 0 → a.length = 0) := by
      rw [← ha, ← hb', splitA, splitB]; split
      · rename_i h
        obtain ⟨q1, q2, _⟩ := curveB_parts h
        rw [leftL_len, rightL_len]; exact ⟨q2, rfl, fun h => h⟩
      · simp
    have H1 := Lib.hid hok
    have H2 := Lib.hid ha
    have H3 := Lib.hid hb'
    clear hok ha hb'
    obtain ⟨n1, hn1⟩ : ∃ n0, a.length = n0 := ⟨_, rfl⟩
    rw [hn1] at hm41
    obtain ⟨hm41, hab, hal⟩ := hm41
    have HA := Lib.hid hn1
    have HB : Hid (b.length = n1) := Lib.hid hab.symm
    have HL := Lib.hid hll
    have H0 : Hid (l.length = 0 → a.length = 0) := Lib.hid (by rw [hn1]; exact hal)
    have H0b : Hid (l.length = 0 → b.length = 0) := Lib.hid (by rw [← hab]; exact hal)
    clear hn1 hll hab hal
    have hk1 : ¬ 1 + 2 * (n1 : Int) < 0 := by omega
    have hk2 : ¬ 1 + 2 * (n1 : Int) + 2 * (n1 : Int) < 0 := by omega
    go_enter Try.func11, Try.ntmps11
    go_wp2_with ((go_at_call 23; (with_reducible refine (szPointS_short hn' _).mono ?_); rintro e w1 ⟨rfl, rfl⟩))
    refine (toPointS_any c HP.out hn').mono ?_
    rintro e wa ⟨v0, rfl, ho0, hba⟩
    have hza := hba.size
    obtain ⟨A0, c0, rfl, _, _, hP0, _⟩ := ho0.form
    have HP0 := Lib.hid hP0
    rw [HL.out] at HP0 ⊢
    clear ho0 hP0
    go_wp2_with fail
    refine (sSplitCurve_eq c0 HP0.out (by omega) (Hid.out (by with_reducible assumption)) (Hid.out (by with_reducible assumption)) (Hid.out (by with_reducible assumption))).mono ?_
    rintro e wB ⟨v1, u1, rfl, ho1, hu1, hbB⟩
    have hzB := hbB.size
    obtain ⟨A1, c1, rfl, _, _, hP1, _⟩ := ho1.form
    obtain ⟨B1, d1, rfl, _, _, hQ1, _⟩ := hu1.form
    have HP1 := Lib.hid hP1
    have HQ1 := Lib.hid hQ1
    rw [HA.out] at HP1 ⊢
    rw [HB.out] at HQ1 ⊢
    clear ho1 hP1 hu1 hQ1
    have HPB : Hid (IsPts wB A n l) := Lib.hid (HP.out.below (by (repeat' (first | (with_reducible exact Below.refl _ _) | (with_reducible assumption) | (with_reducible refine Below.alloc ?_ ?_ _) | (with_reducible refine below_drewN ?_ _) | (with_reducible refine Below.drew ?_) | (with_reducible refine Below.setCell ?_ ?_ _) | (with_reducible refine below_call (by assumption) ?_ ?_) | (with_reducible refine below_grown (by assumption) ?_ ?_ ?_) | omega | (simp; done) | (simp; omega)))))
    go_wp2_with fail
    refine (toPointS_any c HPB.out hn').mono ?_
    rintro e wx ⟨vx, rfl, hox, hbx⟩
    have hzx := hbx.size
    obtain ⟨Ax, cx, rfl, _⟩ := hox.form
    rw [HL.out] at hox ⊢
    have OX := Lib.hid hox
    clear hox
    go_wp2_with fail
    refine (SplitCurve_eq cx OX.out.pts' (by omega) (Hid.out (by with_reducible assumption)) (Hid.out (by with_reducible assumption)) (Hid.out (by with_reducible assumption))).mono ?_
    rintro e wg ⟨vg, ug, s1, rfl, hog, hsg, hxs, hpg, hbg⟩
    have hzg := hbg.size
    obtain ⟨Ag, cg, rfl, _⟩ := hog.form
    obtain ⟨Bg, dg, rfl, _⟩ := hpg.form
    rw [HA.out] at hog hsg ⊢
    rw [HB.out] at hpg ⊢
    have OG := Lib.hid hog
    have PG := Lib.hid hpg
    have SG := Lib.hid hsg
    clear hog hpg hsg
    go_wp2_with fail
    refine (eqPointS_same cg c1 OG.out.pts' (HP1.out.below (by (repeat' (first | (with_reducible exact Below.refl _ _) | (with_reducible assumption) | (with_reducible refine Below.alloc ?_ ?_ _) | (with_reducible refine below_drewN ?_ _) | (with_reducible refine Below.drew ?_) | (with_reducible refine Below.setCell ?_ ?_ _) | (with_reducible refine below_call (by assumption) ?_ ?_) | (with_reducible refine below_grown (by assumption) ?_ ?_ ?_) | omega | (simp; done) | (simp; omega))))) (by omega)).mono ?_
    rintro e w3 ⟨rfl, hb3⟩
    have hz3 := hb3.size
    go_wp2_with fail
    refine (eqPointS_same dg d1 (PG.out.pts'.below (by (repeat' (first | (with_reducible exact Below.refl _ _) | (with_reducible assumption) | (with_reducible refine Below.alloc ?_ ?_ _) | (with_reducible refine below_drewN ?_ _) | (with_reducible refine Below.drew ?_) | (with_reducible refine Below.setCell ?_ ?_ _) | (with_reducible refine below_call (by assumption) ?_ ?_) | (with_reducible refine below_grown (by assumption) ?_ ?_ ?_) | omega | (simp; done) | (simp; omega))))) (HQ1.out.below (by (repeat' (first | (with_reducible exact Below.refl _ _) | (with_reducible assumption) | (with_reducible refine Below.alloc ?_ ?_ _) | (with_reducible refine below_drewN ?_ _) | (with_reducible refine Below.drew ?_) | (with_reducible refine Below.setCell ?_ ?_ _) | (with_reducible refine below_call (by assumption) ?_ ?_) | (with_reducible refine below_grown (by assumption) ?_ ?_ ?_) | omega | (simp; done) | (simp; omega))))) (by omega)).mono ?_
    rintro e w3' ⟨rfl, hb3'⟩
    have hz3' := hb3'.size
    go_wp2_with fail
    refine (toPointS_any c (HPB.out.below (by (repeat' (first | (with_reducible exact Below.refl _ _) | (with_reducible assumption) | (with_reducible refine Below.alloc ?_ ?_ _) | (with_reducible refine below_drewN ?_ _) | (with_reducible refine Below.drew ?_) | (with_reducible refine Below.setCell ?_ ?_ _) | (with_reducible refine below_call (by assumption) ?_ ?_) | (with_reducible refine below_grown (by assumption) ?_ ?_ ?_) | omega | (simp; done) | (simp; omega))))) hn').mono ?_
    rintro e w4 ⟨v4, rfl, ho4, hb4⟩
    have hz4 := hb4.size
    obtain ⟨A4, c4, rfl, _⟩ := ho4.form
    rw [HL.out] at ho4 ⊢
    have O4 := Lib.hid ho4
    clear ho4
    go_wp2_with fail
    refine (eqPointS_same cx c4 (OX.out.pts'.below (by (repeat' (first | (with_reducible exact Below.refl _ _) | (with_reducible assumption) | (with_reducible refine Below.alloc ?_ ?_ _) | (with_reducible refine below_drewN ?_ _) | (with_reducible refine Below.drew ?_) | (with_reducible refine Below.setCell ?_ ?_ _) | (with_reducible refine below_call (by assumption) ?_ ?_) | (with_reducible refine below_grown (by assumption) ?_ ?_ ?_) | omega | (simp; done) | (simp; omega))))) O4.out.pts' (by omega)).mono ?_
    rintro e w5 ⟨rfl, hb5⟩
    have hz5 := hb5.size
    go_wp2_with fail
    refine (markPointS_any (OX.out.below (by (repeat' (first | (with_reducible exact Below.refl _ _) | (with_reducible assumption) | (with_reducible refine Below.alloc ?_ ?_ _) | (with_reducible refine below_drewN ?_ _) | (with_reducible refine Below.drew ?_) | (with_reducible refine Below.setCell ?_ ?_ _) | (with_reducible refine below_call (by assumption) ?_ ?_) | (with_reducible refine below_grown (by assumption) ?_ ?_ ?_) | omega | (simp; done) | (simp; omega))))) hn' (by omega) (by omega)).mono ?_
    rintro e w6 ⟨rfl, _, hg6⟩
    have hb6 : Below wB.heap.size wB w6 := OX.out.markBelow (Nat.le_refl _) (by (repeat' (first | (with_reducible exact Below.refl _ _) | (with_reducible assumption) | (with_reducible refine Below.alloc ?_ ?_ _) | (with_reducible refine below_drewN ?_ _) | (with_reducible refine Below.drew ?_) | (with_reducible refine Below.setCell ?_ ?_ _) | (with_reducible refine below_call (by assumption) ?_ ?_) | (with_reducible refine below_grown (by assumption) ?_ ?_ ?_) | omega | (simp; done) | (simp; omega)))) (by omega) hg6
    have hz6 := hb6.size
    have hz56 := hg6.size
    have OG6 : Hid (OwnP wx.heap.size w6 (.slice Ag n1 cg) a) := Lib.hid (OX.out.past H0.out (Nat.le_refl _) (OG.out.below (by (repeat' (first | (with_reducible exact Below.refl _ _) | (with_reducible assumption) | (with_reducible refine Below.alloc ?_ ?_ _) | (with_reducible refine below_drewN ?_ _) | (with_reducible refine Below.drew ?_) | (with_reducible refine Below.setCell ?_ ?_ _) | (with_reducible refine below_call (by assumption) ?_ ?_) | (with_reducible refine below_grown (by assumption) ?_ ?_ ?_) | omega | (simp; done) | (simp; omega))))) hg6)
    have PG6 : Hid (OwnP s1 w6 (.slice Bg n1 dg) b) := Lib.hid (OX.out.past H0b.out hxs (PG.out.below (by (repeat' (first | (with_reducible exact Below.refl _ _) | (with_reducible assumption) | (with_reducible refine Below.alloc ?_ ?_ _) | (with_reducible refine below_drewN ?_ _) | (with_reducible refine Below.drew ?_) | (with_reducible refine Below.setCell ?_ ?_ _) | (with_reducible refine below_call (by assumption) ?_ ?_) | (with_reducible refine below_grown (by assumption) ?_ ?_ ?_) | omega | (simp; done) | (simp; omega))))) hg6)
    clear hg6
    go_wp2_with fail
    refine (eqPointS_same cg c1 OG6.out.pts' (HP1.out.below (by (repeat' (first | (with_reducible exact Below.refl _ _) | (with_reducible assumption) | (with_reducible refine Below.alloc ?_ ?_ _) | (with_reducible refine below_drewN ?_ _) | (with_reducible refine Below.drew ?_) | (with_reducible refine Below.setCell ?_ ?_ _) | (with_reducible refine below_call (by assumption) ?_ ?_) | (with_reducible refine below_grown (by assumption) ?_ ?_ ?_) | omega | (simp; done) | (simp; omega))))) (by omega)).mono ?_
    rintro e w7 ⟨rfl, hb7⟩
    have hz7 := hb7.size
    go_wp2_with fail
    refine (eqPointS_same dg d1 (PG6.out.pts'.below (by (repeat' (first | (with_reducible exact Below.refl _ _) | (with_reducible assumption) | (with_reducible refine Below.alloc ?_ ?_ _) | (with_reducible refine below_drewN ?_ _) | (with_reducible refine Below.drew ?_) | (with_reducible refine Below.setCell ?_ ?_ _) | (with_reducible refine below_call (by assumption) ?_ ?_) | (with_reducible refine below_grown (by assumption) ?_ ?_ ?_) | omega | (simp; done) | (simp; omega))))) (HQ1.out.below (by (repeat' (first | (with_reducible exact Below.refl _ _) | (with_reducible assumption) | (with_reducible refine Below.alloc ?_ ?_ _) | (with_reducible refine below_drewN ?_ _) | (with_reducible refine Below.drew ?_) | (with_reducible refine Below.setCell ?_ ?_ _) | (with_reducible refine below_call (by assumption) ?_ ?_) | (with_reducible refine below_grown (by assumption) ?_ ?_ ?_) | omega | (simp; done) | (simp; omega))))) (by omega)).mono ?_
    rintro e w7' ⟨rfl, hb7'⟩
    have hz7' := hb7'.size
    go_wp2_with fail
    refine (markPointS_any (OG6.out.below (by (repeat' (first | (with_reducible exact Below.refl _ _) | (with_reducible assumption) | (with_reducible refine Below.alloc ?_ ?_ _) | (with_reducible refine below_drewN ?_ _) | (with_reducible refine Below.drew ?_) | (with_reducible refine Below.setCell ?_ ?_ _) | (with_reducible refine below_call (by assumption) ?_ ?_) | (with_reducible refine below_grown (by assumption) ?_ ?_ ?_) | omega | (simp; done) | (simp; omega))))) (by omega) (by omega) (by omega)).mono ?_
    rintro e w8 ⟨rfl, ho8, hg8⟩
    have hb8 : Below wB.heap.size wB w8 := OG6.out.markBelow (by omega) (by (repeat' (first | (with_reducible exact Below.refl _ _) | (with_reducible assumption) | (with_reducible refine Below.alloc ?_ ?_ _) | (with_reducible refine below_drewN ?_ _) | (with_reducible refine Below.drew ?_) | (with_reducible refine Below.setCell ?_ ?_ _) | (with_reducible refine below_call (by assumption) ?_ ?_) | (with_reducible refine below_grown (by assumption) ?_ ?_ ?_) | omega | (simp; done) | (simp; omega)))) (by omega) hg8
    have hz8 := hb8.size
    have hz78 := hg8.size
    have PG8 : Hid (OwnP s1 w8 (.slice Bg n1 dg) b) := Lib.hid ((PG6.out.below (show Below w6.heap.size w6 w7' by (repeat' (first | (with_reducible exact Below.refl _ _) | (with_reducible assumption) | (with_reducible refine Below.alloc ?_ ?_ _) | (with_reducible refine below_drewN ?_ _) | (with_reducible refine Below.drew ?_) | (with_reducible refine Below.setCell ?_ ?_ _) | (with_reducible refine below_call (by assumption) ?_ ?_) | (with_reducible refine below_grown (by assumption) ?_ ?_ ?_) | omega | (simp; done) | (simp; omega))))).apart hg8 (fun hn => (Sep.far (SG.out · (by rw [HB.out] at hn; exact hn)) PG6.out.row).symm))
    have O8 := Lib.hid ho8
    clear hg8 ho8
    go_wp2_with fail
    refine (markPointS_any PG8.out (by omega) (by omega) (by omega)).mono ?_
    rintro e w9 ⟨rfl, hp9, hg9⟩
    have hb9 : Below wB.heap.size wB w9 := PG8.out.markBelow (by omega) (by (repeat' (first | (with_reducible exact Below.refl _ _) | (with_reducible assumption) | (with_reducible refine Below.alloc ?_ ?_ _) | (with_reducible refine below_drewN ?_ _) | (with_reducible refine Below.drew ?_) | (with_reducible refine Below.setCell ?_ ?_ _) | (with_reducible refine below_call (by assumption) ?_ ?_) | (with_reducible refine below_grown (by assumption) ?_ ?_ ?_) | omega | (simp; done) | (simp; omega)))) (by omega) hg9
    have hz9 := hb9.size
    have hz89 := hg9.size
    have O9 : Hid (OwnP wx.heap.size w9 (.slice Ag n1 cg) (marks 1 n1)) := Lib.hid (O8.out.apart hg9 (fun hn => Sep.far (SG.out · (by rw [marks_len] at hn; exact hn)) PG8.out.row))
    have P9 := Lib.hid hp9
    clear hg9 hp9
    go_wp2_with fail
    refine (heldPointS_any cg O9.out.pts' (by omega) (by omega) (by omega)).mono ?_
    rintro e w8' ⟨rfl, rfl⟩
    go_wp2_with fail
    refine (heldPointS_any dg P9.out.pts' (by omega) (by omega) (by omega)).mono ?_
    rintro e w8' ⟨rfl, rfl⟩
    go_wp2_with fail
    refine (toPointS_any c (HPB.out.below (by (repeat' (first | (with_reducible exact Below.refl _ _) | (with_reducible assumption) | (with_reducible refine Below.alloc ?_ ?_ _) | (with_reducible refine below_drewN ?_ _) | (with_reducible refine Below.drew ?_) | (with_reducible refine Below.setCell ?_ ?_ _) | (with_reducible refine below_call (by assumption) ?_ ?_) | (with_reducible refine below_grown (by assumption) ?_ ?_ ?_) | omega | (simp; done) | (simp; omega))))) hn').mono ?_
    rintro e wt ⟨v9, rfl, hot, hbt⟩
    have hzt := hbt.size
    obtain ⟨A9, c9, rfl, _⟩ := hot.form
    rw [HL.out] at hot ⊢
    have OT := Lib.hid hot
    clear hot
    go_wp2_with fail
    refine (SplitCurve_eq c9 OT.out.pts' (by omega) (Hid.out (by with_reducible assumption)) (Hid.out (by with_reducible assumption)) (Hid.out (by with_reducible assumption))).mono ?_
    rintro e wh ⟨vh, uh, s2, rfl, hoh, _, _, hph, hbh⟩
    have hzh := hbh.size
    obtain ⟨Ah, ch, rfl, _⟩ := hoh.form
    obtain ⟨Bh, dh, rfl, _⟩ := hph.form
    rw [HA.out] at hoh ⊢
    rw [HB.out] at hph ⊢
    have OH := Lib.hid hoh
    have PH := Lib.hid hph
    clear hoh hph
    go_wp2_with fail
    refine (eqPointS_same ch c1 OH.out.pts' (HP1.out.below (by (repeat' (first | (with_reducible exact Below.refl _ _) | (with_reducible assumption) | (with_reducible refine Below.alloc ?_ ?_ _) | (with_reducible refine below_drewN ?_ _) | (with_reducible refine Below.drew ?_) | (with_reducible refine Below.setCell ?_ ?_ _) | (with_reducible refine below_call (by assumption) ?_ ?_) | (with_reducible refine below_grown (by assumption) ?_ ?_ ?_) | omega | (simp; done) | (simp; omega))))) (by omega)).mono ?_
    rintro e wi ⟨rfl, hbi⟩
    have hzi := hbi.size
    go_wp2_with fail
    refine (eqPointS_same dh d1 (PH.out.pts'.below (by (repeat' (first | (with_reducible exact Below.refl _ _) | (with_reducible assumption) | (with_reducible refine Below.alloc ?_ ?_ _) | (with_reducible refine below_drewN ?_ _) | (with_reducible refine Below.drew ?_) | (with_reducible refine Below.setCell ?_ ?_ _) | (with_reducible refine below_call (by assumption) ?_ ?_) | (with_reducible refine below_grown (by assumption) ?_ ?_ ?_) | omega | (simp; done) | (simp; omega))))) (HQ1.out.below (by (repeat' (first | (with_reducible exact Below.refl _ _) | (with_reducible assumption) | (with_reducible refine Below.alloc ?_ ?_ _) | (with_reducible refine below_drewN ?_ _) | (with_reducible refine Below.drew ?_) | (with_reducible refine Below.setCell ?_ ?_ _) | (with_reducible refine below_call (by assumption) ?_ ?_) | (with_reducible refine below_grown (by assumption) ?_ ?_ ?_) | omega | (simp; done) | (simp; omega))))) (by omega)).mono ?_
    rintro e wi' ⟨rfl, hbi'⟩
    have hzi' := hbi'.size
    go_wp2_with fail
    refine (heldPointS_any cg (O9.out.pts'.below (by (repeat' (first | (with_reducible exact Below.refl _ _) | (with_reducible assumption) | (with_reducible refine Below.alloc ?_ ?_ _) | (with_reducible refine below_drewN ?_ _) | (with_reducible refine Below.drew ?_) | (with_reducible refine Below.setCell ?_ ?_ _) | (with_reducible refine below_call (by assumption) ?_ ?_) | (with_reducible refine below_grown (by assumption) ?_ ?_ ?_) | omega | (simp; done) | (simp; omega))))) (by omega) (by omega) (by omega)).mono ?_
    rintro e wj ⟨rfl, rfl⟩
    go_wp2_with fail
    refine (heldPointS_any dg (P9.out.pts'.below (by (repeat' (first | (with_reducible exact Below.refl _ _) | (with_reducible assumption) | (with_reducible refine Below.alloc ?_ ?_ _) | (with_reducible refine below_drewN ?_ _) | (with_reducible refine Below.drew ?_) | (with_reducible refine Below.setCell ?_ ?_ _) | (with_reducible refine below_call (by assumption) ?_ ?_) | (with_reducible refine below_grown (by assumption) ?_ ?_ ?_) | omega | (simp; done) | (simp; omega))))) (by omega) (by omega) (by omega)).mono ?_
    rintro e wj ⟨rfl, rfl⟩
    go_wp2_with fail
    all_goals (go_ret; exact ⟨rfl, by (repeat' (first | (with_reducible exact Below.refl _ _) | (with_reducible assumption) | (with_reducible refine Below.alloc ?_ ?_ _) | (with_reducible refine below_drewN ?_ _) | (with_reducible refine Below.drew ?_) | (with_reducible refine Below.setCell ?_ ?_ _) | (with_reducible refine below_call (by assumption) ?_ ?_) | (with_reducible refine below_grown (by assumption) ?_ ?_ ?_) | omega | (simp; done) | (simp; omega)))⟩)

theorem FnExactSplitCurve_own : ownKnob Try.prog.godebug = none := by kernel_rfl
theorem FnExactSplitCurve_laid : laidOutB Try.prog = true := by kernel_rfl

set_option maxRecDepth 100000 in
theorem FnExactSplitCurve_lifted (os : Os) (started : os.Started) (H : Type) (enc : TypeId × Value → H) :
    ReturnsInHanded {} Try.checked os 11 .any (Rows.fnExactSplitCurveSpec.pre6 enc Try.prog Try.f11 Rows.fnExactSplitCurveRow.domain false) (Rows.fnExactSplitCurveSpec.post enc Try.prog Try.f11 false true false false) := by
  refine returnsInHanded_of_change (C := Try.checked) FnExactSplitCurve_own started (by kernel_rfl) Try.func11
    (ChangeSpec.witness6 (enc := enc) (C := Try.checked) false ⟨#[], #[.slice none 0 0], []⟩ 8 (by kernel_rfl) (by kernel_rfl) (by kernel_rfl) (by kernel_rfl)) ?_
  intro W base args ds gs before hval0 hW hcnd _
  have hval : ∀ (j : Nat) t v, Try.f11.params[j]? = some t → args[j]? = some v → Value.okWide Try.prog W .any base t v := hval0
  have hW' := hW
  obtain ⟨p, q, hA0, hV, rfl, hfz, hnd⟩ := hW
  have hA : DataW.TrodAll enc Try.prog W 0 (fun _ => true) true Try.f11.params.toList args.toList ds p := hA0
  rw [Try.params11] at hA hval
  obtain ⟨v0, vs0, d0, ds0, p0, q0, hargs, rfl, rfl, h0, r0⟩ := trodAll_cons hA
  obtain ⟨rfl, rfl, rfl⟩ := trodAll_nil r0
  obtain rfl : args = #[v0] := by cases args; simp_all
  obtain ⟨rfl, rfl⟩ := trodVars_none hV
  have k0 := h0
  have lt0 : ∀ x ∈ p0, x.block < W.heap.size := by obtain ⟨m, hm⟩ := k0; exact DataW.trod_lt m _ _ _ hm
  obtain ⟨a0, len0, cap0, rfl⟩ := okWide_slice Try.underlying36 (hval 0 36 v0 rfl rfl)
  obtain ⟨mx0, l0, w0⟩ := pts_of rfl Try.underlying36 Try.underlying63 (by kernel_rfl) (by kernel_rfl) (by kernel_rfl) h0
  clear hA0 hval0
  refine (FnExactSplitCurve_walk W _ _ _ _ w0 mx0).mono fun e W' ⟨he, bel⟩ => ?_
  subst he
  exact ⟨_, rfl, _, _, _, [], _, [], hW', trodAll_mk1 (shut_bool Try.underlying4 _), (trodAll_cons_mk (Below.trod FnExactSplitCurve_laid (by kernel_rfl) (of_decide_eq_true (by kernel_rfl)) k0 bel lt0) trodAll_mk0), rfl, bel.frame _, fun h => by cases h⟩

theorem FnExactSplitCurve_over : Rows.fnExactSplitCurveRow.holds Try.pinned (OpenSpec.ofChange Rows.fnExactSplitCurveSpec) :=
  OpenClaim.holds_of_wide 11 Try.f11 rfl rfl rfl rfl rfl rfl rfl ⟨rfl, rfl, rfl, rfl, rfl⟩ rfl rfl rfl rfl rfl (by kernel_rfl) Try.func11 (by kernel_rfl)
    (of_decide_eq_true (by kernel_rfl)) (by unfold Func.isWrapper; first | (rw [if_pos (by decide +kernel)]; kernel_rfl) | (rw [if_neg (by decide +kernel)]; exact ⟨rfl, rfl⟩))
    (fun os started H enc _ => FnExactSplitCurve_lifted os started H enc)

/-- The statement. -/
theorem FnExactSplitCurve_holds : Rows.FnExactSplitCurveSaid := FnExactSplitCurve_over
#print axioms FnExactSplitCurve_holds

end Go.Proofs.Ytmddkhincpibhaa
