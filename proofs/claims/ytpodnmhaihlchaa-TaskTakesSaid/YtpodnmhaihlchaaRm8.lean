/- The document's task: whether an action may be, kind 7. No condition. -/
import Derived.Test.YtpodnmhaihlchaaRm0
import Derived.Laws.Strings
namespace Go.Proofs.Ytpodnmhaihlchaa
open Go Go.RowKit Go.Deep Go.Maps
set_option maxHeartbeats 16000000 in
theorem rMay_7 (a b v g : Int) (t : ByteArray) (A : Option Addr) (n c : Nat) (hn : n ≤ 9223372036854775807) (ht : t.size ≤ 9223372036854775807) (w : World)
    (h : 0 ≤ a ∧ a ≤ 4095 ∧ -1 ≤ b ∧ b ≤ 1152921504606846976 ∧ -1 ≤ v ∧ v ≤ 1152921504606846976 ∧ -1 ≤ g ∧ g ≤ 1152921504606846976 ∧ n ≤ 96 ∧ t.size ≤ 640) : rMayP 7 a b v g t A n c w := by
  obtain ⟨z1, z2, z3, z4, z5, z6, z7, z8, z9, z10⟩ := h
  have zz1 : (n:Int) ≤ 96 := by omega
  have zz2 : (t.size:Int) ≤ 640 := by omega
  obtain ⟨y1, hy1⟩ : ∃ y, (a == 0) = y := ⟨_, rfl⟩
  obtain ⟨y2, hy2⟩ : ∃ y, (b == 0) = y := ⟨_, rfl⟩
  obtain ⟨y3, hy3⟩ : ∃ y, (v == 0) = y := ⟨_, rfl⟩
  obtain ⟨y4, hy4⟩ : ∃ y, (g == 0) = y := ⟨_, rfl⟩
  obtain ⟨y5, hy5⟩ : ∃ y, t.toList.isEmpty = y := ⟨_, rfl⟩
  obtain ⟨y6, hy6⟩ : ∃ y, (n == 0) = y := ⟨_, rfl⟩
  have HM : Hid (mayN 7 a b v g t.size n = usedP 7 (!y1) (!y2) (!y3) (!y4) (!y5) (!y6)) := Lib.hid (by
    have e1 : inN 7 a b v g t.size n = true := inN_iff.2 (by unfold topN; simp; omega)
    unfold mayN usedN
    rw [e1, ← hy1, ← hy2, ← hy3, ← hy4, ← hy5, ← hy6]
    have f (x : Int) : decide (x ≠ 0) = !(x == 0) := by by_cases h : x = 0 <;> simp [h]
    have g2 : decide (t.size ≠ 0) = !t.toList.isEmpty := by
      rw [ByteArray.toList_eq]
      have h : t.size = t.data.toList.length := rfl
      rw [h]
      cases t.data.toList <;> simp
    have g3 : decide (0 < n) = !(n == 0) := by cases n <;> simp
    rw [f, f, f, f, g2, g3]; rfl)
  have hy6' : ((n:Int) == 0) = y6 := by rw [← hy6]; cases n <;> simp <;> omega
  unfold rMayP
  have g0 := World.grownBy_alloc w (.cells (acC 7 a b v g t A n c) 39) none
  go_enter Try.func23, Try.ntmps23
  cases y1
  · go_wp2_with fail
    refine (has_at (q := false) (by decide) (by decide) _).mono ?_
    rintro e w1 ⟨rfl, rfl⟩
    go_wp2_with fail
    go_ret
    exact ⟨by rw [HM.out]; rfl, g0⟩
  · skip
    cases y2
    · go_wp2_with fail
      refine (has_at (q := false) (by decide) (by decide) _).mono ?_
      rintro e w1 ⟨rfl, rfl⟩
      go_wp2_with fail
      go_ret
      exact ⟨by rw [HM.out]; rfl, g0⟩
    · skip
      cases y3
      · go_wp2_with fail
        refine (has_at (q := false) (by decide) (by decide) _).mono ?_
        rintro e w1 ⟨rfl, rfl⟩
        go_wp2_with fail
        go_ret
        exact ⟨by rw [HM.out]; rfl, g0⟩
      · skip
        cases y4
        · go_wp2_with fail
          refine (has_at (q := false) (by decide) (by decide) _).mono ?_
          rintro e w1 ⟨rfl, rfl⟩
          go_wp2_with fail
          go_ret
          exact ⟨by rw [HM.out]; rfl, g0⟩
        · skip
          cases y5
          · go_wp2_with fail
            refine (has_at (q := false) (by decide) (by decide) _).mono ?_
            rintro e w1 ⟨rfl, rfl⟩
            go_wp2_with fail
            go_ret
            exact ⟨by rw [HM.out]; rfl, g0⟩
          · skip
            cases y6
            · go_wp2_with fail
              refine (has_at (q := true) (by decide) (by decide) _).mono ?_
              rintro e w1 ⟨rfl, rfl⟩
              go_wp2_with fail
              go_ret
              exact ⟨by rw [HM.out]; rfl, g0⟩
            · skip
              go_wp2_with fail
              go_ret
              exact ⟨by rw [HM.out]; rfl, g0⟩
end Go.Proofs.Ytpodnmhaihlchaa
