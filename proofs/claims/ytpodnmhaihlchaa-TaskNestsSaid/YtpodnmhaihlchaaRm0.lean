/- The document's task: whether an action may be, in short. No condition. -/
import Derived.Test.YtpodnmhaihlchaaRh
import Derived.Test.YtpodnmhaihlchaaMm
import Derived.Laws.Strings
namespace Go.Proofs.Ytpodnmhaihlchaa
open Go Go.RowKit Go.Deep Go.Maps
theorem inN_iff {k a b v g : Int} {ts n : Nat} : inN k a b v g ts n = true ↔ 0 ≤ k ∧ k ≤ 7 ∧ 0 ≤ a ∧ a ≤ topN k ∧ -1 ≤ b ∧ b ≤ 1152921504606846976 ∧ -1 ≤ v ∧ v ≤ 1152921504606846976 ∧ -1 ≤ g ∧ g ≤ 1152921504606846976 ∧ n ≤ 96 ∧ ts ≤ 640 := by
  unfold inN inP big
  simp only [Bool.and_eq_true, decide_eq_true_eq]
  constructor
  · rintro ⟨⟨a1, a2⟩, ⟨a3, a4⟩, ⟨a5, a6⟩, ⟨a7, a8⟩, ⟨a9, a10⟩, a11, a12⟩
    exact ⟨a1, a2, a3, a4, a5, a6, a7, a8, a9, a10, a11, a12⟩
  · rintro ⟨a1, a2, a3, a4, a5, a6, a7, a8, a9, a10, a11, a12⟩
    exact ⟨⟨a1, a2⟩, ⟨a3, a4⟩, ⟨a5, a6⟩, ⟨a7, a8⟩, ⟨a9, a10⟩, a11, a12⟩
theorem mayN_no {k a b v g : Int} {ts n : Nat} (h : ¬ (0 ≤ k ∧ k ≤ 7 ∧ 0 ≤ a ∧ a ≤ topN k ∧ -1 ≤ b ∧ b ≤ 1152921504606846976 ∧ -1 ≤ v ∧ v ≤ 1152921504606846976 ∧ -1 ≤ g ∧ g ≤ 1152921504606846976 ∧ n ≤ 96 ∧ ts ≤ 640)) : mayN k a b v g ts n = false := by
  unfold mayN
  cases e : inN k a b v g ts n
  · rfl
  · exact absurd (inN_iff.1 e) h
theorem topN_le (k : Int) : topN k ≤ 4095 := by unfold topN; split <;> omega
/-- The letters that a kind uses. -/
def rMayP (k a b v g : Int) (t : ByteArray) (A : Option Addr) (n c : Nat) (w : World) : Prop :=
  Calls Try.prog 23 #[.agg (acC k a b v g t A n c)] w fun e w' => e = .returned (.bool (mayN k a b v g t.size n)) ∧ w.grownBy w' none
set_option maxHeartbeats 8000000 in
theorem rMay_out (k a b v g : Int) (t : ByteArray) (A : Option Addr) (n c : Nat) (hn : n ≤ 9223372036854775807) (ht : t.size ≤ 9223372036854775807) (w : World)
    (h : ¬ (0 ≤ k ∧ k ≤ 7 ∧ 0 ≤ a ∧ a ≤ 4095 ∧ -1 ≤ b ∧ b ≤ 1152921504606846976 ∧ -1 ≤ v ∧ v ≤ 1152921504606846976 ∧ -1 ≤ g ∧ g ≤ 1152921504606846976 ∧ n ≤ 96 ∧ t.size ≤ 640)) : rMayP k a b v g t A n c w := by
  have hT := topN_le k
  have H := Lib.hid (mayN_no (k := k) (a := a) (b := b) (v := v) (g := g) (ts := t.size) (n := n) (fun q => h (by omega)))
  clear hT
  unfold rMayP
  have g0 := World.grownBy_alloc w (.cells (acC k a b v g t A n c) 39) none
  by_cases z0 : b < -1
  · have HH := Lib.hid h
    clear h
    go_enter Try.func23, Try.ntmps23
    go_wp2_with fail
    go_ret
    exact ⟨by rw [H.out]; rfl, g0⟩
  by_cases z1 : 1152921504606846976 < b
  · have HH := Lib.hid h
    clear h
    go_enter Try.func23, Try.ntmps23
    go_wp2_with fail
    go_ret
    exact ⟨by rw [H.out]; rfl, g0⟩
  by_cases z2 : v < -1
  · have HH := Lib.hid h
    clear h
    go_enter Try.func23, Try.ntmps23
    go_wp2_with fail
    go_ret
    exact ⟨by rw [H.out]; rfl, g0⟩
  by_cases z3 : 1152921504606846976 < v
  · have HH := Lib.hid h
    clear h
    go_enter Try.func23, Try.ntmps23
    go_wp2_with fail
    go_ret
    exact ⟨by rw [H.out]; rfl, g0⟩
  by_cases z4 : g < -1
  · have HH := Lib.hid h
    clear h
    go_enter Try.func23, Try.ntmps23
    go_wp2_with fail
    go_ret
    exact ⟨by rw [H.out]; rfl, g0⟩
  by_cases z5 : 1152921504606846976 < g
  · have HH := Lib.hid h
    clear h
    go_enter Try.func23, Try.ntmps23
    go_wp2_with fail
    go_ret
    exact ⟨by rw [H.out]; rfl, g0⟩
  by_cases z6 : 96 < n
  · have HH := Lib.hid h
    clear h
    have zz : (96:Int) < (n:Int) := by omega
    go_enter Try.func23, Try.ntmps23
    go_wp2_with fail
    go_ret
    exact ⟨by rw [H.out]; rfl, g0⟩
  by_cases z7 : 640 < t.size
  · have HH := Lib.hid h
    clear h
    have zz : (640:Int) < (t.size:Int) := by omega
    go_enter Try.func23, Try.ntmps23
    go_wp2_with fail
    go_ret
    exact ⟨by rw [H.out]; rfl, g0⟩
  by_cases z8 : a < 0
  · have HH := Lib.hid h
    clear h
    go_enter Try.func23, Try.ntmps23
    go_wp2_with fail
    go_ret
    exact ⟨by rw [H.out]; rfl, g0⟩
  by_cases z9 : 4095 < a
  · have HH := Lib.hid h
    clear h
    go_enter Try.func23, Try.ntmps23
    go_wp2_with fail
    go_ret
    exact ⟨by rw [H.out]; rfl, g0⟩
  have hk : k < 0 ∨ 7 < k := by
    by_cases e1 : k < 0
    · exact .inl e1
    · by_cases e2 : 7 < k
      · exact .inr e2
      · exact absurd (by omega) h
  have b0 : (k == 0) = false := by simp; omega
  have b1 : (k == 1) = false := by simp; omega
  have b2 : (k == 2) = false := by simp; omega
  have b3 : (k == 3) = false := by simp; omega
  have b4 : (k == 4) = false := by simp; omega
  have b5 : (k == 5) = false := by simp; omega
  have b6 : (k == 6) = false := by simp; omega
  have b7 : (k == 7) = false := by simp; omega
  clear h hk
  go_enter Try.func23, Try.ntmps23
  go_wp2_with fail
  go_ret
  exact ⟨by rw [H.out]; rfl, g0⟩
end Go.Proofs.Ytpodnmhaihlchaa
