/- The document's task: whether an action may be, whether it is an atomic one. No condition. -/
import Derived.Test.YtpodnmhaihlchaaRm1
import Derived.Test.YtpodnmhaihlchaaRm2
import Derived.Test.YtpodnmhaihlchaaRm3
import Derived.Test.YtpodnmhaihlchaaRm4
import Derived.Test.YtpodnmhaihlchaaRm5
import Derived.Test.YtpodnmhaihlchaaRm6
import Derived.Test.YtpodnmhaihlchaaRm7
import Derived.Test.YtpodnmhaihlchaaRm8
namespace Go.Proofs.Ytpodnmhaihlchaa
open Go Go.RowKit Go.Deep

theorem rMayAct_any (k a b v g : Int) (t : ByteArray) (A : Option Addr) (n c : Nat) (hn : n ≤ 9223372036854775807) (ht : t.size ≤ 9223372036854775807) (w : World) :
    Calls Try.prog 23 #[.agg (acC k a b v g t A n c)] w fun e w' => e = .returned (.bool (mayN k a b v g t.size n)) ∧ w.grownBy w' none := by
  by_cases h : 0 ≤ k ∧ k ≤ 7 ∧ 0 ≤ a ∧ a ≤ 4095 ∧ -1 ≤ b ∧ b ≤ 1152921504606846976 ∧ -1 ≤ v ∧ v ≤ 1152921504606846976 ∧ -1 ≤ g ∧ g ≤ 1152921504606846976 ∧ n ≤ 96 ∧ t.size ≤ 640
  · obtain ⟨h0, h7, h1, h2, hr⟩ := h
    have hr' : 0 ≤ a ∧ a ≤ 4095 ∧ -1 ≤ b ∧ b ≤ 1152921504606846976 ∧ -1 ≤ v ∧ v ≤ 1152921504606846976 ∧ -1 ≤ g ∧ g ≤ 1152921504606846976 ∧ n ≤ 96 ∧ t.size ≤ 640 := ⟨h1, h2, hr⟩
    rcases k8 h0 h7 with rfl | rfl | rfl | rfl | rfl | rfl | rfl | rfl
    · exact rMay_0 a b v g t A n c hn ht w hr'
    · exact rMay_1 a b v g t A n c hn ht w hr'
    · exact rMay_2 a b v g t A n c hn ht w hr'
    · exact rMay_3 a b v g t A n c hn ht w hr'
    · exact rMay_4 a b v g t A n c hn ht w hr'
    · exact rMay_5 a b v g t A n c hn ht w hr'
    · by_cases h127 : a ≤ 127
      · exact rMay_6 a b v g t A n c hn ht w ⟨h1, h127, hr⟩
      · have H := Lib.hid (mayN_no (k := 6) (a := a) (b := b) (v := v) (g := g) (ts := t.size) (n := n) (fun q => by have h4 := q.2.2.2.1; have : topN 6 = 127 := rfl; omega))
        have g0 := World.grownBy_alloc w (.cells (acC 6 a b v g t A n c) 39) none
        obtain ⟨z3, z4, z5, z6, z7, z8, z9, z10⟩ := hr
        have zz1 : (n:Int) ≤ 96 := by omega
        have zz2 : (t.size:Int) ≤ 640 := by omega
        clear hr'
        go_enter Try.func23, Try.ntmps23
        go_wp2_with fail
        go_ret
        exact ⟨by rw [H.out]; rfl, g0⟩
    · exact rMay_7 a b v g t A n c hn ht w hr'
  · exact rMay_out k a b v g t A n c hn ht w h
/-- Atomic: it may be, and is no call and no end. -/
def atomN (k a b v g : Int) (ts n : Nat) : Bool := mayN k a b v g ts n && decide (k < 6)
theorem rAtomic_any (k a b v g : Int) (t : ByteArray) (A : Option Addr) (n c : Nat) (hn : n ≤ 9223372036854775807) (ht : t.size ≤ 9223372036854775807) (w : World) :
    Calls Try.prog 24 #[.agg (acC k a b v g t A n c)] w fun e w' => e = .returned (.bool (atomN k a b v g t.size n)) ∧ w.grownBy w' none := by
  have g0 := World.grownBy_alloc w (.cells (acC k a b v g t A n c) 39) none
  have b0 := heap_alloc_new w (.cells (acC k a b v g t A n c) 39)
  obtain ⟨r, hr⟩ : ∃ r, mayN k a b v g t.size n = r := ⟨_, rfl⟩
  obtain ⟨q, hq⟩ : ∃ q, decide (k < 6) = q := ⟨_, rfl⟩
  have HA := Lib.hid (show atomN k a b v g t.size n = (r && q) by unfold atomN; rw [hr, hq])
  have H := Lib.hid (And.intro g0 (And.intro b0 hr))
  have HQ := Lib.hid hq
  clear hr hq g0 b0
  go_enter Try.func24, Try.ntmps24
  go_wp2_with fail
  refine (rMayAct_any k a b v g t A n c hn ht _).mono ?_
  rintro e w1 ⟨rfl, g1⟩
  rw [H.out.2.2]
  have b1 := (g1.block _ (by simp) (by simp)).trans H.out.2.1
  have t0 := cell_of_row w1 _ 0 _ _ _ b1
  simp at t0
  have hq := HQ.out
  have HG := Lib.hid (H.out.1.trans g1)
  clear b1 g1
  cases r
  · go_wp2_with fail
    go_ret
    exact ⟨by rw [HA.out]; rfl, HG.out⟩
  · go_wp2_with fail
    go_ret
    exact ⟨by rw [HA.out]; rfl, HG.out⟩
end Go.Proofs.Ytpodnmhaihlchaa
