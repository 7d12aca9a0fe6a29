/- Whether a task may be, by the program and by the document; a program's frame at its beginning. No condition. -/
import Derived.Test.YtpodnmhaihlchaaMa
import Derived.Laws.Rows
import Derived.Test.YtpodnmhaihlchaaLits
namespace Go.Proofs.Ytpodnmhaihlchaa
open Go Go.RowKit Go.Deep

/-- A task may be, by its numbers alone. -/
def mayT (cl : Int) (n m : Nat) (o : Bool) : Bool := decide (0 ≤ cl ∧ cl ≤ 3 ∧ m ≤ 96) && (if o then decide (n = 0) else decide (1 ≤ n ∧ n ≤ 6))
theorem mayT_no {cl : Int} {n m : Nat} {o : Bool} (h : ¬ (0 ≤ cl ∧ cl ≤ 3 ∧ m ≤ 96)) : mayT cl n m o = false := by unfold mayT; rw [decide_eq_false h]; rfl
theorem mayT_in {cl : Int} {n m : Nat} {o : Bool} (h : 0 ≤ cl ∧ cl ≤ 3 ∧ m ≤ 96) : mayT cl n m o = if o then decide (n = 0) else decide (1 ≤ n ∧ n ≤ 6) := by unfold mayT; rw [decide_eq_true h]; rfl
theorem inP_no1 {n lo hi : Int} (h : n < lo) : inP n lo hi = false := by unfold inP; rw [decide_eq_false (by omega)]; rfl
theorem inP_no2 {n lo hi : Int} (h : hi < n) : inP n lo hi = false := by unfold inP; rw [decide_eq_false (by omega : ¬ n ≤ hi)]; simp
theorem inP_yes {n lo hi : Int} (h : lo ≤ n) (h' : n ≤ hi) : inP n lo hi = true := by unfold inP; rw [decide_eq_true h, decide_eq_true h']; rfl

set_option maxHeartbeats 2000000 in
theorem mayTk_any (cl : Int) (A : Option Addr) (n c : Nat) (B : Option Addr) (m d : Nat) (o : Bool) (hn : n ≤ 9223372036854775807) (hm : m ≤ 9223372036854775807) (w : World) :
    Calls Try.prog 18 #[.agg (tkC cl A n c B m d o)] w fun e w' => e = .returned (.bool (mayT cl n m o)) ∧ w.grownBy w' none := by
  have g0 := World.grownBy_alloc w (.cells (tkC cl A n c B m d o) 26) none
  by_cases h1 : inP cl 0 3 = false
  · have H := Lib.hid (mayT_no (cl := cl) (n := n) (m := m) (o := o) (fun h => by rw [inP_yes h.1 h.2.1] at h1; cases h1))
    have K := Lib.hid h1
    clear h1
    go_enter Try.func18, Try.ntmps18
    go_wp2_with fail
    refine (in_at K.out _).mono ?_
    rintro e w1 ⟨rfl, rfl⟩
    go_wp2_with fail
    go_ret
    exact ⟨by rw [H.out]; rfl, g0⟩
  have h1 : inP cl 0 3 = true := by cases h : inP cl 0 3 <;> simp_all
  have K := Lib.hid h1
  by_cases h2 : 96 < m
  · have H := Lib.hid (mayT_no (cl := cl) (n := n) (m := m) (o := o) (fun h => by omega))
    have h2' : (96:Int) < (m:Int) := by omega
    clear h1
    go_enter Try.func18, Try.ntmps18
    go_wp2_with fail
    refine (in_at K.out _).mono ?_
    rintro e w1 ⟨rfl, rfl⟩
    go_wp2_with fail
    go_ret
    exact ⟨by rw [H.out]; rfl, g0⟩
  have hc : 0 ≤ cl ∧ cl ≤ 3 := by unfold inP at h1; simp at h1; exact h1
  have h2' : (m:Int) ≤ 96 := by omega
  have H := Lib.hid (mayT_in (n := n) (o := o) (cl := cl) (m := m) ⟨hc.1, hc.2, by omega⟩)
  clear h1 h2
  cases o
  · obtain ⟨q, hq⟩ : ∃ q, inP (n:Int) 1 6 = q := ⟨_, rfl⟩
    have e1 : decide (1 ≤ n ∧ n ≤ 6) = q := by
      rw [← hq]
      unfold inP
      by_cases a1 : 1 ≤ n <;> by_cases a2 : n ≤ 6
      · rw [decide_eq_true ⟨a1, a2⟩, decide_eq_true (by omega), decide_eq_true (by omega)]; rfl
      · rw [decide_eq_false (fun h => a2 h.2), decide_eq_false (by omega : ¬ (n:Int) ≤ 6)]; simp
      · rw [decide_eq_false (fun h => a1 h.1), decide_eq_false (by omega : ¬ (1:Int) ≤ n)]; simp
      · rw [decide_eq_false (fun h => a1 h.1), decide_eq_false (by omega : ¬ (1:Int) ≤ n)]; simp
    have KQ := Lib.hid hq
    have E1 := Lib.hid e1
    clear hq e1
    go_enter Try.func18, Try.ntmps18
    go_wp2_with fail
    refine (in_at K.out _).mono ?_
    rintro e w1 ⟨rfl, rfl⟩
    go_wp2_with fail
    refine (in_at KQ.out _).mono ?_
    rintro e w1 ⟨rfl, rfl⟩
    go_wp2_with fail
    go_ret
    exact ⟨by rw [H.out]; simp only [Bool.false_eq_true, if_false]; rw [E1.out]; rfl, g0⟩
  · by_cases h0 : n = 0
    · subst h0
      go_enter Try.func18, Try.ntmps18
      go_wp2_with fail
      refine (in_at K.out _).mono ?_
      rintro e w1 ⟨rfl, rfl⟩
      go_wp2_with fail
      go_ret
      exact ⟨by rw [H.out]; rfl, g0⟩
    · have H0 := Lib.hid h0
      have hn0 : ((n:Int) == 0) = false := by simp; omega
      clear h0
      go_enter Try.func18, Try.ntmps18
      go_wp2_with fail
      refine (in_at K.out _).mono ?_
      rintro e w1 ⟨rfl, rfl⟩
      go_wp2_with fail
      go_ret
      exact ⟨by rw [H.out]; simp only [if_true]; rw [decide_eq_false (show ¬ n = 0 from H0.out)]; rfl, g0⟩

set_option maxHeartbeats 2000000 in
theorem rMayTk_any (cl : Int) (A : Option Addr) (n c : Nat) (B : Option Addr) (m d : Nat) (o : Bool) (hn : n ≤ 9223372036854775807) (hm : m ≤ 9223372036854775807) (w : World) :
    Calls Try.prog 22 #[.agg (tkC cl A n c B m d o)] w fun e w' => e = .returned (.bool (mayT cl n m o)) ∧ w.grownBy w' none := by
  have g0 := World.grownBy_alloc w (.cells (tkC cl A n c B m d o) 26) none
  by_cases h1 : cl < 0
  · have H := Lib.hid (mayT_no (cl := cl) (n := n) (m := m) (o := o) (fun h => by omega))
    go_enter Try.func22, Try.ntmps22
    go_wp2_with fail
    go_ret
    exact ⟨by rw [H.out]; rfl, g0⟩
  by_cases h2 : 4 ≤ cl
  · have H := Lib.hid (mayT_no (cl := cl) (n := n) (m := m) (o := o) (fun h => by omega))
    go_enter Try.func22, Try.ntmps22
    go_wp2_with fail
    go_ret
    exact ⟨by rw [H.out]; rfl, g0⟩
  by_cases h3 : 96 < m
  · have H := Lib.hid (mayT_no (cl := cl) (n := n) (m := m) (o := o) (fun h => by omega))
    have h3' : (96:Int) < (m:Int) := by omega
    go_enter Try.func22, Try.ntmps22
    go_wp2_with fail
    go_ret
    exact ⟨by rw [H.out]; rfl, g0⟩
  have h2' : (m:Int) ≤ 96 := by omega
  have H := Lib.hid (mayT_in (n := n) (o := o) (cl := cl) (m := m) ⟨by omega, by omega, by omega⟩)
  cases o
  · by_cases a1 : 1 ≤ n
    · by_cases a2 : n ≤ 6
      · have b1 : decide ((1:Int) ≤ (n:Int)) = true := by simp; omega
        have b2 : decide ((n:Int) ≤ 6) = true := by simp; omega
        have E := Lib.hid (And.intro a1 a2)
        clear a1 a2
        go_enter Try.func22, Try.ntmps22
        go_wp2_with fail
        go_ret
        exact ⟨by rw [H.out]; simp only [Bool.false_eq_true, if_false]; rw [decide_eq_true E.out]; rfl, g0⟩
      · have b1 : decide ((1:Int) ≤ (n:Int)) = true := by simp; omega
        have b2 : decide ((n:Int) ≤ 6) = false := by simp; omega
        have E := Lib.hid a2
        clear a1 a2
        go_enter Try.func22, Try.ntmps22
        go_wp2_with fail
        go_ret
        exact ⟨by rw [H.out]; simp only [Bool.false_eq_true, if_false]; rw [decide_eq_false (show ¬ (1 ≤ n ∧ n ≤ 6) from fun h => E.out h.2)]; rfl, g0⟩
    · obtain rfl : n = 0 := by omega
      go_enter Try.func22, Try.ntmps22
      go_wp2_with fail
      go_ret
      exact ⟨by rw [H.out]; rfl, g0⟩
  · by_cases h0 : n = 0
    · subst h0
      go_enter Try.func22, Try.ntmps22
      go_wp2_with fail
      go_ret
      exact ⟨by rw [H.out]; rfl, g0⟩
    · have H0 := Lib.hid h0
      have hn0 : ((n:Int) == 0) = false := by simp; omega
      clear h0
      go_enter Try.func22, Try.ntmps22
      go_wp2_with fail
      go_ret
      exact ⟨by rw [H.out]; simp only [if_true]; rw [decide_eq_false (show ¬ n = 0 from H0.out)]; rfl, g0⟩
end Go.Proofs.Ytpodnmhaihlchaa
