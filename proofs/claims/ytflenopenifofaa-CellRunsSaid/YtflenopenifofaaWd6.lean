/- Package cell: New; too great; what an action touches; how an action lies. No condition. -/
import Derived.Test.YtflenopenifofaaWd2
import Derived.Test.YtflenopenifofaaRk2
namespace Go.Proofs.Ytflenopenifofaa
open Go Go.RowKit Go.Deep
attribute [local go_sem] cell?_ext frozen?_ext

theorem greatW_any (A0 : Option Addr) (n0 c0 : Nat) (A1 : Option Addr) (n1 c1 : Nat) (A2 : Option Addr) (n2 c2 : Nat) (x : Wd) (w : World) (h : WS w A0 n0 c0 A1 n1 c1 A2 n2 c2 x) :
    Calls Try.prog 10 #[wdC A0 n0 c0 A1 n1 c1 A2 n2 c2] w fun e w' => e = .returned (.bool (decide ((1200 : Int) < (n0 : Int)) || greatD x.d)) ∧ w.grownBy w' none := by
  have g0 := World.grownBy_alloc w (.cells #[.slice A0 n0 c0, .slice A1 n1 c1, .slice A2 n2 c2] 27) none
  have h1 := h.on g0
  have H := Lib.hid (And.intro h1 g0)
  clear h h1 g0
  by_cases hn : 1200 < n0
  · go_enter Try.func10, Try.ntmps10
    go_wp2_with fail
    go_ret
    exact ⟨by simp, H.out.2⟩
  · have hd : decide ((1200 : Int) < (n0 : Int)) = false := by simp; omega
    rw [hd]
    go_enter Try.func10, Try.ntmps10
    go_wp2_with fail
    refine (rGreat_any A1 n1 c1 A2 n2 c2 x.d _ H.out.1.s1 H.out.1.s2).mono ?_
    rintro e w1 ⟨rfl, g1⟩
    go_wp2_with fail
    go_ret
    exact ⟨by simp, H.out.2.trans g1⟩

abbrev actV (k a b v g : Int) (t : ByteArray) (Ar : Option Addr) (nr cr : Nat) : Value := .agg #[.int .i8 k, .int .i64 a, .int .i64 b, .int .i64 v, .int .i64 g, .string t, .slice Ar nr cr]
theorem act_any (k a b v g : Int) (t : ByteArray) (Ar : Option Addr) (nr cr : Nat) (w : World) : Calls Try.prog 11 #[actV k a b v g t Ar nr cr] w fun e w' => e = .returned (.bool (decide ((2000 : Int) < (t.size : Int)) || decide ((200 : Int) < (nr : Int)))) ∧ w.grownBy w' none := by
  obtain ⟨b1, h1⟩ : ∃ q, decide ((2000 : Int) < (t.size : Int)) = q := ⟨_, rfl⟩
  obtain ⟨b2, h2⟩ : ∃ q, decide ((200 : Int) < (nr : Int)) = q := ⟨_, rfl⟩
  rw [h1, h2]
  go_enter Try.func11, Try.ntmps11
  cases b1
  all_goals cases b2
  all_goals
    go_wp2_with fail
    go_ret
    exact ⟨rfl, World.grownBy_alloc w _ none⟩

def touch (k a : Int) : Int × Int := if k = 4 then (-1, a) else if k = 5 then (-1, -2) else (a, -1)
set_option maxHeartbeats 1000000 in
theorem touches_any (k a b v g : Int) (t : ByteArray) (Ar : Option Addr) (nr cr : Nat) (w : World) : Calls Try.prog 23 #[actV k a b v g t Ar nr cr] w fun e w' => e = .returned (.tuple #[.int .i64 (touch k a).1, .int .i64 (touch k a).2]) ∧ w.grownBy w' none := by
  have g0 := World.grownBy_alloc w (.cells #[.int .i8 k, .int .i64 a, .int .i64 b, .int .i64 v, .int .i64 g, .string t, .slice Ar nr cr] 30) none
  by_cases h4 : k = 4
  · subst h4
    go_enter Try.func23, Try.ntmps23
    go_wp2_with fail
    go_region
    all_goals
      go_wp2
      go_ret2
      exact ⟨rfl, grown_drew.2 g0⟩
  · have k4 : (k == 4) = false := by simpa using h4
    by_cases h5 : k = 5
    · subst h5
      clear h4
      go_enter Try.func23, Try.ntmps23
      go_wp2_with fail
      go_ret2
      exact ⟨rfl, g0⟩
    · have k5 : (k == 5) = false := by simpa using h5
      have ht : touch k a = (a, -1) := by unfold touch; rw [if_neg h4, if_neg h5]
      rw [ht]
      clear ht h4 h5
      go_enter Try.func23, Try.ntmps23
      go_wp2_with fail
      go_ret2
      exact ⟨rfl, g0⟩
end Go.Proofs.Ytflenopenifofaa
