/- Package task: whether an action may be. No condition. -/
import Derived.Test.YtpodnmhaihlchaaTk1
import Derived.Maps.RangeWalk
namespace Go.Proofs.Ytpodnmhaihlchaa
open Go Go.RowKit Go.Deep Go.Maps

theorem in_any (n lo hi : Int) (w : World) : Calls Try.prog 16 #[.int .i64 n, .int .i64 lo, .int .i64 hi] w fun e w' => e = .returned (.bool (inP n lo hi)) ∧ w = w' := by
  by_cases h1 : lo ≤ n
  · by_cases h2 : n ≤ hi
    · go_enter Try.func16, Try.ntmps16
      go_wp2_with fail
      go_ret
      exact ⟨by simp [inP, h1, h2], rfl⟩
    · go_enter Try.func16, Try.ntmps16
      go_wp2_with fail
      go_ret
      exact ⟨by simp [inP, h1, h2], rfl⟩
  · have H := Lib.hid (show inP n lo hi = false by unfold inP; rw [decide_eq_false h1]; rfl)
    go_enter Try.func16, Try.ntmps16
    go_wp2_with fail
    go_ret
    exact ⟨by rw [H.out]; rfl, rfl⟩
theorem in_at {n lo hi : Int} {q : Bool} (h : inP n lo hi = q) (w : World) : Calls Try.prog 16 #[.int .i64 n, .int .i64 lo, .int .i64 hi] w fun e w' => e = .returned (.bool q) ∧ w = w' := h ▸ in_any n lo hi w
def usesW (k : Int) : Int := if k = 0 then 9 else if k = 1 then 13 else if k = 2 then 15 else if k = 3 then 5 else if k = 4 then 19 else if k = 5 then 0 else if k = 6 then 33 else 32
theorem k8 {k : Int} (h0 : 0 ≤ k) (h1 : k ≤ 7) : k = 0 ∨ k = 1 ∨ k = 2 ∨ k = 3 ∨ k = 4 ∨ k = 5 ∨ k = 6 ∨ k = 7 := by omega
abbrev usesT8 : Value := .agg #[.int .i64 9, .int .i64 13, .int .i64 15, .int .i64 5, .int .i64 19, .int .i64 0, .int .i64 33, .int .i64 32]
theorem uses_any (k : Int) (h0 : 0 ≤ k) (h1 : k ≤ 7) (w : World) : Calls Try.prog 28 #[.int .i8 k] w fun e w' => e = .returned (.int .i64 (usesW k)) ∧ w = w' := by
  have i0 : ∀ w, (Instr.index 54 usesT8 (.int .i8 0)).run Try.prog w = .ok (.int .i64 9) w := fun _ => by kernel_rfl
  have i1 : ∀ w, (Instr.index 54 usesT8 (.int .i8 1)).run Try.prog w = .ok (.int .i64 13) w := fun _ => by kernel_rfl
  have i2 : ∀ w, (Instr.index 54 usesT8 (.int .i8 2)).run Try.prog w = .ok (.int .i64 15) w := fun _ => by kernel_rfl
  have i3 : ∀ w, (Instr.index 54 usesT8 (.int .i8 3)).run Try.prog w = .ok (.int .i64 5) w := fun _ => by kernel_rfl
  have i4 : ∀ w, (Instr.index 54 usesT8 (.int .i8 4)).run Try.prog w = .ok (.int .i64 19) w := fun _ => by kernel_rfl
  have i5 : ∀ w, (Instr.index 54 usesT8 (.int .i8 5)).run Try.prog w = .ok (.int .i64 0) w := fun _ => by kernel_rfl
  have i6 : ∀ w, (Instr.index 54 usesT8 (.int .i8 6)).run Try.prog w = .ok (.int .i64 33) w := fun _ => by kernel_rfl
  have i7 : ∀ w, (Instr.index 54 usesT8 (.int .i8 7)).run Try.prog w = .ok (.int .i64 32) w := fun _ => by kernel_rfl
  rcases k8 h0 h1 with rfl | rfl | rfl | rfl | rfl | rfl | rfl | rfl
  all_goals
    clear h0 h1
    go_enter Try.func28, Try.ntmps28
    go_wp2_with fail
    go_ret
    exact ⟨rfl, rfl⟩
end Go.Proofs.Ytpodnmhaihlchaa
