/- Package index: parts of a state. No condition. -/
import Derived.Test.YtgalejfjhmjanaaLn2
namespace Go.Proofs.Ytgalejfjhmjanaa
open Go Go.RowKit Go.Deep
attribute [local go_sem] cell?_ext frozen?_ext

theorem tw_stop {α : Type} {q : α → Bool} : ∀ {xs : List α} {k : Nat} {x : α}, (∀ (i : Nat) y, i < k → xs[i]? = some y → q y = true) → xs[k]? = some x → q x = false → (xs.takeWhile q).length = k
  | [], k, x, _, hx, _ => by simp at hx
  | z :: zs, 0, x, _, hx, hs => by
    simp at hx
    subst hx
    rw [List.takeWhile_cons, hs]
    rfl
  | z :: zs, k + 1, x, h, hx, hs => by
    have h0 := h 0 z (by omega) rfl
    have ih := tw_stop (xs := zs) (k := k) (x := x) (fun i y hi hy => h (i + 1) y (by omega) (by simpa using hy)) (by simpa using hx) hs
    rw [List.takeWhile_cons, if_pos h0, List.length_cons, ih]
theorem tw_end {α : Type} {q : α → Bool} {xs : List α} (h : ∀ (i : Nat) y, i < xs.length → xs[i]? = some y → q y = true) : (xs.takeWhile q).length = xs.length := by
  rw [takeWhile_all q fun x hx => ?_]
  obtain ⟨i, hi, e⟩ := List.mem_iff_getElem.1 hx
  exact h i x hi (by rw [List.getElem?_eq_getElem hi, e])

theorem state1_any (w : World) (b o O Q q : Nat) (x cut : Int) (hq : q < 3) (hb : b < w.heap.size) (hO : O < w.heap.size) (hQ : Q < w.heap.size) (h1 : w.cell? ⟨b, o + 1, none⟩ = some (.int .i64 x)) (h2 : w.cell? ⟨O, 5 + q, none⟩ = some (.int .i64 cut)) (h3 : w.cell? ⟨Q, 0, none⟩ = some (.int .i64 q)) :
    Calls Try.prog 21 #[.pointer (some ⟨b, o, none⟩), .pointer (some ⟨O, 0, none⟩), .pointer (some ⟨Q, 0, none⟩)] w fun e w' => e = .returned (.bool (decide (cut < x))) ∧ w.grownBy w' none := by
  have hq' : (q : Int) < 3 := by omega
  go_enter Try.func21, Try.ntmps21
  go_wp2_with fail
  refine wp_region_ext (by kernel_rfl) (by kernel_rfl) ?_
  repeat (any_goals (first | go_big_quiet_step ((fail)) | quiet_step ((fail))))
  refine wpQuiet_nil ?_
  intro wx hwx
  have hbx := ext_elim hwx
  clear hwx
  go_wp2
  go_ret
  exact ⟨rfl, below_grown hbx⟩

def lowL (cut : Int) (xs : List Ln) : Nat := (xs.takeWhile fun x => decide (x.p ≤ cut)).length
set_option maxHeartbeats 2000000 in
theorem firstL_any (w : World) (A : Option Addr) (n c : Nat) (xs : List Ln) (hs : Sl ELn w (· < w.heap.size) A n c xs) (O Q q : Nat) (cut : Int) (hq : q < 3) (hO : O < w.heap.size) (hQ : Q < w.heap.size) (h2 : w.cell? ⟨O, 5 + q, none⟩ = some (.int .i64 cut)) (h3 : w.cell? ⟨Q, 0, none⟩ = some (.int .i64 q)) :
    Calls Try.prog 20 #[.slice A n c, .func (.func 21) #[] #[.pointer (some ⟨O, 0, none⟩), .pointer (some ⟨Q, 0, none⟩)]] w fun e w' => ∃ b, e = .returned (.tuple #[.int .i64 (lowL cut xs), .bool b]) ∧ w.grownBy w' none := by
  have hl := hs.length
  have hmax := hs.le_max
  have hcap := hs.le_cap
  go_enter Try.func20, Try.ntmps20
  go_wp2_with fail
  go_loopw [9] (fun i wr => ∃ k : Nat, i = .int .i64 k ∧ k ≤ n ∧ (∀ (i : Nat) y, i < k → xs[i]? = some y → decide (y.p ≤ cut) = true) ∧ w.grownBy wr none) (fun i _ => n - (intOf i).toNat)
  case atStart => exact ⟨0, rfl, Nat.zero_le _, fun i y h => by omega, World.grownBy.refl _ _⟩
  case round =>
    obtain ⟨k, rfl, hk, hu, hg⟩ := hrel
    by_cases hlt : k < n
    · obtain ⟨x, hx⟩ : ∃ x, xs[k]? = some x := ⟨_, List.getElem?_eq_getElem (by omega)⟩
      obtain ⟨b, off, hA, hb, c0, c1, c2, c3, c4⟩ := ln_at (hs.on hg) hx
      have hbl : b < wr.heap.size := hb
      have hcO := (hg.cell_far ⟨O, 5 + q, none⟩ hO (by simp)).trans h2
      have hcQ := (hg.cell_far ⟨Q, 0, none⟩ hQ (by simp)).trans h3
      have hcall := state1_any wr b (off + k * 5) O Q q x.p cut hq hbl (Nat.lt_of_lt_of_le hO hg.size) (Nat.lt_of_lt_of_le hQ hg.size) c1 hcO hcQ
      have i1 : (k : Int) < (n : Int) := by omega
      have H := Lib.hid (And.intro hx (And.intro hu hg))
      clear hx hu hg hs hb hl h2 h3 hcO hcQ c0 c1 c2 c3 c4 hO hQ hq
      subst hA
      by_cases hp : cut < x.p
      · rw [decide_eq_true hp] at hcall
        have HP := Lib.hid hp
        clear hp
        go_wp2_with fail
        refine hcall.mono ?_
        rintro e w1 ⟨rfl, hg1⟩
        go_wp2_with fail
        go_ret2
        exact ⟨true, by unfold lowL; rw [tw_stop H.out.2.1 H.out.1 (by have := HP.out; simp; omega)]; rfl, H.out.2.2.trans hg1⟩
      · rw [decide_eq_false hp] at hcall
        have HP := Lib.hid hp
        clear hp
        go_wp2_with fail
        refine hcall.mono ?_
        rintro e w1 ⟨rfl, hg1⟩
        go_wp2_with fail
        go_roundw
        case rel => exact ⟨k + 1, by go_num, by omega, fun i y hi hy => by
          by_cases e : i = k
          · subst e; rw [H.out.1] at hy; cases hy; have := HP.out; simp; omega
          · exact H.out.2.1 i y (by omega) hy, H.out.2.2.trans hg1⟩
        case measure => simp [intOf]; omega
    · obtain rfl : k = n := by omega
      have H := Lib.hid (show lowL cut xs = k by unfold lowL; rw [tw_end (by rw [hl]; exact hu), hl])
      clear hu hl
      go_wp2_with fail
      go_ret2
      exact ⟨false, by rw [H.out]; rfl, hg⟩
theorem Clip_any (A : Option Addr) (n c : Nat) (w : World) (hn : n ≤ c) : Calls Try.prog 22 #[.slice A n c] w fun e w' => e = .returned (.slice A n n) ∧ w = w' := by
  go_enter Try.func22, Try.ntmps22
  go_wp2
  go_ret
  exact ⟨rfl, rfl⟩
end Go.Proofs.Ytgalejfjhmjanaa
