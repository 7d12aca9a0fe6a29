/- Package retire: what the document says of two that wait; the reference's handle, Has, May. No condition. -/
import Derived.Test.YtpjkcmbinikoiaaRet2
namespace Go.Proofs.Ytpjkcmbinikoiaa
open Go Go.RowKit Go.Deep
attribute [local go_sem] cell?_ext frozen?_ext

def WakesPost (w : World) (e : Ending) (w' : World) : Prop := e = .returned (.bool true) ∧ w.grownBy w' none

theorem sl_two (w : World) : Sl EGone (w.alloc (.cells #[.int .i64 257, .bool false, .int .i64 1, .int .i64 258, .bool false, .int .i64 2] 28)) (· < (w.alloc (.cells #[.int .i64 257, .bool false, .int .i64 1, .int .i64 258, .bool false, .int .i64 2] 28)).heap.size) (some ⟨w.heap.size, 0, none⟩) 2 2 [⟨257, false, 1⟩, ⟨258, false, 2⟩] := by
  have hr : Reps EGone (w.alloc (.cells #[.int .i64 257, .bool false, .int .i64 1, .int .i64 258, .bool false, .int .i64 2] 28)) (· < (w.alloc (.cells #[.int .i64 257, .bool false, .int .i64 1, .int .i64 258, .bool false, .int .i64 2] 28)).heap.size) [⟨257, false, 1⟩, ⟨258, false, 2⟩] [Gone.cells ⟨257, false, 1⟩, Gone.cells ⟨258, false, 2⟩] :=
    .cons ⟨rfl, by decide, by decide⟩ (.cons ⟨rfl, by decide, by decide⟩ .nil)
  refine hr.sl (off := 0) (c := 2) (by simp) (by simp) (by decide) (fun j u hu => ?_)
  rw [Nat.zero_add, cell_of_row _ _ j _ _ _ (heap_alloc_new w _)]
  simpa [Gone.cells] using hu

set_option maxHeartbeats 400000 in
theorem wakes_any (w : World) : Calls Try.prog 7 #[] w (WakesPost w) := by
  go_enter Try.func7, Try.ntmps7
  go_wp2_with fail
  refine (Due_any _ _ _ _ [⟨257, false, 1⟩, ⟨258, false, 2⟩] (sl_two w) (by omega) 3 (by omega) (by omega)).mono ?_
  rintro e w' ⟨A1, c1, A2, c2, rfl, h1, h2, hg⟩
  have e1 : ([⟨257, false, 1⟩, ⟨258, false, 2⟩] : List Gone).filter (dueB 3) = [⟨257, false, 1⟩] := by decide
  have e2 : (([⟨257, false, 1⟩, ⟨258, false, 2⟩] : List Gone).filter fun x => !dueB 3 x) = [⟨258, false, 2⟩] := by decide
  rw [e1] at h1 ⊢
  rw [e2] at h2 ⊢
  clear e1 e2
  obtain ⟨b, off, rfl, hb, _, _, c0, _, _⟩ := gone_at h1 (i := 0) rfl
  simp only [List.length_cons, List.length_nil, Nat.zero_add, Nat.zero_mul, Nat.add_zero] at c0 ⊢
  go_wp2
  go_ret
  exact ⟨rfl, grown_to (World.grownBy_alloc w _ none) hg (by simp)⟩

def handleB (h : Int) : Bool := decide (256 ≤ h ∧ h ≤ 262143)

def HandlePost (gen slot : Int) (e : Ending) : Prop :=
  e = .returned (if 1 ≤ gen ∧ gen ≤ 1023 ∧ 0 ≤ slot ∧ slot ≤ 255 then .tuple #[.int .i64 (gen * 256 + slot), .int .i64 0] else .tuple #[.int .i64 0, .int .i64 2])

set_option maxHeartbeats 400000 in
theorem rHandle1 (gen slot : Int) (w : World) (h : 1 ≤ gen ∧ gen ≤ 1023 ∧ 0 ≤ slot ∧ slot ≤ 255) :
    Calls Try.prog 25 #[.int .i64 gen, .int .i64 slot] w fun e w' => e = .returned (.tuple #[.int .i64 (gen * 256 + slot), .int .i64 0]) ∧ w = w' := by
  obtain ⟨h1, h2, h3, h4⟩ := h
  go_enter Try.func25, Try.ntmps25
  go_wp2
  go_ret2
  exact ⟨rfl, rfl⟩

set_option maxHeartbeats 400000 in
theorem rHandle2 (gen slot : Int) (w : World) (h : gen < 1 ∨ (1 ≤ gen ∧ 1023 < gen) ∨ (1 ≤ gen ∧ gen ≤ 1023 ∧ slot < 0) ∨ (1 ≤ gen ∧ gen ≤ 1023 ∧ 0 ≤ slot ∧ 255 < slot)) :
    Calls Try.prog 25 #[.int .i64 gen, .int .i64 slot] w fun e w' => e = .returned (.tuple #[.int .i64 0, .int .i64 2]) ∧ w = w' := by
  rcases h with h1 | ⟨h1, h2⟩ | ⟨h1, h2, h3⟩ | ⟨h1, h2, h3, h4⟩
  all_goals
    go_enter Try.func25, Try.ntmps25
    go_wp2
    go_ret2
    exact ⟨rfl, rfl⟩

set_option maxHeartbeats 400000 in
theorem rhandle_any (h : Int) (w : World) (h1 : -9223372036854775808 ≤ h) (h2 : h ≤ 9223372036854775807) :
    Calls Try.prog 18 #[.int .i64 h] w fun e w' => e = .returned (.bool (handleB h)) ∧ w = w' := by
  have hb := bits_and_255 h
  rcases (by omega : h < 0 ∨ (0 ≤ h ∧ h < 256) ∨ (256 ≤ h ∧ h ≤ 262143) ∨ (0 ≤ h ∧ 262143 < h)) with g | ⟨g, g'⟩ | ⟨g, g'⟩ | ⟨g, g'⟩
  · have hf : handleB h = false := by simp [handleB]; omega
    go_enter Try.func18, Try.ntmps18
    go_wp2_with (go_at_call 25; refine (rHandle2 _ _ _ (by omega)).mono ?_; rintro e w' ⟨rfl, rfl⟩)
    go_ret
    exact ⟨by first | rfl | (rw [hf]; rfl), rfl⟩
  · have hf : handleB h = false := by simp [handleB]; omega
    go_enter Try.func18, Try.ntmps18
    go_wp2_with (go_at_call 25; refine (rHandle2 _ _ _ (by omega)).mono ?_; rintro e w' ⟨rfl, rfl⟩)
    go_ret
    exact ⟨by first | rfl | (rw [hf]; rfl), rfl⟩
  · have hf : handleB h = true := by simp [handleB]; omega
    have hx : h / 256 * 256 + h % 256 = h := by omega
    have Hx := Lib.hid hx
    clear hx
    go_enter Try.func18, Try.ntmps18
    go_wp2_with (go_at_call 25; refine (rHandle1 _ _ _ (by omega)).mono ?_; rintro e w' ⟨rfl, rfl⟩; rw [Hx.out])
    go_ret
    exact ⟨by rw [hf]; simp, rfl⟩
  · have hf : handleB h = false := by simp [handleB]; omega
    go_enter Try.func18, Try.ntmps18
    go_wp2_with (go_at_call 25; refine (rHandle2 _ _ _ (by omega)).mono ?_; rintro e w' ⟨rfl, rfl⟩)
    go_ret
    exact ⟨by first | rfl | (rw [hf]; rfl), rfl⟩

theorem hasB_take {xs : List Gone} {k : Nat} {g : Gone} (hg : xs[k]? = some g) (h : Int) (n : Bool) : hasB (xs.take (k + 1)) h n = (hasB (xs.take k) h n || (g.h == h && g.n == n)) := by
  unfold hasB
  rw [List.take_add_one, hg, List.any_append]
  simp

set_option maxHeartbeats 400000 in
theorem rHas_any (w : World) (A : Option Addr) (n c : Nat) (xs : List Gone) (hs : Sl EGone w (· < w.heap.size) A n c xs) (hn : n ≤ 1000) (h : Int) (nd : Bool) :
    Calls Try.prog 14 #[.slice A n c, .int .i64 h, .bool nd] w fun e w' => e = .returned (.bool (hasB xs h nd)) ∧ w = w' := by
  have hlen := hs.length
  go_enter Try.func14, Try.ntmps14
  go_wp2_with fail
  go_loop [7] (fun i => ∃ k : Nat, i = .int .i64 k ∧ k ≤ n ∧ hasB (xs.take k) h nd = false) (fun i => n - (intOf i).toNat)
  case atStart => exact ⟨0, rfl, Nat.zero_le _, rfl⟩
  case round =>
    obtain ⟨k, rfl, hle, hno⟩ := hrel
    by_cases hk : k < n
    · obtain ⟨g, hg⟩ : ∃ g, xs[k]? = some g := ⟨xs[k], List.getElem?_eq_getElem (by omega)⟩
      obtain ⟨b, off, rfl, hS, _, _, c0, c1, c2⟩ := gone_at hs hg
      have hx := hasB_take hg h nd
      rw [hno, Bool.false_or] at hx
      have Hx := Lib.hid hx
      have Hn := Lib.hid hno
      clear hx hno hg
      cases hh : (g.h == h)
      · go_wp2
        go_round
        case rel => exact ⟨k + 1, by go_num, by omega, by rw [Hx.out, hh]; rfl⟩
        case measure => simp [intOf]; omega
      · cases hh' : (g.n == nd)
        · go_wp2
          go_round
          case rel => exact ⟨k + 1, by go_num, by omega, by rw [Hx.out, hh']; simp⟩
          case measure => simp [intOf]; omega
        · have ht : hasB xs h nd = true := by
            have h1 : hasB (xs.take (k + 1)) h nd = true := by rw [Hx.out, hh, hh']; rfl
            unfold hasB at h1 ⊢
            rw [List.any_eq_true] at h1 ⊢
            obtain ⟨x, hx, hq⟩ := h1
            exact ⟨x, List.mem_of_mem_take hx, hq⟩
          have Ht := Lib.hid ht
          clear ht
          go_wp2
          go_ret
          exact ⟨by rw [Ht.out]; rfl, rfl⟩
    · obtain rfl : k = n := by omega
      have Hn := Lib.hid hno
      clear hno
      go_wp2
      go_ret
      exact ⟨by have := Hn.out; rw [List.take_of_length_le (by omega)] at this; rw [this]; rfl, rfl⟩
end Go.Proofs.Ytpjkcmbinikoiaa
