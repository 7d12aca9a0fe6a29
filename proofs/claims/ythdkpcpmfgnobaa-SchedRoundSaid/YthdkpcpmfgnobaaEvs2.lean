/- Package sched: the events of a client; whether events are too great. No condition. -/
import Derived.Test.YthdkpcpmfgnobaaEvs
namespace Go.Proofs.Ythdkpcpmfgnobaa
open Go Go.RowKit Go.Deep
attribute [local go_sem] cell?_ext frozen?_ext

def GreatPost (n : Nat) (xs : List Ev) (w : World) (e : Ending) (w' : World) : Prop := ∃ b, e = .returned (.bool b) ∧ w' = w ∧ (b = false → n ≤ 200 ∧ ∀ x ∈ xs, x.args.length ≤ 200)

set_option maxHeartbeats 1000000 in
theorem GreatActs_any (w : World) (A : Option Addr) (n c : Nat) (xs : List Ev) (hs : Sl EEv w (· < w.heap.size) A n c xs) :
    Calls Try.prog 18 #[.slice A n c] w (GreatPost n xs w) := by
  have hl := hs.length
  by_cases hn : 200 < n
  · go_enter Try.func18, Try.ntmps18
    go_wp2_with fail
    go_ret
    exact ⟨true, rfl, rfl, fun h => (by cases h)⟩
  · go_enter Try.func18, Try.ntmps18
    go_wp2_with fail
    go_loopw [3] (fun i wr => ∃ k : Nat, i = .int .i64 k ∧ k ≤ n ∧ (∀ x ∈ xs.take k, x.args.length ≤ 200) ∧ wr = w) (fun i _ => n - (intOf i).toNat)
    case atStart => exact ⟨0, rfl, Nat.zero_le _, by simp, rfl⟩
    case round =>
      obtain ⟨k, rfl, hk, hall, rfl⟩ := hrel
      by_cases hlt : k < n
      · obtain ⟨x, hx⟩ : ∃ x, xs[k]? = some x := ⟨_, List.getElem?_eq_getElem (by omega)⟩
        obtain ⟨b, off, B, m, d, rfl, hb, ha, hr⟩ := event_at hs hx
        have hc6 := hr 6 _ rfl
        have hc7 := hr 7 _ rfl
        have hal := ha.length
        have H := Lib.hid (And.intro hall hx)
        clear hall hx hr hs ha
        by_cases h1 : 2000 < x.t.size
        · go_wp2_with fail
          go_ret
          exact ⟨true, rfl, rfl, fun h => (by cases h)⟩
        · by_cases h2 : 200 < m
          · go_wp2_with fail
            go_ret
            exact ⟨true, rfl, rfl, fun h => (by cases h)⟩
          · have h1' : decide (2000 < (x.t.size : Int)) = false := by simp; omega
            have h2' : decide (200 < (m : Int)) = false := by simp; omega
            go_wp2_with fail
            go_roundw
            case rel =>
              refine ⟨k + 1, by go_num, by omega, ?_, trivial⟩
              rw [List.take_add_one, H.out.2]
              intro y hy
              rw [List.mem_append] at hy
              rcases hy with hy | hy
              · exact H.out.1 y hy
              · simp at hy
                subst hy
                omega
            case measure => simp [intOf]; omega
      · obtain rfl : k = n := by omega
        go_wp2_with fail
        go_ret
        exact ⟨false, rfl, rfl, fun _ => ⟨by omega, by rw [List.take_of_length_le (by omega)] at hall; exact hall⟩⟩

theorem great_any (w : World) (A : Option Addr) (n c : Nat) (xs : List Ev) (hs : Sl EEv w (· < w.heap.size) A n c xs) :
    Calls Try.prog 12 #[.slice A n c] w (GreatPost n xs w) := by
  by_cases hn : 200 < n
  · go_enter Try.func12, Try.ntmps12
    go_wp2_with fail
    go_ret
    exact ⟨true, rfl, rfl, fun h => (by cases h)⟩
  · go_enter Try.func12, Try.ntmps12
    go_wp2_with (go_at_call 18; refine (GreatActs_any _ _ _ _ _ hs).mono ?_; rintro e w' ⟨b, rfl, rfl, hb⟩)
    go_ret
    have hd : decide (200 < (n : Int)) = false := by simp; omega
    refine ⟨b, ?_, rfl, hb⟩
    show Ending.returned (.bool (decide (200 < (n : Int)) || b)) = _
    rw [hd, Bool.false_or]

theorem TEv : Elt Try.prog 30 35 9 96 := Elt.mk' (z := .agg #[.int .i64 0, .int .i8 0, .int .i64 0, .int .i64 0, .int .i64 0, .int .i64 0, .string { data := #[] }, .slice none 0 0, .int .i64 0]) Try.underlying30 (by kernel_rfl) rfl (by decide)
end Go.Proofs.Ythdkpcpmfgnobaa
