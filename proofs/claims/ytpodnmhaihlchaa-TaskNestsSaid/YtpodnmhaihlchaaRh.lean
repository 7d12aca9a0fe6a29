/- The document's task: whether a letter is in a text. No condition. -/
import Derived.Test.YtpodnmhaihlchaaTk1
namespace Go.Proofs.Ytpodnmhaihlchaa
open Go Go.RowKit Go.Deep

def hasB (l : List UInt8) (c : Int) : Bool := l.any fun x => (x.toNat : Int) == c
theorem has_none {l : List UInt8} {c : Int} (h : ∀ (j : Nat) (x : UInt8), l[j]? = some x → ¬ (x.toNat : Int) = c) : hasB l c = false := by
  unfold hasB
  rw [List.any_eq_false]
  intro x hx
  obtain ⟨j, hj, e⟩ := List.mem_iff_getElem.1 hx
  have := h j x (by rw [List.getElem?_eq_getElem hj, e])
  simpa using this
theorem has_some {l : List UInt8} {c : Int} {j : Nat} {x : UInt8} (h : l[j]? = some x) (e : (x.toNat : Int) = c) : hasB l c = true := by
  unfold hasB
  rw [List.any_eq_true]
  exact ⟨x, List.mem_of_getElem? h, by simpa using e⟩
set_option maxHeartbeats 800000 in
theorem has_any (s : ByteArray) (c : Int) (w : World) (hs : s.size ≤ 9223372036854775807) :
    Calls Try.prog 29 #[.string s, .int .u8 c] w fun e w' => e = .returned (.bool (hasB s.data.toList c)) ∧ w = w' := by
  go_enter Try.func29, Try.ntmps29
  go_wp2_with fail
  go_loop [5] (fun i => ∃ k : Nat, k ≤ s.size ∧ i = .int .i64 k ∧ ∀ (j : Nat) (x : UInt8), s.data.toList[j]? = some x → j < k → ¬ (x.toNat : Int) = c) (fun i => s.size - (intOf i).toNat)
  case atStart => exact ⟨0, Nat.zero_le _, rfl, fun j x _ h => absurd h (Nat.not_lt_zero j)⟩
  case round =>
    obtain ⟨k, hk, rfl, hn⟩ := hrel
    by_cases hlt : k < s.size
    · have hx : s.data.toList[k]? = some s[k] := by rw [List.getElem?_eq_getElem (by simpa using hlt)]; rfl
      by_cases he : (s[k].toNat : Int) = c
      · have H := Lib.hid (has_some hx he)
        have he' : ((s[k].toNat : Int) == c) = true := by simpa using he
        clear hn hx he
        go_wp2_with fail
        go_ret
        exact ⟨by rw [H.out]; rfl, rfl⟩
      · have H := Lib.hid (And.intro hn (And.intro hx he))
        have he' : ((s[k].toNat : Int) == c) = false := by simpa using he
        clear hn hx he
        go_wp2_with fail
        go_round
        case rel => exact ⟨k + 1, by omega, by go_num, fun j x hj hjk => by
          by_cases e : j = k
          · subst e; rw [H.out.2.1] at hj; cases hj; exact H.out.2.2
          · exact H.out.1 j x hj (by omega)⟩
        case measure => simp [intOf]; omega
    · obtain rfl : k = s.size := by omega
      have H := Lib.hid (has_none (l := s.data.toList) (c := c) (fun j x hj => hn j x hj (by have := (List.getElem?_eq_some_iff.1 hj).1; simpa using this)))
      clear hn
      go_wp2_with fail
      go_ret
      exact ⟨by rw [H.out]; rfl, rfl⟩
theorem has_at {s : ByteArray} {c : Int} {q : Bool} (h : hasB s.data.toList c = q) (hs : s.size ≤ 9223372036854775807) (w : World) : Calls Try.prog 29 #[.string s, .int .u8 c] w fun e w' => e = .returned (.bool q) ∧ w = w' := h ▸ has_any s c w hs
end Go.Proofs.Ytpodnmhaihlchaa
