/- Events that are too great. No condition. -/
import Derived.Test.YtflenopenifofaaEv9
namespace Go.Proofs.Ytflenopenifofaa
open Go Go.RowKit Go.Deep
attribute [local go_sem] cell?_ext frozen?_ext

def greatE (l : List Ev9) : Bool := decide (200 < l.length) || l.any fun e => decide (2000 < e.a.t.size) || decide (200 < e.a.args.length)
theorem anyE_take {xs : List Ev9} {k : Nat} {x : Ev9} (h : ((xs.take k).any fun e => decide (2000 < e.a.t.size) || decide (200 < e.a.args.length)) = false) (hx : xs[k]? = some x) :
    (x.a.t.size ≤ 2000 ∧ x.a.args.length ≤ 200 → ((xs.take (k + 1)).any fun e => decide (2000 < e.a.t.size) || decide (200 < e.a.args.length)) = false) ∧ (2000 < x.a.t.size ∨ 200 < x.a.args.length → greatE xs = true) := by
  constructor
  · intro hm
    rw [List.take_add_one, hx, List.any_append, h]
    simp; omega
  · intro hm
    unfold greatE
    rw [show (xs.any fun e => decide (2000 < e.a.t.size) || decide (200 < e.a.args.length)) = true from List.any_eq_true.2 ⟨x, List.mem_of_getElem? hx, by simpa using hm⟩]
    simp

set_option maxHeartbeats 4000000 in
theorem greatE_any (A : Option Addr) (n c : Nat) (xs : List Ev9) (w : World) (hs : Sl EEv w (· < w.heap.size) A n c xs) :
    Calls Try.prog 25 #[.slice A n c] w fun e w' => e = .returned (.bool (greatE xs)) ∧ w = w' := by
  have hl := hs.length
  by_cases hn : 200 < n
  · have HG := Lib.hid (show greatE xs = true by unfold greatE; rw [hl]; simp [hn])
    clear hl hs
    go_enter Try.func25, Try.ntmps25
    go_wp2_with fail
    go_ret
    exact ⟨by rw [HG.out]; rfl, rfl⟩
  have H := Lib.hid (And.intro hs hl)
  clear hs hl
  go_enter Try.func25, Try.ntmps25
  go_wp2_with fail
  go_loopw [3] (fun i wr => ∃ k : Nat, i = .int .i64 k ∧ k ≤ n ∧ ((xs.take k).any fun e => decide (2000 < e.a.t.size) || decide (200 < e.a.args.length)) = false ∧ w = wr) (fun i _ => n - (intOf i).toNat)
  case atStart => exact ⟨0, rfl, Nat.zero_le _, rfl, rfl⟩
  case round =>
    obtain ⟨k, rfl, hk, hall, rfl⟩ := hrel
    by_cases hkn : k < n
    · obtain ⟨x, hx⟩ : ∃ x, xs[k]? = some x := ⟨_, List.getElem?_eq_getElem (by rw [H.out.2]; exact hkn)⟩
      obtain ⟨b, off, B, m, d, hA, hb, _, ha, z0, z1, z2, z3, z4, z5, z6, z7, z8⟩ := event_at H.out.1 hx
      have hla := ha.length
      have i0 : (0 : Int) ≤ (k : Int) := by omega
      have i1 : (k : Int) < (n : Int) := by omega
      have HT := Lib.hid (anyE_take hall hx)
      have HL := Lib.hid hla
      subst hA
      clear hx hall ha hla hb z0 z1 z2 z3 z4 z5 z8
      by_cases h1 : 2000 < x.a.t.size
      · have HF := Lib.hid (HT.out.2 (.inl h1))
        go_wp2_with fail
        go_ret
        exact ⟨by rw [HF.out]; rfl, rfl⟩
      · by_cases h2 : 200 < m
        · have HF := Lib.hid (HT.out.2 (.inr (by rw [HL.out]; exact h2)))
          go_wp2_with fail
          go_ret
          exact ⟨by rw [HF.out]; rfl, rfl⟩
        · have HF := Lib.hid (HT.out.1 ⟨by omega, by rw [HL.out]; omega⟩)
          go_wp2_with fail
          go_roundw
          case rel => exact ⟨k + 1, by go_num, by omega, HF.out, trivial⟩
          case measure => simp [intOf]; omega
    · obtain rfl : k = n := by omega
      have HA := Lib.hid (show greatE xs = false by
        rw [List.take_of_length_le (by rw [H.out.2]; omega)] at hall
        unfold greatE; rw [hall, H.out.2]; simp; omega)
      clear hall
      go_wp2_with fail
      go_ret
      exact ⟨by rw [HA.out]; rfl, rfl⟩
end Go.Proofs.Ytflenopenifofaa
