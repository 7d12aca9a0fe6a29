/- What the document says of three that write one key. No condition. -/
import Derived.Test.YtenalnhpdllimaaShare
namespace Go.Proofs.Ytenalnhpdllimaa
open Go Go.RowKit Go.Deep
attribute [local go_sem] cell?_ext frozen?_ext

theorem written_one {w : Wr} (h : wrB w = true) : writtenB [w] = true := written_true (by simp) (fun i x hi hx => by
  have : i = 0 := by simp at hi; omega
  subst this
  simp at hx
  subst hx
  exact ⟨h, fun a _ h0 => by omega⟩)
def L3 : List Tr := [⟨1, 0, [⟨0, 1⟩]⟩, ⟨2, 0, [⟨0, 1⟩]⟩, ⟨3, 1, [⟨0, 1⟩]⟩]
theorem may3 : mayB L3 = true := mayB_true (fun i t hi ht => by
  have hw : writtenB [⟨0, 1⟩] = true := written_one (by decide)
  match i, hi with
  | 0, _ => simp [L3] at ht; subst ht; exact ⟨by decide, by decide, by decide, by decide, hw⟩
  | 1, _ => simp [L3] at ht; subst ht; exact ⟨by decide, by decide, by decide, by decide, hw⟩
  | 2, _ => simp [L3] at ht; subst ht; exact ⟨by decide, by decide, by decide, by decide, hw⟩
  | i + 3, h => simp [L3] at h; omega)
theorem yes3 : yesUpto L3 3 = [true, false, true] := by decide

set_option maxHeartbeats 2000000 in
theorem wakes_any (w : World) : Calls Try.prog 10 #[] w fun e w' => e = .returned (.bool true) ∧ w.grownBy w' none := by
  go_enter Try.func10, Try.ntmps10
  go_wp2_with fail
  obtain ⟨w2, hw2⟩ : ∃ w2, pushes w [.cells #[.int .i64 0, .int .i64 1] 34, .cells #[.int .i64 1, .int .i64 0, .slice (some ⟨w.heap.size, 0, none⟩) 1 1, .int .i64 2, .int .i64 0, .slice (some ⟨w.heap.size, 0, none⟩) 1 1, .int .i64 3, .int .i64 1, .slice (some ⟨w.heap.size, 0, none⟩) 1 1] 27] = w2 := ⟨_, rfl⟩
  have hA : w2.heap[w.heap.size]? = some (.cells #[.int .i64 0, .int .i64 1] 34 (0, 0)) := by rw [← hw2]; exact pushes_at w (i := 0) rfl
  have hB : w2.heap[w.heap.size + 1]? = some (.cells #[.int .i64 1, .int .i64 0, .slice (some ⟨w.heap.size, 0, none⟩) 1 1, .int .i64 2, .int .i64 0, .slice (some ⟨w.heap.size, 0, none⟩) 1 1, .int .i64 3, .int .i64 1, .slice (some ⟨w.heap.size, 0, none⟩) 1 1] 27 (0, 0)) := by rw [← hw2]; exact pushes_at w (i := 1) rfl
  have g2 : w.grownBy w2 none := by rw [← hw2]; exact pushes_grown _ _
  simp only [pushes] at hw2
  rw [hw2]
  clear hw2
  have l0 : w.heap.size < w2.heap.size := (Array.getElem?_eq_some_iff.1 hA).1
  have l1 : w.heap.size + 1 < w2.heap.size := (Array.getElem?_eq_some_iff.1 hB).1
  have s1 : Sl EW w2 (· < w2.heap.size) (some ⟨w.heap.size, 0, none⟩) 1 1 [⟨0, 1⟩] := sl_block (xs := [⟨0, 1⟩]) (Reps.cons (E := EW) (cs := [.int .i64 0, .int .i64 1]) ⟨rfl, trivial⟩ .nil) hA rfl l0 (by decide)
  have s3 : Sl ETr w2 (· < w2.heap.size) (some ⟨w.heap.size + 1, 0, none⟩) 3 3 L3 := sl_block (xs := L3)
    (Reps.cons (E := ETr) (cs := [.int .i64 1, .int .i64 0, .slice (some ⟨w.heap.size, 0, none⟩) 1 1]) ⟨_, _, _, rfl, s1⟩ (Reps.cons (E := ETr) (cs := [.int .i64 2, .int .i64 0, .slice (some ⟨w.heap.size, 0, none⟩) 1 1]) ⟨_, _, _, rfl, s1⟩
      (Reps.cons (E := ETr) (cs := [.int .i64 3, .int .i64 1, .slice (some ⟨w.heap.size, 0, none⟩) 1 1]) ⟨_, _, _, rfl, s1⟩ .nil))) hB rfl l1 (by decide)
  refine (Run_any _ _ 3 3 L3 s3 (by decide) (fun t ht => by simp [L3] at ht; rcases ht with rfl | rfl | rfl <;> simp)).mono ?_
  rintro e w3 ⟨v, err, rfl, g3, ⟨_, rfl, A, c, rfl, hs⟩ | ⟨hm, _⟩⟩
  · change Sl Enc.bool w3 (· < w3.heap.size) A 3 c (yesUpto L3 3) at hs
    rw [yes3] at hs
    obtain ⟨b, off, rfl, _, c0⟩ := bool_at hs (i := 0) rfl
    obtain ⟨b', off', hA', _, c1⟩ := bool_at hs (i := 1) rfl
    obtain ⟨b'', off'', hA'', _, c2⟩ := bool_at hs (i := 2) rfl
    simp only [Option.some.injEq, Addr.mk.injEq] at hA' hA''
    obtain ⟨rfl, rfl, _⟩ := hA'
    obtain ⟨rfl, rfl, _⟩ := hA''
    simp only [Nat.add_zero] at c0
    have H := Lib.hid (g2.trans g3)
    clear hs s1 s3 hA hB g2 g3
    go_wp2_with fail
    go_ret
    exact ⟨rfl, H.out⟩
  · rw [may3] at hm; cases hm
end Go.Proofs.Ytenalnhpdllimaa
