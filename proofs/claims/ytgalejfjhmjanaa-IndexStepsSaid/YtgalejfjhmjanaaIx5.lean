/- What the document says of two records. No condition. -/
import Derived.Test.YtgalejfjhmjanaaIx4
namespace Go.Proofs.Ytgalejfjhmjanaa
open Go Go.RowKit Go.Deep
attribute [local go_sem] cell?_ext frozen?_ext

theorem written_one {w : Wr} (h : wrB w = true) : writtenB [w] = true := written_true (by simp) (fun i x hi hx => by
  have : i = 0 := by simp at hi; omega
  subst this
  simp at hx
  subst hx
  exact ⟨h, fun a _ h0 => by omega⟩)
def L2 : List Rc := [⟨2, true, [⟨3, 7⟩]⟩, ⟨5, true, [⟨3, 8⟩]⟩]
theorem mayR_mk {x : Rc} (h1 : 1 ≤ x.p) (h2 : x.p ≤ 1048575) (h3 : writtenB x.ws = true) (h4 : x.y = true) : mayR x = true := by
  unfold mayR
  rw [decide_eq_true h1, decide_eq_true h2, h3, h4]
  rfl
theorem hist2 : histB L2 = true := (hist_iff _).2 ⟨fun x hx => by
  simp [L2] at hx
  rcases hx with rfl | rfl
  · exact mayR_mk (by decide) (by decide) (written_one (by decide)) rfl
  · exact mayR_mk (by decide) (by decide) (written_one (by decide)) rfl, by simp [L2]⟩
theorem at2 : atC L2 4 3 = (⟨3, 2, 7⟩, true) := by
  unfold atC
  rw [if_pos ⟨hist2, by decide, by decide⟩]
  rfl
theorem last2 : lastC L2 = 5 := by
  unfold lastC
  rw [if_pos hist2]
  rfl
theorem items2 : (itemsC L2 5).length = 1 := by
  unfold itemsC
  rw [if_pos hist2]
  rfl

set_option maxHeartbeats 2000000 in
theorem wakes_any (w : World) : Calls Try.prog 8 #[] w fun e w' => e = .returned (.bool true) ∧ w.grownBy w' none := by
  go_enter Try.func8, Try.ntmps8
  go_wp2_with fail
  obtain ⟨w2, hw2⟩ : ∃ w2, pushes w [.cells #[.int .i64 3, .int .i64 7] 38, .cells #[.int .i64 3, .int .i64 8] 38, .cells #[.int .i64 2, .bool true, .slice (some ⟨w.heap.size, 0, none⟩) 1 1, .int .i64 5, .bool true, .slice (some ⟨w.heap.size + 1, 0, none⟩) 1 1] 25] = w2 := ⟨_, rfl⟩
  have hA : w2.heap[w.heap.size]? = some (.cells #[.int .i64 3, .int .i64 7] 38 (0, 0)) := by rw [← hw2]; exact pushes_at w (i := 0) rfl
  have hB : w2.heap[w.heap.size + 1]? = some (.cells #[.int .i64 3, .int .i64 8] 38 (0, 0)) := by rw [← hw2]; exact pushes_at w (i := 1) rfl
  have hC : w2.heap[w.heap.size + 1 + 1]? = some (.cells #[.int .i64 2, .bool true, .slice (some ⟨w.heap.size, 0, none⟩) 1 1, .int .i64 5, .bool true, .slice (some ⟨w.heap.size + 1, 0, none⟩) 1 1] 25 (0, 0)) := by rw [← hw2]; exact pushes_at w (i := 2) rfl
  have g2 : w.grownBy w2 none := by rw [← hw2]; exact pushes_grown _ _
  simp only [pushes] at hw2
  rw [hw2]
  clear hw2
  have l0 : w.heap.size < w2.heap.size := (Array.getElem?_eq_some_iff.1 hA).1
  have l1 : w.heap.size + 1 < w2.heap.size := (Array.getElem?_eq_some_iff.1 hB).1
  have l2 : w.heap.size + 1 + 1 < w2.heap.size := (Array.getElem?_eq_some_iff.1 hC).1
  have s0 : Sl EW w2 (· < w2.heap.size) (some ⟨w.heap.size, 0, none⟩) 1 1 [⟨3, 7⟩] := sl_block (xs := [⟨3, 7⟩]) (Reps.cons (E := EW) (cs := [.int .i64 3, .int .i64 7]) ⟨rfl, trivial⟩ .nil) hA rfl l0 (by decide)
  have s1 : Sl EW w2 (· < w2.heap.size) (some ⟨w.heap.size + 1, 0, none⟩) 1 1 [⟨3, 8⟩] := sl_block (xs := [⟨3, 8⟩]) (Reps.cons (E := EW) (cs := [.int .i64 3, .int .i64 8]) ⟨rfl, trivial⟩ .nil) hB rfl l1 (by decide)
  have s3 : Sl ERec w2 (· < w2.heap.size) (some ⟨w.heap.size + 1 + 1, 0, none⟩) 2 2 L2 := sl_block (xs := L2)
    (Reps.cons (E := ERec) (cs := [.int .i64 2, .bool true, .slice (some ⟨w.heap.size, 0, none⟩) 1 1]) ⟨_, _, _, rfl, s0⟩ (Reps.cons (E := ERec) (cs := [.int .i64 5, .bool true, .slice (some ⟨w.heap.size + 1, 0, none⟩) 1 1]) ⟨_, _, _, rfl, s1⟩ .nil)) hC rfl l2 (by decide)
  have H := Lib.hid (And.intro g2 s3)
  clear hA hB hC s0 s1 s3 g2 l0 l1 l2
  refine (At_any _ _ 2 2 L2 H.out.2 4 3).mono ?_
  rintro e w3 ⟨rfl, g3⟩
  rw [at2]
  unfold itC
  have H3 := Lib.hid (And.intro (H.out.1.trans g3) (H.out.2.on g3))
  clear H g3
  have ga := World.grownBy_alloc w3 (.cells #[.int .i64 3, .int .i64 2, .int .i64 7] 36) none
  have H4 := Lib.hid (And.intro (H3.out.1.trans ga) (H3.out.2.on ga))
  clear ga
  go_wp2_with (go_at_call 11; refine (Last_any _ _ 2 2 L2 H4.out.2).mono ?_; rintro e w4 ⟨rfl, g4⟩; rw [last2]; have H5 := Lib.hid (And.intro (H4.out.1.trans g4) (H4.out.2.on g4)); clear g4)
  refine (Items_any _ _ 2 2 L2 H5.out.2 5).mono ?_
  rintro e w5 ⟨A5, c5, rfl, _, g5⟩
  rw [items2]
  go_wp2_with fail
  go_ret
  exact ⟨rfl, H5.out.1.trans g5⟩
end Go.Proofs.Ytgalejfjhmjanaa
