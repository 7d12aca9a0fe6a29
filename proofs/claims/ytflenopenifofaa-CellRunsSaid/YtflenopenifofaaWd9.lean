/- What the document says of two compare-and-swaps. No condition. -/
import Derived.Test.YtflenopenifofaaWd5g
import Derived.Test.YtflenopenifofaaWd7
namespace Go.Proofs.Ytflenopenifofaa
open Go Go.RowKit Go.Deep
attribute [local go_sem] cell?_ext frozen?_ext

def wa1 : Aw := ⟨2, 1, 0, 5, 0, ⟨#[]⟩, []⟩
def wa2 : Aw := ⟨2, 1, 0, 7, 0, ⟨#[]⟩, []⟩
def wd0 : Wd := ⟨[0, 0], dkNew⟩
def wd1 : Wd := ⟨[0, 5], dkNew⟩
theorem wd0_eq : newW 2 = wd0 := by unfold newW; rw [if_pos (by omega)]; rfl
theorem wk_may1 : mayW wd0 wa1 = true := by
  refine (mayW_iff _ _).2 ⟨(okW_iff _).2 ⟨by decide, by decide, okD_new⟩, by decide, rfl, by decide⟩
theorem wk_may2 : mayW wd1 wa2 = true := by
  refine (mayW_iff _ _).2 ⟨(okW_iff _).2 ⟨by decide, by decide, okD_new⟩, by decide, rfl, by decide⟩
theorem wk_do1 : doW wd0 wa1 = wd1 ∧ resW wd0 wa1 = 1 ∧ errW wd0 wa1 = 0 := by
  unfold doW resW errW
  rw [if_pos wk_may1, if_pos wk_may1, if_pos wk_may1]
  exact ⟨rfl, rfl, rfl⟩
theorem wk_do2 : doW wd1 wa2 = wd1 ∧ resW wd1 wa2 = 0 ∧ errW wd1 wa2 = 0 := by
  unfold doW resW errW
  rw [if_pos wk_may2, if_pos wk_may2, if_pos wk_may2]
  exact ⟨rfl, rfl, rfl⟩
theorem wk_same : sameW wd1 wd1 = true := by unfold sameW; simp

set_option maxRecDepth 100000 in
set_option maxHeartbeats 8000000 in
theorem wakesW_any (w : World) : Calls Try.prog 12 #[] w fun e w' => e = .returned (.bool true) ∧ w.grownBy w' none := by
  go_enter Try.func12, Try.ntmps12
  go_wp2_with fail
  refine (NewW_any 2 w).mono ?_
  rintro e w1 ⟨A0, n0, c0, A1, n1, c1, A2, n2, c2, rfl, g1, h1⟩
  rw [wd0_eq] at h1
  have H1 := Lib.hid (And.intro g1 h1)
  clear g1 h1
  rw [show newE 2 = 0 from rfl]
  go_wp2_with fail
  have g3 := World.grownBy_alloc w1 (.cells #[.slice A0 n0 c0, .slice A1 n1 c1, .slice A2 n2 c2] 27) none
  generalize w1.alloc (.cells #[.slice A0 n0 c0, .slice A1 n1 c1, .slice A2 n2 c2] 27) = w3 at g3 ⊢
  refine (DoW_any A0 n0 c0 A1 n1 c1 A2 n2 c2 wd0 2 1 0 5 0 ⟨#[]⟩ [] none 0 0 rfl (by decide) w3 (H1.out.2.on g3)).mono ?_
  rintro e w4 ⟨A0', n0', c0', A1', n1', c1', A2', n2', c2', rfl, g4, h4⟩
  change WS w4 A0' n0' c0' A1' n1' c1' A2' n2' c2' (doW wd0 wa1) at h4
  rw [wk_do1.1] at h4
  have H4 := Lib.hid (And.intro ((H1.out.1.trans g3).trans g4) h4)
  clear g3 g4 h4 H1
  rw [show resW wd0 ⟨2, 1, 0, 5, 0, ⟨#[]⟩, []⟩ = 1 from wk_do1.2.1, show errW wd0 ⟨2, 1, 0, 5, 0, ⟨#[]⟩, []⟩ = 0 from wk_do1.2.2]
  go_wp2_with fail
  have g5 := World.grownBy_alloc w4 (.cells #[.slice A0' n0' c0', .slice A1' n1' c1', .slice A2' n2' c2'] 27) none
  have b5 := heap_alloc_new w4 (.cells #[.slice A0' n0' c0', .slice A1' n1' c1', .slice A2' n2' c2'] 27)
  generalize w4.alloc (.cells #[.slice A0' n0' c0', .slice A1' n1' c1', .slice A2' n2' c2'] 27) = w5 at g5 b5 ⊢
  refine (DoW_any A0' n0' c0' A1' n1' c1' A2' n2' c2' wd1 2 1 0 7 0 ⟨#[]⟩ [] none 0 0 rfl (by decide) w5 (H4.out.2.on g5)).mono ?_
  rintro e w6 ⟨D0, l0, d0, D1, l1, d1, D2, l2, d2, rfl, g6, h6⟩
  change WS w6 D0 l0 d0 D1 l1 d1 D2 l2 d2 (doW wd1 wa2) at h6
  rw [wk_do2.1] at h6
  rw [show resW wd1 ⟨2, 1, 0, 7, 0, ⟨#[]⟩, []⟩ = 0 from wk_do2.2.1, show errW wd1 ⟨2, 1, 0, 7, 0, ⟨#[]⟩, []⟩ = 0 from wk_do2.2.2]
  have g7 := World.grownBy_alloc w6 (.cells #[.slice D0 l0 d0, .slice D1 l1 d1, .slice D2 l2 d2] 27) none
  have b7 := heap_alloc_new w6 (.cells #[.slice D0 l0 d0, .slice D1 l1 d1, .slice D2 l2 d2] 27)
  have gg := (H4.out.1.trans g5).trans (g6.trans g7)
  have hx := H4.out.2.on ((g5.trans g6).trans g7)
  have hy := h6.on g7
  obtain ⟨w7, hw7⟩ : ∃ w7, w6.alloc (.cells #[.slice D0 l0 d0, .slice D1 l1 d1, .slice D2 l2 d2] 27) = w7 := ⟨_, rfl⟩
  rw [hw7] at gg hx hy
  have bx := (g6.block _ (Array.getElem?_eq_some_iff.1 b5).1 (by simp)).trans b5
  have lx : w4.heap.size < w6.heap.size := (Array.getElem?_eq_some_iff.1 bx).1
  have t0 := cell_of_row w6 _ 0 _ _ _ bx
  have t1 := cell_of_row w6 _ 1 _ _ _ bx
  have t2 := cell_of_row w6 _ 2 _ _ _ bx
  simp at t0 t1 t2
  obtain rfl : l0 = 2 := by rw [← h6.s0.length]; rfl
  obtain ⟨b, off, hA, hb, x1⟩ := int_at h6.s0 (i := 1) (x := 5) rfl
  subst hA
  have H7 := Lib.hid (And.intro gg (And.intro hx (And.intro hy hw7)))
  clear g5 b5 g6 h6 g7 b7 gg bx hx hy hw7 H4
  go_wp2_with fail
  rw [H7.out.2.2.2]
  refine (SameW_any A0' n0' c0' A1' n1' c1' A2' n2' c2' _ _ _ _ _ _ _ _ _ wd1 wd1 w7 H7.out.2.1 H7.out.2.2.1).mono ?_
  rintro e w8 ⟨rfl, g8⟩
  rw [wk_same]
  go_wp2_with fail
  go_ret
  exact ⟨rfl, H7.out.1.trans g8⟩
end Go.Proofs.Ytflenopenifofaa
