/- What the document says of two puts. No condition. -/
import Derived.Test.YtafebhcjkcedhaaDk9
import Derived.Test.YtafebhcjkcedhaaDkGet
namespace Go.Proofs.Ytafebhcjkcedhaa
open Go Go.RowKit Go.Deep
attribute [local go_sem] cell?_ext frozen?_ext

def ba : ByteArray := ⟨#[97]⟩
def bb : ByteArray := ⟨#[98]⟩
def wk1 : Dk := putD dkNew 0 5 ⟨#[97]⟩
theorem wkb1 : putB dkNew 0 5 ⟨#[97]⟩ = true := (putB_iff ..).2 ⟨okD_new, by decide⟩
theorem wk_ok : okD wk1 = true := okD_put wkb1
theorem wkb2 : putB wk1 0 4 ⟨#[98]⟩ = true := (putB_iff ..).2 ⟨wk_ok, by decide⟩
theorem wk_eq : wk1 = ⟨⟨5, ⟨#[97]⟩⟩ :: List.replicate 32 secZ, List.replicate 33 secZ⟩ := by
  unfold wk1 putD; rw [if_pos wkb1]; rfl
theorem wk2 : putD wk1 0 4 ⟨#[98]⟩ = wk1 := by
  unfold putD; rw [if_pos wkb2, wk_eq]; rfl
theorem wk_get : getS wk1 0 = ⟨5, ⟨#[97]⟩⟩ ∧ getE wk1 0 = 0 := by
  obtain ⟨h1, h2⟩ := getB_yes (k := 0) wk_ok (by omega)
  exact ⟨by rw [show (0 : Int) = ((0 : Nat) : Int) from rfl, h2, wk_eq]; rfl, h1⟩
theorem wk_crash : crashD wk1 1 = ⟨mix 1 wk1, mix 1 wk1⟩ := by unfold crashD; rw [if_pos wk_ok]
theorem wk_get2 : getS (crashD wk1 1) 0 = secZ ∧ getE (crashD wk1 1) 0 = 0 := by
  obtain ⟨h1, h2⟩ := getB_yes (k := 0) (okD_crash wk_ok 1) (by omega)
  refine ⟨?_, h1⟩
  rw [show (0 : Int) = ((0 : Nat) : Int) from rfl, h2, wk_crash, mix_getD _ _ (by omega), if_pos (by rfl), wk_eq]
  rfl

set_option maxRecDepth 100000 in
set_option maxHeartbeats 8000000 in
theorem wakes_any (w : World) : Calls Try.prog 10 #[] w fun e w' => e = .returned (.bool true) ∧ w.grownBy w' none := by
  go_enter Try.func10, Try.ntmps10
  go_wp2_with fail
  refine (New_any w).mono ?_
  rintro e w1 ⟨A1, n1, c1, A2, n2, c2, rfl, g1, s1, s2⟩
  have H1 := Lib.hid (And.intro g1 (And.intro s1 s2))
  clear g1 s1 s2
  go_wp2_with fail
  refine (Put_any A1 n1 c1 A2 n2 c2 dkNew 0 5 ⟨#[97]⟩ (by decide) w1 H1.out.2.1 H1.out.2.2).mono ?_
  rintro e w2 ⟨A3, n3, c3, A4, n4, c4, rfl, g2, s3, s4⟩
  change Sl ESec w2 (· < w2.heap.size) A3 n3 c3 wk1.now at s3
  change Sl ESec w2 (· < w2.heap.size) A4 n4 c4 wk1.sure at s4
  rw [(putB_yes wkb1).1]
  have H2 := Lib.hid (And.intro (H1.out.1.trans g2) (And.intro s3 s4))
  clear g2 s3 s4 H1
  go_wp2_with fail
  have g3 := World.grownBy_alloc w2 (.cells #[.slice A3 n3 c3, .slice A4 n4 c4] 27) none
  have b3 := heap_alloc_new w2 (.cells #[.slice A3 n3 c3, .slice A4 n4 c4] 27)
  generalize w2.alloc (.cells #[.slice A3 n3 c3, .slice A4 n4 c4] 27) = w3 at g3 b3 ⊢
  have H3 := Lib.hid (And.intro (H2.out.1.trans g3) (And.intro (H2.out.2.1.on g3) (And.intro (H2.out.2.2.on g3) b3)))
  clear g3 b3 H2
  refine (Put_any A3 n3 c3 A4 n4 c4 wk1 0 4 ⟨#[98]⟩ (by decide) w3 H3.out.2.1 H3.out.2.2.1).mono ?_
  rintro e w4 ⟨A5, n5, c5, A6, n6, c6, rfl, g4, s5, s6⟩
  rw [wk2] at s5 s6
  rw [(putB_yes wkb2).1]
  have b4 := (g4.block _ (Array.getElem?_eq_some_iff.1 H3.out.2.2.2).1 (by simp)).trans H3.out.2.2.2
  have H4 := Lib.hid (And.intro (H3.out.1.trans g4) (And.intro (H3.out.2.1.on g4) (And.intro (H3.out.2.2.1.on g4) (And.intro b4 (And.intro s5 s6)))))
  clear g4 b4 s5 s6 H3
  go_wp2_with fail
  have g5 := World.grownBy_alloc w4 (.cells #[.slice A5 n5 c5, .slice A6 n6 c6] 27) none
  generalize w4.alloc (.cells #[.slice A5 n5 c5, .slice A6 n6 c6] 27) = w5 at g5 ⊢
  refine (Get_any A5 n5 c5 A6 n6 c6 wk1 0 w5 (H4.out.2.2.2.2.1.on g5) (H4.out.2.2.2.2.2.on g5)).mono ?_
  rintro e w6 ⟨rfl, g6⟩
  rw [wk_get.1, wk_get.2]
  have g46 := g5.trans g6
  have b6 := (g46.block _ (Array.getElem?_eq_some_iff.1 H4.out.2.2.2.1).1 (by simp)).trans H4.out.2.2.2.1
  have H6 := Lib.hid (And.intro (H4.out.1.trans g46) (And.intro (H4.out.2.1.on g46) (And.intro (H4.out.2.2.1.on g46) b6)))
  clear g5 g6 g46 b6 H4
  have t0 := cell_of_row w6 _ 0 _ _ _ H6.out.2.2.2
  have t1 := cell_of_row w6 _ 1 _ _ _ H6.out.2.2.2
  simp at t0 t1
  have l2 : w2.heap.size < w6.heap.size := (Array.getElem?_eq_some_iff.1 H6.out.2.2.2).1
  go_wp2_with fail
  have g7 := World.grownBy_alloc w6 (.cells #[.int .i64 5, .string ⟨#[97]⟩] 36) none
  have b7 := heap_alloc_new w6 (.cells #[.int .i64 5, .string ⟨#[97]⟩] 36)
  generalize w6.alloc (.cells #[.int .i64 5, .string ⟨#[97]⟩] 36) = w7 at g7 b7 ⊢
  refine (Crash_any A3 n3 c3 A4 n4 c4 wk1 1 w7 (H6.out.2.1.on g7) (H6.out.2.2.1.on g7)).mono ?_
  rintro e w8 ⟨A7, n7, c7, A8, n8, c8, rfl, g8, s7, s8⟩
  rw [chk_yes wk_ok]
  have b8 := (g8.block _ (Array.getElem?_eq_some_iff.1 b7).1 (by simp)).trans b7
  have H8 := Lib.hid (And.intro (H6.out.1.trans (g7.trans g8)) (And.intro s7 (And.intro s8 b8)))
  clear g7 g8 s7 s8 b7 b8 t0 t1 H6
  go_wp2_with fail
  have g9 := World.grownBy_alloc w8 (.cells #[.slice A7 n7 c7, .slice A8 n8 c8] 27) none
  have b9 := heap_alloc_new w8 (.cells #[.slice A7 n7 c7, .slice A8 n8 c8] 27)
  generalize w8.alloc (.cells #[.slice A7 n7 c7, .slice A8 n8 c8] 27) = w9 at g9 b9 ⊢
  refine (Get_any A7 n7 c7 A8 n8 c8 (crashD wk1 1) 0 w9 (H8.out.2.1.on g9) (H8.out.2.2.1.on g9)).mono ?_
  rintro e wa ⟨rfl, ga⟩
  rw [wk_get2.1, wk_get2.2]
  have b9 := (ga.block _ (Array.getElem?_eq_some_iff.1 b9).1 (by simp)).trans b9
  have b8 := ((g9.trans ga).block _ (Array.getElem?_eq_some_iff.1 H8.out.2.2.2).1 (by simp)).trans H8.out.2.2.2
  obtain rfl : n7 = 33 := by rw [← H8.out.2.1.length]; exact (okD_len (okD_crash wk_ok 1)).1
  have HA := Lib.hid (H8.out.1.trans (g9.trans ga))
  have t0 := cell_of_row wa _ 0 _ _ _ b9
  have u0 := cell_of_row wa _ 0 _ _ _ b8
  have u1 := cell_of_row wa _ 1 _ _ _ b8
  simp at t0 u0 u1
  have l8 : w8.heap.size < wa.heap.size := (Array.getElem?_eq_some_iff.1 b9).1
  have l6 : w6.heap.size < wa.heap.size := (Array.getElem?_eq_some_iff.1 b8).1
  clear b8 b9 g9 ga H8
  unfold secZ
  go_wp2_with fail
  go_ret
  exact ⟨rfl, HA.out.trans (World.grownBy_alloc wa _ none)⟩
end Go.Proofs.Ytafebhcjkcedhaa
