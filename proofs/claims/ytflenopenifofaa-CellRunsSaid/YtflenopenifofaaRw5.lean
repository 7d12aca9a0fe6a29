/- The document's worlds: New. No condition. -/
import Derived.Test.YtflenopenifofaaWd7
import Derived.RegionTactic
import Derived.ChangeAlike
namespace Go.Proofs.Ytflenopenifofaa
open Go Go.RowKit Go.Deep
attribute [local go_sem] cell?_ext frozen?_ext

section
attribute [local go_sem] mkSec
set_option maxHeartbeats 1000000 in
theorem rNew_any (w : World) : Calls Try.prog 35 #[] w (DkPost dkNew id w) := by
  go_enter Try.func35, Try.ntmps35
  go_wp2_with fail
  go_region
  · have hf := new_fin w (.cells #[.slice (some ⟨w.heap.size + 1, 0, none⟩) 33 33, .slice (some ⟨w.heap.size + 1 + 1, 0, none⟩) 33 33] 25)
    have HF := Lib.hid hf
    clear hf
    go_wp2_with fail
    exact bodyPost_ret (v := dkC (some ⟨w.heap.size + 1, 0, none⟩) 33 33 (some ⟨w.heap.size + 1 + 1, 0, none⟩) 33 33) (by simp [results, Try.results35, go_sem]) rfl ⟨_, _, _, _, _, _, rfl, HF.out⟩
  · have hf := new_fin w (.cells #[.slice (some ⟨w.heap.size + 1 + 1, 0, none⟩) 33 33, .slice (some ⟨w.heap.size + 1, 0, none⟩) 33 33] 25)
    have HF := Lib.hid (And.intro hf.1 (And.intro hf.2.2 hf.2.1))
    clear hf
    go_wp2_with fail
    exact bodyPost_ret (v := dkC (some ⟨w.heap.size + 1 + 1, 0, none⟩) 33 33 (some ⟨w.heap.size + 1, 0, none⟩) 33 33) (by simp [results, Try.results35, go_sem]) rfl ⟨_, _, _, _, _, _, rfl, HF.out⟩
end
set_option maxHeartbeats 2000000 in
theorem rNewW_any (n : Int) (w : World) : Calls Try.prog 17 #[.int .i64 n] w (NewPost n w) := by
  obtain ⟨w0, hw0⟩ : ∃ w0, w.alloc (.cells #[.slice none 0 0, .slice none 0 0, .slice none 0 0] 27) = w0 := ⟨_, rfl⟩
  have g0 := World.grownBy_alloc w (.cells #[.slice none 0 0, .slice none 0 0, .slice none 0 0] 27) none
  have b0 := heap_alloc_new w (.cells #[.slice none 0 0, .slice none 0 0, .slice none 0 0] 27)
  rw [hw0] at g0 b0
  have u0 := cell_of_row w0 _ 0 _ _ _ b0
  have u1 := cell_of_row w0 _ 1 _ _ _ b0
  have u2 := cell_of_row w0 _ 2 _ _ _ b0
  have f0 := frozen_of_row w0 _ 0 _ _ b0
  have f1 := frozen_of_row w0 _ 1 _ _ b0
  have f2 := frozen_of_row w0 _ 2 _ _ b0
  simp at u0 u1 u2
  have H := Lib.hid (And.intro g0 (And.intro b0 hw0))
  clear g0 b0 hw0
  by_cases h0 : n < 0
  · have HF := Lib.hid (new_no (n := n) (by omega) H.out.1)
    go_enter Try.func17, Try.ntmps17
    go_wp2_with fail
    rw [H.out.2.2]
    go_wp2_with fail
    exact bodyPost_ret (v := .tuple #[wdC none 0 0 none 0 0 none 0 0, .int .i64 2]) (by simp [results, Try.results17, go_sem, u0, u1, u2]) rfl HF.out
  · by_cases h1 : 1024 < n
    · have HF := Lib.hid (new_no (n := n) (by omega) H.out.1)
      go_enter Try.func17, Try.ntmps17
      go_wp2_with fail
      rw [H.out.2.2]
      go_wp2_with fail
      exact bodyPost_ret (v := .tuple #[wdC none 0 0 none 0 0 none 0 0, .int .i64 2]) (by simp [results, Try.results17, go_sem, u0, u1, u2]) rfl HF.out
    · obtain ⟨m, rfl⟩ := Int.eq_ofNat_of_zero_le (show 0 ≤ n by omega)
      have hm : m ≤ 1024 := by omega
      have hmk := mkInts m hm
      have l0 : w.heap.size < w0.heap.size := (Array.getElem?_eq_some_iff.1 H.out.2.1).1
      clear h0 h1
      have d1 : decide ((m : Int) < 0) = false := by simp
      have d2 : decide (1024 < (m : Int)) = false := by simp; omega
      have H2 := Lib.hid (keepB H.out.2.1 (World.grownBy_alloc w0 (.cells (Array.replicate m (Value.int .i64 0)) 3) none))
      go_enter Try.func17, Try.ntmps17
      go_wp2_with fail
      rw [H.out.2.2]
      go_wp2_with fail
      go_region_with (go_at_call 35; refine (rNew_any _).mono ?_; rintro e w1 ⟨A1, n1, c1, A2, n2, c2, rfl, g1, s1, s2⟩; unfold id; (first | have b1 := keepD g1 H.out.2.1 | have b1 := keepD g1 H2.out); have v0 := cell_of_row w1 _ 0 _ _ _ b1; have v1 := cell_of_row w1 _ 1 _ _ _ b1; have v2 := cell_of_row w1 _ 2 _ _ _ b1; have q0 := frozen_of_row w1 _ 0 _ _ b1; have q1 := frozen_of_row w1 _ 1 _ _ b1; have q2 := frozen_of_row w1 _ 2 _ _ b1; have l1 := (Array.getElem?_eq_some_iff.1 b1).1; have HG := Lib.hid (And.intro g1 (And.intro s1 (And.intro s2 b1))); clear g1 s1 s2 b1; simp at v0 v1 v2)
      · have hz := keepD (W := w0.alloc (.cells (Array.replicate m (Value.int .i64 0)) 3)) HG.out.1 (heap_alloc_new _ _)
        have HF := Lib.hid (new_yes hm (zInt_sl hm hz) HG.out.2.1 HG.out.2.2.1 ((H.out.1.trans (World.grownBy_alloc w0 _ none)).trans (drew_grown HG.out.1)) (Nat.le_refl _) HG.out.2.2.2)
        clear hz
        go_wp2_with fail
        exact bodyPost_ret (v := .tuple #[wdC (some ⟨w0.heap.size, 0, none⟩) m m A1 n1 c1 A2 n2 c2, .int .i64 0]) (by simp [results, Try.results17, go_sem, v0, v1, v2]) rfl HF.out
      · have HF := Lib.hid (new_yes2 (n := m) (e := 3) hm HG.out.2.1 HG.out.2.2.1 (H.out.1.trans (drew_grown HG.out.1)) (Nat.le_refl _) HG.out.2.2.2)
        go_wp2_with fail
        exact bodyPost_ret (v := .tuple #[wdC (some ⟨w1.heap.size, 0, none⟩) m m A1 n1 c1 A2 n2 c2, .int .i64 0]) (by simp [results, Try.results17, go_sem, v0, v1, v2, l1]) rfl HF.out
end Go.Proofs.Ytflenopenifofaa
