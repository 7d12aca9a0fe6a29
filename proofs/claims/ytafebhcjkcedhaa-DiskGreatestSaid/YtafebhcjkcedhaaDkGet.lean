/- Package disk: Get. No condition. -/
import Derived.Test.YtafebhcjkcedhaaDk3
namespace Go.Proofs.Ytafebhcjkcedhaa
open Go Go.RowKit Go.Deep
attribute [local go_sem] cell?_ext frozen?_ext

set_option maxHeartbeats 2000000 in
theorem Get_any (A1 : Option Addr) (n1 c1 : Nat) (A2 : Option Addr) (n2 c2 : Nat) (d : Dk) (k : Int) (w : World) (h1 : Sl ESec w (· < w.heap.size) A1 n1 c1 d.now) (h2 : Sl ESec w (· < w.heap.size) A2 n2 c2 d.sure) :
    Calls Try.prog 15 #[dkC A1 n1 c1 A2 n2 c2, .int .i64 k] w fun e w' => e = .returned (.tuple #[secC (getS d k), .int .i64 (getE d k)]) ∧ w.grownBy w' none := by
  have l1 := h1.length
  obtain ⟨w0, hw0⟩ : ∃ w0, pushes w [.cells #[.slice A1 n1 c1, .slice A2 n2 c2] 27, .cells #[.int .i64 0, .string ⟨#[]⟩] 36] = w0 := ⟨_, rfl⟩
  have g0 : w.grownBy w0 none := by rw [← hw0]; exact pushes_grown _ _
  have b0 : w0.heap[w.heap.size]? = some (.cells #[.slice A1 n1 c1, .slice A2 n2 c2] 27 (0, 0)) := by rw [← hw0]; exact pushes_at w (i := 0) rfl
  have b1 : w0.heap[w.heap.size + 1]? = some (.cells #[.int .i64 0, .string ⟨#[]⟩] 36 (0, 0)) := by rw [← hw0]; exact pushes_at w (i := 1) rfl
  simp only [pushes] at hw0
  have H := Lib.hid (And.intro g0 (And.intro b0 (And.intro b1 (And.intro (h1.on g0) (And.intro (h2.on g0) (And.intro l1 hw0))))))
  clear g0 b0 b1 h1 h2 l1 hw0
  go_enter Try.func15, Try.ntmps15
  go_wp2_with fail
  rw [H.out.2.2.2.2.2.2]
  refine (Check_any A1 n1 c1 A2 n2 c2 d w0 H.out.2.2.2.1 H.out.2.2.2.2.1).mono ?_
  rintro e w1 ⟨rfl, g1⟩
  have b0 := (g1.block _ (Array.getElem?_eq_some_iff.1 H.out.2.1).1 (by simp)).trans H.out.2.1
  have b1 := (g1.block _ (Array.getElem?_eq_some_iff.1 H.out.2.2.1).1 (by simp)).trans H.out.2.2.1
  have t0 := cell_of_row w1 _ 0 _ _ _ b0
  have u0 := cell_of_row w1 _ 0 _ _ _ b1
  have u1 := cell_of_row w1 _ 1 _ _ _ b1
  have f0 := frozen_of_row w1 _ 0 _ _ b1
  have f1 := frozen_of_row w1 _ 1 _ _ b1
  simp at t0 u0 u1
  have H1 := Lib.hid (And.intro (H.out.1.trans g1) (H.out.2.2.2.1.on g1))
  clear b0 b1 g1
  have g2 : ∀ u v, w.grownBy ((w1.setCell ⟨w.heap.size + 1, 0, none⟩ u).setCell ⟨w.heap.size + 1, 1, none⟩ v) none := fun u v => grown_set2 H1.out.1 (Nat.le_succ _) u v
  have H2 := Lib.hid g2
  clear g2
  cases ho : okD d
  · have hno := getB_no (d := d) (k := k) (by rw [ho]; simp)
    rw [chk_no ho]
    have HN := Lib.hid hno
    clear hno ho
    go_wp2_with fail
    exact bodyPost_ret (v := .tuple #[.agg #[.int .i64 0, .string ⟨#[]⟩], .int .i64 2]) (by simp [results, Try.results15, go_sem, u0, u1]) rfl ⟨by rw [HN.out.1, HN.out.2]; rfl, H2.out _ _⟩
  · rw [chk_yes ho]
    have HO := Lib.hid ho
    clear ho
    by_cases hk : 0 ≤ k ∧ k < 33
    · obtain ⟨k0, k1⟩ := hk
      obtain ⟨m, rfl⟩ := Int.eq_ofNat_of_zero_le k0
      have hl := (okD_len HO.out).1
      obtain rfl : n1 = 33 := by rw [← H.out.2.2.2.2.2.1]; exact hl
      obtain ⟨x, hx⟩ : ∃ x, d.now[m]? = some x := ⟨_, List.getElem?_eq_getElem (by omega)⟩
      have hy := getB_yes HO.out (k := m) (by omega)
      rw [getD_some hx] at hy
      obtain ⟨b, off, hA, hb, _, x0, x1⟩ := sec_at H1.out.2 hx
      have HY := Lib.hid hy
      subst hA
      clear hy hx hl
      go_wp2_with fail
      exact bodyPost_ret (v := .tuple #[.agg #[.int .i64 x.n, .string x.b], .int .i64 0]) (by simp [results, Try.results15, go_sem, u0, u1]) rfl ⟨by rw [HY.out.1, HY.out.2], H2.out _ _⟩
    · have HN := Lib.hid (getB_no (d := d) (k := k) fun h => hk h.2)
      rcases (by omega : k < 0 ∨ (0 ≤ k ∧ 33 ≤ k)) with h | ⟨h, h'⟩
      · clear hk
        go_wp2_with fail
        exact bodyPost_ret (v := .tuple #[.agg #[.int .i64 0, .string ⟨#[]⟩], .int .i64 2]) (by simp [results, Try.results15, go_sem, u0, u1]) rfl ⟨by rw [HN.out.1, HN.out.2]; rfl, H2.out _ _⟩
      · clear hk
        go_wp2_with fail
        exact bodyPost_ret (v := .tuple #[.agg #[.int .i64 0, .string ⟨#[]⟩], .int .i64 2]) (by simp [results, Try.results15, go_sem, u0, u1]) rfl ⟨by rw [HN.out.1, HN.out.2]; rfl, H2.out _ _⟩
end Go.Proofs.Ytafebhcjkcedhaa
