/- Package cell: Do, a part. No condition. -/
import Derived.Test.YtflenopenifofaaWd5
import Derived.Laws.Small
namespace Go.Proofs.Ytflenopenifofaa
open Go Go.RowKit Go.Deep
attribute [local go_sem] cell?_ext frozen?_ext

set_option maxRecDepth 100000 in
set_option maxHeartbeats 8000000 in
theorem DoW_1 (A0 : Option Addr) (n0 c0 : Nat) (A1 : Option Addr) (n1 c1 : Nat) (A2 : Option Addr) (n2 c2 : Nat) (x : Wd) (k a b v g : Int) (t : ByteArray) (args : List Int) (Ar : Option Addr) (nr cr : Nat) (hr : args.length = nr) (ht : t.size ≤ maxLen) (w : World) (h : WS w A0 n0 c0 A1 n1 c1 A2 n2 c2 x) (hk : k = 1) (hm : mayW x ⟨k, a, b, v, g, t, args⟩ = true) :
    Calls Try.prog 13 #[wdC A0 n0 c0 A1 n1 c1 A2 n2 c2, .agg #[.int .i8 k, .int .i64 a, .int .i64 b, .int .i64 v, .int .i64 g, .string t, .slice Ar nr cr]] w (DoPost x ⟨k, a, b, v, g, t, args⟩ w) := by
  subst hk
  have hkd := ((mayW_iff _ _).1 hm).2.2.2
  rw [kind_cell (show (1 : Int) = 0 ∨ (1 : Int) = 1 ∨ (1 : Int) = 2 ∨ (1 : Int) = 3 by decide)] at hkd
  obtain ⟨_, ha, hal, _, _, _, hfv⟩ := (cellB_iff _ _).1 hkd
  have hok := (okW_iff _).1 ((mayW_iff _ _).1 hm).1
  have ha : 0 ≤ a := ha
  have hal : a < ((x.c.length : Nat) : Int) := hal
  obtain ⟨m, rfl⟩ := Int.eq_ofNat_of_zero_le ha
  obtain ⟨y, hy⟩ : ∃ y, x.c[m]? = some y := ⟨_, List.getElem?_eq_getElem (by omega)⟩
  have hyd : x.c.getD m 0 = y := by simp [List.getD, hy]
  have hfy := (fitB_iff y).1 (hok.2.1 y (List.mem_of_getElem? hy))
  have hfv := (fitB_iff v).1 hfv
  have hn0 : n0 ≤ 1024 := by rw [← h.s0.length]; exact hok.1
  have hmn : m < n0 := by rw [← h.s0.length]; omega
  have HYd := Lib.hid (And.intro hyd hy)
  clear hkd hok ha hal hyd hy
  have hnl := h.s0.length
  have hmay := fun W => MayW_any A0 n0 c0 A1 n1 c1 A2 n2 c2 x 1 (m : Int) b v g t args Ar nr cr hr ht W
  obtain ⟨w0, hw0⟩ : ∃ w0, pushes w [.cells #[.slice A0 n0 c0, .slice A1 n1 c1, .slice A2 n2 c2] 27, .cells #[.int .i8 1, .int .i64 (m : Int), .int .i64 b, .int .i64 v, .int .i64 g, .string t, .slice Ar nr cr] 30, .cells #[.slice none 0 0, .slice none 0 0, .slice none 0 0] 27] = w0 := ⟨_, rfl⟩
  have g0 : w.grownBy w0 none := by rw [← hw0]; exact pushes_grown _ _
  have b0 : w0.heap[w.heap.size]? = some (.cells #[.slice A0 n0 c0, .slice A1 n1 c1, .slice A2 n2 c2] 27 (0, 0)) := by rw [← hw0]; exact pushes_at w (i := 0) rfl
  have b1 : w0.heap[w.heap.size + 1]? = some (.cells #[.int .i8 1, .int .i64 (m : Int), .int .i64 b, .int .i64 v, .int .i64 g, .string t, .slice Ar nr cr] 30 (0, 0)) := by rw [← hw0]; exact pushes_at w (i := 1) rfl
  have b2 : w0.heap[w.heap.size + 1 + 1]? = some (.cells #[.slice none 0 0, .slice none 0 0, .slice none 0 0] 27 (0, 0)) := by rw [← hw0]; exact pushes_at w (i := 2) rfl
  simp only [pushes] at hw0
  have H := Lib.hid (And.intro (h.on g0) (And.intro g0 (And.intro b0 (And.intro b1 (And.intro b2 hw0)))))
  have HMay := Lib.hid hmay
  have HN := Lib.hid hnl
  clear g0 b0 b1 b2 hw0 h hmay hnl
  go_enter Try.func13, Try.ntmps13
  go_wp2_with fail
  rw [H.out.2.2.2.2.2]
  refine (HMay.out w0 H.out.1).mono ?_
  rintro e w1 ⟨rfl, g1⟩
  rw [hm]
  have b0 := (g1.block _ (Array.getElem?_eq_some_iff.1 H.out.2.2.1).1 (by simp)).trans H.out.2.2.1
  have b1 := (g1.block _ (Array.getElem?_eq_some_iff.1 H.out.2.2.2.1).1 (by simp)).trans H.out.2.2.2.1
  have b2 := (g1.block _ (Array.getElem?_eq_some_iff.1 H.out.2.2.2.2.1).1 (by simp)).trans H.out.2.2.2.2.1
  have H1 := Lib.hid (And.intro (H.out.1.on g1) (And.intro (H.out.2.1.trans g1) (And.intro b0 (And.intro b1 b2))))
  have d0 := cell_of_row w1 _ 0 _ _ _ b0
  have d1 := cell_of_row w1 _ 1 _ _ _ b0
  have d2 := cell_of_row w1 _ 2 _ _ _ b0
  have t0 := cell_of_row w1 _ 0 _ _ _ b1
  have t1 := cell_of_row w1 _ 1 _ _ _ b1
  have t2 := cell_of_row w1 _ 2 _ _ _ b1
  have t3 := cell_of_row w1 _ 3 _ _ _ b1
  have t4 := cell_of_row w1 _ 4 _ _ _ b1
  have t5 := cell_of_row w1 _ 5 _ _ _ b1
  have t6 := cell_of_row w1 _ 6 _ _ _ b1
  have u0 := cell_of_row w1 _ 0 _ _ _ b2
  have u1 := cell_of_row w1 _ 1 _ _ _ b2
  have u2 := cell_of_row w1 _ 2 _ _ _ b2
  have f0 := frozen_of_row w1 _ 0 _ _ b2
  have f1 := frozen_of_row w1 _ 1 _ _ b2
  have f2 := frozen_of_row w1 _ 2 _ _ b2
  simp at d0 d1 d2 t0 t1 t2 t3 t4 t5 t6 u0 u1 u2
  have HMy := Lib.hid hm
  clear g1 b0 b1 b2 H hm
  obtain ⟨bc, oc, hA, hbc, c00⟩ := int_at H1.out.1.s0 HYd.out.2
  have i0 : (0 : Int) ≤ (m : Int) := by omega
  have i1 : (m : Int) < (n0 : Int) := by omega
  subst hA
  go_wp2_with fail
  refine (withW_any _ n0 c0 A1 n1 c1 A2 n2 c2 x m v w1 H1.out.1 (by omega) hmn).mono ?_
  rintro e w2 ⟨C0, p0, q0, C1, p1, q1, C2, p2, q2, rfl, g2, hW⟩
  have b2 := (g2.block _ (Array.getElem?_eq_some_iff.1 H1.out.2.2.2.2).1 (by simp)).trans H1.out.2.2.2.2
  clear d0 d1 d2 t0 t1 t2 t3 t4 t5 t6 u0 u1 u2 f0 f1 f2
  have u0 := cell_of_row w2 _ 0 _ _ _ b2
  have u1 := cell_of_row w2 _ 1 _ _ _ b2
  have u2 := cell_of_row w2 _ 2 _ _ _ b2
  have uf0 := frozen_of_row w2 _ 0 _ _ b2
  have uf1 := frozen_of_row w2 _ 1 _ _ b2
  have uf2 := frozen_of_row w2 _ 2 _ _ b2
  simp at u0 u1 u2
  have HF := Lib.hid (do_post HMy.out (done_1 ..) (got_1 ..) (H1.out.2.1.trans g2) hW (by omega : w.heap.size ≤ w.heap.size + 1 + 1) b2)
  clear g2 hW b2 c00 hfy hfv
  unfold id
  go_wp2_with fail
  exact bodyPost_ret (v := .tuple #[wdC C0 p0 q0 C1 p1 q1 C2 p2 q2, .int .i64 0, .int .i64 0]) (by simp [results, Try.results13, go_sem, u0, u1, u2]) rfl HF.out

end Go.Proofs.Ytflenopenifofaa
