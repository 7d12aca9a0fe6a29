/- Package cell: Do. No condition. -/
import Derived.Test.YtflenopenifofaaWd3
import Derived.Test.YtflenopenifofaaWd4
namespace Go.Proofs.Ytflenopenifofaa
open Go Go.RowKit Go.Deep
attribute [local go_sem] cell?_ext frozen?_ext

def DoPost (x : Wd) (a : Aw) (w : World) : Ending → World → Prop := WdPost (doW x a) (fun v => .tuple #[v, .int .i64 (resW x a), .int .i64 (errW x a)]) w
theorem do_post {x y : Wd} {a : Aw} {r : Int} {w W : World} {A0 A1 A2 : Option Addr} {n0 c0 n1 c1 n2 c2 B : Nat} {C0 C1 C2 : Option Addr} {p0 q0 p1 q1 p2 q2 : Nat} {t : TypeId} (hm : mayW x a = true) (hy : doneW x a = y) (hr : gotW x a = r) (g : w.grownBy W none) (h : WS W A0 n0 c0 A1 n1 c1 A2 n2 c2 y) (lB : w.heap.size ≤ B) (hb : W.heap[B]? = some (.cells #[.slice C0 p0 q0, .slice C1 p1 q1, .slice C2 p2 q2] t (0, 0))) :
    DoPost x a w (.returned (.tuple #[wdC A0 n0 c0 A1 n1 c1 A2 n2 c2, .int .i64 r, .int .i64 0])) (((W.setCell ⟨B, 0, none⟩ (.slice A0 n0 c0)).setCell ⟨B, 1, none⟩ (.slice A1 n1 c1)).setCell ⟨B, 2, none⟩ (.slice A2 n2 c2)) := by
  unfold DoPost doW resW errW
  rw [if_pos hm, if_pos hm, if_pos hm, hy, hr]
  exact finW (f := fun v => .tuple #[v, .int .i64 r, .int .i64 0]) g h lB hb
/-- The lists of a world's disk, turned in its box. -/
theorem WS.disk {w : World} {A0 A1 A2 A3 A4 : Option Addr} {n0 c0 n1 c1 n2 c2 n3 c3 n4 c4 : Nat} {x : Wd} {d : Dk} (h : WS w A0 n0 c0 A1 n1 c1 A2 n2 c2 x) (s3 : Sl ESec w (· < w.heap.size) A3 n3 c3 d.now) (s4 : Sl ESec w (· < w.heap.size) A4 n4 c4 d.sure) : WS w A0 n0 c0 A3 n3 c3 A4 n4 c4 ⟨x.c, d⟩ := ⟨h.s0, s3, s4⟩
theorem set12_at {w : World} {g : Nat} {t : TypeId} {u0 u1 u2 : Value} (q : w.heap[g]? = some (.cells #[u0, u1, u2] t (0, 0))) (y z : Value) : ((w.setCell ⟨g, 1, none⟩ y).setCell ⟨g, 2, none⟩ z).heap[g]? = some (.cells #[u0, y, z] t (0, 0)) := by
  have h2 := heap_setCell_same _ g 1 _ _ y q
  have h3 := heap_setCell_same _ g 2 _ _ z h2
  exact h3
section
variable (x : Wd) (a b v g : Int) (t : ByteArray) (args : List Int) (m : Nat) {y : Int}
theorem done_4 : doneW x ⟨4, a, b, v, g, t, args⟩ = ⟨x.c, putD x.d a b t⟩ := by unfold doneW; rw [if_pos rfl]
theorem done_5 : doneW x ⟨5, a, b, v, g, t, args⟩ = ⟨x.c, crashD x.d 0⟩ := by unfold doneW; rw [if_neg (show ¬ (5 : Int) = 4 by decide), if_pos rfl]
theorem done_0 : doneW x ⟨0, a, b, v, g, t, args⟩ = x := by simp [doneW]
theorem done_1 : doneW x ⟨1, (m : Int), b, v, g, t, args⟩ = ⟨x.c.set m v, x.d⟩ := by simp [doneW]
theorem done_3 (hy : x.c.getD m 0 = y) : doneW x ⟨3, (m : Int), b, v, g, t, args⟩ = ⟨x.c.set m (clamp (y + v)), x.d⟩ := by subst hy; simp [doneW]
theorem done_3c {c : Int} (hy : x.c.getD m 0 = y) (hc : clamp (y + v) = c) : doneW x ⟨3, (m : Int), b, v, g, t, args⟩ = ⟨x.c.set m c, x.d⟩ := by rw [← hc]; exact done_3 (hy := hy) ..
theorem done_2y (hy : x.c.getD m 0 = y) (h : y = b) : doneW x ⟨2, (m : Int), b, v, g, t, args⟩ = ⟨x.c.set m v, x.d⟩ := by
  have h : x.c.getD m 0 = b := hy.trans h
  unfold doneW
  rw [if_neg (show ¬ (2 : Int) = 4 by decide), if_neg (show ¬ (2 : Int) = 5 by decide), if_neg (show ¬ (2 : Int) = 0 by decide), if_neg (show ¬ (2 : Int) = 1 by decide), if_neg (show ¬ (2 : Int) = 3 by decide)]
  exact if_pos h
theorem done_2n (hy : x.c.getD m 0 = y) (h : ¬ y = b) : doneW x ⟨2, (m : Int), b, v, g, t, args⟩ = x := by
  have h : ¬ x.c.getD m 0 = b := by rw [hy]; exact h
  unfold doneW
  rw [if_neg (show ¬ (2 : Int) = 4 by decide), if_neg (show ¬ (2 : Int) = 5 by decide), if_neg (show ¬ (2 : Int) = 0 by decide), if_neg (show ¬ (2 : Int) = 1 by decide), if_neg (show ¬ (2 : Int) = 3 by decide)]
  exact if_neg h
theorem got_4 : gotW x ⟨4, a, b, v, g, t, args⟩ = 0 := by simp [gotW]
theorem got_5 : gotW x ⟨5, a, b, v, g, t, args⟩ = 0 := by simp [gotW]
theorem got_0 (hy : x.c.getD m 0 = y) : gotW x ⟨0, (m : Int), b, v, g, t, args⟩ = y := by subst hy; simp [gotW]
theorem got_1 : gotW x ⟨1, a, b, v, g, t, args⟩ = 0 := by simp [gotW]
theorem got_3 (hy : x.c.getD m 0 = y) : gotW x ⟨3, (m : Int), b, v, g, t, args⟩ = y := by subst hy; simp [gotW]
theorem got_2y (hy : x.c.getD m 0 = y) (h : y = b) : gotW x ⟨2, (m : Int), b, v, g, t, args⟩ = 1 := by
  have h : x.c.getD m 0 = b := hy.trans h
  unfold gotW
  rw [if_neg (show ¬ (2 : Int) = 4 by decide), if_neg (show ¬ (2 : Int) = 5 by decide), if_neg (show ¬ (2 : Int) = 0 by decide), if_neg (show ¬ (2 : Int) = 1 by decide), if_neg (show ¬ (2 : Int) = 3 by decide)]
  exact if_pos h
theorem got_2n (hy : x.c.getD m 0 = y) (h : ¬ y = b) : gotW x ⟨2, (m : Int), b, v, g, t, args⟩ = 0 := by
  have h : ¬ x.c.getD m 0 = b := by rw [hy]; exact h
  unfold gotW
  rw [if_neg (show ¬ (2 : Int) = 4 by decide), if_neg (show ¬ (2 : Int) = 5 by decide), if_neg (show ¬ (2 : Int) = 0 by decide), if_neg (show ¬ (2 : Int) = 1 by decide), if_neg (show ¬ (2 : Int) = 3 by decide)]
  exact if_neg h
end

set_option maxRecDepth 100000 in
set_option maxHeartbeats 8000000 in
theorem DoW_no (A0 : Option Addr) (n0 c0 : Nat) (A1 : Option Addr) (n1 c1 : Nat) (A2 : Option Addr) (n2 c2 : Nat) (x : Wd) (k a b v g : Int) (t : ByteArray) (args : List Int) (Ar : Option Addr) (nr cr : Nat) (hr : args.length = nr) (ht : t.size ≤ maxLen) (w : World) (h : WS w A0 n0 c0 A1 n1 c1 A2 n2 c2 x) (hm : mayW x ⟨k, a, b, v, g, t, args⟩ = false) :
    Calls Try.prog 13 #[wdC A0 n0 c0 A1 n1 c1 A2 n2 c2, .agg #[.int .i8 k, .int .i64 a, .int .i64 b, .int .i64 v, .int .i64 g, .string t, .slice Ar nr cr]] w (DoPost x ⟨k, a, b, v, g, t, args⟩ w) := by
  have hnl := h.s0.length
  have hmay := fun W => MayW_any A0 n0 c0 A1 n1 c1 A2 n2 c2 x k a b v g t args Ar nr cr hr ht W
  obtain ⟨w0, hw0⟩ : ∃ w0, pushes w [.cells #[.slice A0 n0 c0, .slice A1 n1 c1, .slice A2 n2 c2] 27, .cells #[.int .i8 k, .int .i64 a, .int .i64 b, .int .i64 v, .int .i64 g, .string t, .slice Ar nr cr] 30, .cells #[.slice none 0 0, .slice none 0 0, .slice none 0 0] 27] = w0 := ⟨_, rfl⟩
  have g0 : w.grownBy w0 none := by rw [← hw0]; exact pushes_grown _ _
  have b0 : w0.heap[w.heap.size]? = some (.cells #[.slice A0 n0 c0, .slice A1 n1 c1, .slice A2 n2 c2] 27 (0, 0)) := by rw [← hw0]; exact pushes_at w (i := 0) rfl
  have b1 : w0.heap[w.heap.size + 1]? = some (.cells #[.int .i8 k, .int .i64 a, .int .i64 b, .int .i64 v, .int .i64 g, .string t, .slice Ar nr cr] 30 (0, 0)) := by rw [← hw0]; exact pushes_at w (i := 1) rfl
  have b2 : w0.heap[w.heap.size + 1 + 1]? = some (.cells #[.slice none 0 0, .slice none 0 0, .slice none 0 0] 27 (0, 0)) := by rw [← hw0]; exact pushes_at w (i := 2) rfl
  simp only [pushes] at hw0
  have H := Lib.hid (And.intro (h.on g0) (And.intro g0 (And.intro b0 (And.intro b1 (And.intro b2 hw0)))))
  have HMay := Lib.hid hmay
  have HN := Lib.hid hnl
  clear g0 b0 b1 b2 hw0 h hmay hnl
  go_enter Try.func13, Try.ntmps13
  go_wp2_with fail
  rw [H.out.2.2.2.2.2]
  refine (HMay.out w0 H.out.1).mono ?_
  rintro e w1 ⟨rfl, g1⟩
  rw [hm]
  have b0 := (g1.block _ (Array.getElem?_eq_some_iff.1 H.out.2.2.1).1 (by simp)).trans H.out.2.2.1
  have b1 := (g1.block _ (Array.getElem?_eq_some_iff.1 H.out.2.2.2.1).1 (by simp)).trans H.out.2.2.2.1
  have b2 := (g1.block _ (Array.getElem?_eq_some_iff.1 H.out.2.2.2.2.1).1 (by simp)).trans H.out.2.2.2.2.1
  have H1 := Lib.hid (And.intro (H.out.1.on g1) (And.intro (H.out.2.1.trans g1) (And.intro b0 (And.intro b1 b2))))
  have d0 := cell_of_row w1 _ 0 _ _ _ b0
  have d1 := cell_of_row w1 _ 1 _ _ _ b0
  have d2 := cell_of_row w1 _ 2 _ _ _ b0
  have t0 := cell_of_row w1 _ 0 _ _ _ b1
  have t1 := cell_of_row w1 _ 1 _ _ _ b1
  have t2 := cell_of_row w1 _ 2 _ _ _ b1
  have t3 := cell_of_row w1 _ 3 _ _ _ b1
  have t4 := cell_of_row w1 _ 4 _ _ _ b1
  have t5 := cell_of_row w1 _ 5 _ _ _ b1
  have t6 := cell_of_row w1 _ 6 _ _ _ b1
  have u0 := cell_of_row w1 _ 0 _ _ _ b2
  have u1 := cell_of_row w1 _ 1 _ _ _ b2
  have u2 := cell_of_row w1 _ 2 _ _ _ b2
  have f0 := frozen_of_row w1 _ 0 _ _ b2
  have f1 := frozen_of_row w1 _ 1 _ _ b2
  have f2 := frozen_of_row w1 _ 2 _ _ b2
  simp at d0 d1 d2 t0 t1 t2 t3 t4 t5 t6 u0 u1 u2
  have HMy := Lib.hid hm
  clear g1 b0 b1 b2 H hm
  have HF := Lib.hid (show DoPost x ⟨k, a, b, v, g, t, args⟩ w (.returned (.tuple #[wdC none 0 0 none 0 0 none 0 0, .int .i64 0, .int .i64 2])) (((w1.setCell ⟨w.heap.size + 1 + 1, 0, none⟩ (.slice none 0 0)).setCell ⟨w.heap.size + 1 + 1, 1, none⟩ (.slice none 0 0)).setCell ⟨w.heap.size + 1 + 1, 2, none⟩ (.slice none 0 0)) by
    unfold DoPost doW resW errW
    rw [HMy.out]
    exact finW (x := wdZ) (f := fun v => .tuple #[v, .int .i64 0, .int .i64 2]) H1.out.2.1 ⟨Sl.nil, Sl.nil, Sl.nil⟩ (by omega) H1.out.2.2.2.2)
  go_wp2_with fail
  exact bodyPost_ret (v := .tuple #[wdC none 0 0 none 0 0 none 0 0, .int .i64 0, .int .i64 2]) (by simp [results, Try.results13, go_sem, u0, u1, u2]) rfl HF.out

end Go.Proofs.Ytflenopenifofaa
