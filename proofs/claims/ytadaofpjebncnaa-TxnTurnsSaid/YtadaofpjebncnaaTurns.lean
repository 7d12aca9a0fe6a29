/- The law TxnTurns, walked: puts of unlike keys may be turned about. No condition. -/
import Derived.Test.YtadaofpjebncnaaSame
namespace Go.Proofs.Ytadaofpjebncnaa
open Go Go.RowKit Go.Deep
attribute [local go_sem] cell?_ext frozen?_ext

set_option maxRecDepth 100000 in
set_option maxHeartbeats 40000000 in
theorem turns_any (w : World) (i s : Int) (A : Option Addr) (n c : Nat) (ws : List Wr) (hw : Sl EW w (· < w.heap.size) A n c ws) (id : Int) (a b : Wr) :
    Calls Try.prog 5 #[txC i s A n c, .int .i64 id, .agg #[.int .i64 a.k, .int .i64 a.v], .agg #[.int .i64 b.k, .int .i64 b.v]] w fun e w' => e = .returned (.bool true) ∧ Below w.heap.size w w' := by
  have hl := hw.length
  obtain ⟨w0, hw0⟩ : ∃ w0, pushes w [.cells #[.int .i64 i, .int .i64 s, .slice A n c] 24, .cells #[.int .i64 a.k, .int .i64 a.v] 36, .cells #[.int .i64 b.k, .int .i64 b.v] 36] = w0 := ⟨_, rfl⟩
  have rt_0 : w0.heap[w.heap.size]? = some (.cells #[.int .i64 i, .int .i64 s, .slice A n c] 24 (0, 0)) := by rw [← hw0]; exact pushes_at w (i := 0) rfl
  have ra_0 : w0.heap[w.heap.size + 1]? = some (.cells #[.int .i64 a.k, .int .i64 a.v] 36 (0, 0)) := by rw [← hw0]; exact pushes_at w (i := 1) rfl
  have rb_0 : w0.heap[w.heap.size + 1 + 1]? = some (.cells #[.int .i64 b.k, .int .i64 b.v] 36 (0, 0)) := by rw [← hw0]; exact pushes_at w (i := 2) rfl
  have g0 : w.grownBy w0 none := by rw [← hw0]; exact pushes_grown _ _
  simp only [pushes] at hw0
  have sT_0 := hw.on g0
  have R0 := Lib.hid (And.intro rt_0 (And.intro ra_0 rb_0))
  have G0 := Lib.hid (And.intro g0 (And.intro sT_0 (And.intro hw0 hl)))
  clear rt_0 ra_0 rb_0 g0 sT_0 hw0 hl hw
  go_enter Try.func5, Try.ntmps5
  go_wp2_with fail
  rw [G0.out.2.2.1]
  refine (great_any i s A n c w0).mono ?_
  rintro e w1 ⟨rfl, g1⟩
  have rt_1 := (g1.block _ (Array.getElem?_eq_some_iff.1 R0.out.1).1 (by simp)).trans R0.out.1
  have ra_1 := (g1.block _ (Array.getElem?_eq_some_iff.1 R0.out.2.1).1 (by simp)).trans R0.out.2.1
  have rb_1 := (g1.block _ (Array.getElem?_eq_some_iff.1 R0.out.2.2).1 (by simp)).trans R0.out.2.2
  have R1 := Lib.hid (And.intro rt_1 (And.intro ra_1 rb_1))
  clear rt_1 ra_1 rb_1
  have G1 := Lib.hid (And.intro (G0.out.1.trans g1) (G0.out.2.1.on g1))
  clear g1
  have ct0 := cell_of_row w1 _ 0 _ _ _ R1.out.1
  have ct1 := cell_of_row w1 _ 1 _ _ _ R1.out.1
  have ct2 := cell_of_row w1 _ 2 _ _ _ R1.out.1
  have ca0 := cell_of_row w1 _ 0 _ _ _ R1.out.2.1
  have ca1 := cell_of_row w1 _ 1 _ _ _ R1.out.2.1
  have cb0 := cell_of_row w1 _ 0 _ _ _ R1.out.2.2
  have cb1 := cell_of_row w1 _ 1 _ _ _ R1.out.2.2
  simp at ct0 ct1 ct2 ca0 ca1 cb0 cb1
  by_cases hn : 40 < n
  · have hn' : (40 : Int) < (n : Int) := by omega
    have hd : decide ((40 : Int) < (n : Int)) = true := by simp; omega
    rw [hd]
    go_wp2_with fail
    refine (wakes_any _).mono ?_
    rintro e w2 ⟨rfl, g2⟩
    go_wp2_with fail
    go_ret
    exact ⟨rfl, grown_below (G1.out.1.trans g2)⟩
  have hd : decide ((40 : Int) < (n : Int)) = false := by simp; omega
  rw [hd]
  by_cases hab : a.k = b.k
  · have hb : (a.k == b.k) = true := by simp [hab]
    clear hab
    go_wp2_with fail
    refine (wakes_any _).mono ?_
    rintro e w2 ⟨rfl, g2⟩
    go_wp2_with fail
    go_ret
    exact ⟨rfl, grown_below (G1.out.1.trans g2)⟩
  have hb : (a.k == b.k) = false := by simp [hab]
  have Hab := Lib.hid hab
  clear hab hd
  go_wp2_with fail
  refine (Put_any i s A n c ws id a.k a.v w1 G1.out.2 (by omega)).mono ?_
  rintro e w2 ⟨x, rfl, g2, hx1, hx2⟩
  have rt_2 := (g2.block _ (Array.getElem?_eq_some_iff.1 R1.out.1).1 (by simp)).trans R1.out.1
  have ra_2 := (g2.block _ (Array.getElem?_eq_some_iff.1 R1.out.2.1).1 (by simp)).trans R1.out.2.1
  have rb_2 := (g2.block _ (Array.getElem?_eq_some_iff.1 R1.out.2.2).1 (by simp)).trans R1.out.2.2
  have R2 := Lib.hid (And.intro rt_2 (And.intro ra_2 rb_2))
  clear rt_2 ra_2 rb_2
  clear ct0 ct1 ct2 ca0 ca1 cb0 cb1
  have G2 := Lib.hid (And.intro (G1.out.1.trans g2) (G1.out.2.on g2))
  clear g2
  obtain ⟨e1, he1⟩ : ∃ e1, putE i s ws id a.k a.v = e1 := ⟨_, rfl⟩
  rw [he1] at hx1 hx2 ⊢
  by_cases h1 : e1 = 0
  rotate_left
  · obtain rfl := hx1 h1
    have hb1 : (e1 != 0) = true := by simp [h1]
    clear hx1 hx2 he1 h1
    go_wp2_with fail
    refine (wakes_any _).mono ?_
    rintro e w3 ⟨rfl, g3⟩
    go_wp2_with fail
    go_ret
    exact ⟨rfl, grown_below ((G2.out.1.trans (World.grownBy_alloc _ _ none)).trans g3)⟩
  subst h1
  obtain ⟨p1, p2, p3, p4⟩ := put_turns (vb := b.v) Hab.out he1
  obtain ⟨Ax, cx, rfl, sx⟩ := hx2 rfl
  rw [p2] at sx ⊢
  have hlx : (ins a.k a.v ws).length ≤ 4 := by
    have h := put_fits he1
    have h' := he1
    rw [h.1] at h'
    exact (written_of (put_opened h.2 h').1.ws).1
  obtain ⟨X, hX⟩ : ∃ X, ins a.k a.v ws = X := ⟨_, rfl⟩
  rw [hX] at sx p1 p3 p4 hlx ⊢
  have P := Lib.hid (And.intro p1 (And.intro p3 p4))
  clear p1 p2 p3 p4 hx1 hx2 he1 hX
  have ca0 := cell_of_row w2 _ 0 _ _ _ R2.out.2.1
  have ca1 := cell_of_row w2 _ 1 _ _ _ R2.out.2.1
  simp at ca0 ca1
  have la := (Array.getElem?_eq_some_iff.1 R2.out.2.1).1
  have hbe : ((0 : Int) != 0) = false := by decide
  go_wp2_with fail
  have gq := World.grownBy_alloc w2 (.cells #[.int .i64 i, .int .i64 s, .slice Ax X.length cx] 24) none
  have rq := heap_alloc_new w2 (.cells #[.int .i64 i, .int .i64 s, .slice Ax X.length cx] 24)
  generalize hq : w2.alloc (.cells #[.int .i64 i, .int .i64 s, .slice Ax X.length cx] 24) = w3 at gq rq ⊢
  clear hq
  generalize w2.heap.size = Bx at rq ⊢
  clear ca0 ca1 la
  have rt_3 := (gq.block _ (Array.getElem?_eq_some_iff.1 R2.out.1).1 (by simp)).trans R2.out.1
  have ra_3 := (gq.block _ (Array.getElem?_eq_some_iff.1 R2.out.2.1).1 (by simp)).trans R2.out.2.1
  have rb_3 := (gq.block _ (Array.getElem?_eq_some_iff.1 R2.out.2.2).1 (by simp)).trans R2.out.2.2
  have rx_3 := rq
  have R3 := Lib.hid (And.intro rt_3 (And.intro ra_3 (And.intro rb_3 rx_3)))
  clear rt_3 ra_3 rb_3 rx_3
  have G3 := Lib.hid (And.intro (G2.out.1.trans gq) (And.intro (G2.out.2.on gq) ((sx.more (fun b hb => hb.2)).on gq)))
  clear gq rq
  refine (Put_any i s Ax X.length cx X id a.k a.v w3 G3.out.2.2 (by omega)).mono ?_
  rintro e w4 ⟨x4, rfl, gp, hx1, hx2⟩
  have rt_4 := (gp.block _ (Array.getElem?_eq_some_iff.1 R3.out.1).1 (by simp)).trans R3.out.1
  have ra_4 := (gp.block _ (Array.getElem?_eq_some_iff.1 R3.out.2.1).1 (by simp)).trans R3.out.2.1
  have rb_4 := (gp.block _ (Array.getElem?_eq_some_iff.1 R3.out.2.2.1).1 (by simp)).trans R3.out.2.2.1
  have rx_4 := (gp.block _ (Array.getElem?_eq_some_iff.1 R3.out.2.2.2).1 (by simp)).trans R3.out.2.2.2
  have R4 := Lib.hid (And.intro rt_4 (And.intro ra_4 (And.intro rb_4 rx_4)))
  clear rt_4 ra_4 rb_4 rx_4
  have G4 := Lib.hid (And.intro (G3.out.1.trans gp) (And.intro (G3.out.2.1.on gp) (G3.out.2.2.on gp)))
  clear gp
  rw [P.out.1, P.out.2.1] at hx2
  obtain ⟨Ag, cg, rfl, sg⟩ := hx2 rfl
  rw [P.out.1]
  have cx0 := cell_of_row w4 _ 0 _ _ _ R4.out.2.2.2
  have cx1 := cell_of_row w4 _ 1 _ _ _ R4.out.2.2.2
  have cx2 := cell_of_row w4 _ 2 _ _ _ R4.out.2.2.2
  simp at cx0 cx1 cx2
  have lx := (Array.getElem?_eq_some_iff.1 R4.out.2.2.2).1
  go_wp2_with fail
  have gq := World.grownBy_alloc w4 (.cells #[.int .i64 i, .int .i64 s, .slice Ag X.length cg] 24) none
  have rq := heap_alloc_new w4 (.cells #[.int .i64 i, .int .i64 s, .slice Ag X.length cg] 24)
  generalize hq : w4.alloc (.cells #[.int .i64 i, .int .i64 s, .slice Ag X.length cg] 24) = w5 at gq rq ⊢
  clear hq
  generalize w4.heap.size = Bg at rq ⊢
  clear cx0 cx1 cx2 lx
  have rt_5 := (gq.block _ (Array.getElem?_eq_some_iff.1 R4.out.1).1 (by simp)).trans R4.out.1
  have ra_5 := (gq.block _ (Array.getElem?_eq_some_iff.1 R4.out.2.1).1 (by simp)).trans R4.out.2.1
  have rb_5 := (gq.block _ (Array.getElem?_eq_some_iff.1 R4.out.2.2.1).1 (by simp)).trans R4.out.2.2.1
  have rx_5 := (gq.block _ (Array.getElem?_eq_some_iff.1 R4.out.2.2.2).1 (by simp)).trans R4.out.2.2.2
  have rg_5 := rq
  have R5 := Lib.hid (And.intro rt_5 (And.intro ra_5 (And.intro rb_5 (And.intro rx_5 rg_5))))
  clear rt_5 ra_5 rb_5 rx_5 rg_5
  have G5 := Lib.hid (And.intro (G4.out.1.trans gq) (And.intro (G4.out.2.1.on gq) (And.intro (G4.out.2.2.on gq) ((sg.more (fun b hb => hb.2)).on gq))))
  clear gq rq
  refine (Same_any i s Ag Ax X.length cg X.length cx X w5 G5.out.2.2.2 G5.out.2.2.1 (by omega)).mono ?_
  rintro e w6 ⟨rfl, gp⟩
  have rt_6 := (gp.block _ (Array.getElem?_eq_some_iff.1 R5.out.1).1 (by simp)).trans R5.out.1
  have ra_6 := (gp.block _ (Array.getElem?_eq_some_iff.1 R5.out.2.1).1 (by simp)).trans R5.out.2.1
  have rb_6 := (gp.block _ (Array.getElem?_eq_some_iff.1 R5.out.2.2.1).1 (by simp)).trans R5.out.2.2.1
  have rx_6 := (gp.block _ (Array.getElem?_eq_some_iff.1 R5.out.2.2.2.1).1 (by simp)).trans R5.out.2.2.2.1
  have rg_6 := (gp.block _ (Array.getElem?_eq_some_iff.1 R5.out.2.2.2.2).1 (by simp)).trans R5.out.2.2.2.2
  have R6 := Lib.hid (And.intro rt_6 (And.intro ra_6 (And.intro rb_6 (And.intro rx_6 rg_6))))
  clear rt_6 ra_6 rb_6 rx_6 rg_6
  have G6 := Lib.hid (And.intro (G5.out.1.trans gp) (And.intro (G5.out.2.1.on gp) (And.intro (G5.out.2.2.1.on gp) (G5.out.2.2.2.on gp))))
  clear gp
  have cb0 := cell_of_row w6 _ 0 _ _ _ R6.out.2.2.1
  have cb1 := cell_of_row w6 _ 1 _ _ _ R6.out.2.2.1
  have cx0 := cell_of_row w6 _ 0 _ _ _ R6.out.2.2.2.1
  have cx1 := cell_of_row w6 _ 1 _ _ _ R6.out.2.2.2.1
  have cx2 := cell_of_row w6 _ 2 _ _ _ R6.out.2.2.2.1
  simp at cb0 cb1 cx0 cx1 cx2
  go_wp2_with fail
  refine (Put_any i s Ax X.length cx X id b.k b.v w6 G6.out.2.2.1 (by omega)).mono ?_
  rintro e w7 ⟨x7, rfl, gp, hx1, hx2⟩
  clear cb0 cb1 cx0 cx1 cx2
  have rt_7 := (gp.block _ (Array.getElem?_eq_some_iff.1 R6.out.1).1 (by simp)).trans R6.out.1
  have ra_7 := (gp.block _ (Array.getElem?_eq_some_iff.1 R6.out.2.1).1 (by simp)).trans R6.out.2.1
  have rb_7 := (gp.block _ (Array.getElem?_eq_some_iff.1 R6.out.2.2.1).1 (by simp)).trans R6.out.2.2.1
  have rx_7 := (gp.block _ (Array.getElem?_eq_some_iff.1 R6.out.2.2.2.1).1 (by simp)).trans R6.out.2.2.2.1
  have rg_7 := (gp.block _ (Array.getElem?_eq_some_iff.1 R6.out.2.2.2.2).1 (by simp)).trans R6.out.2.2.2.2
  have R7 := Lib.hid (And.intro rt_7 (And.intro ra_7 (And.intro rb_7 (And.intro rx_7 rg_7))))
  clear rt_7 ra_7 rb_7 rx_7 rg_7
  have G7 := Lib.hid (And.intro (G6.out.1.trans gp) (And.intro (G6.out.2.1.on gp) (And.intro (G6.out.2.2.1.on gp) (G6.out.2.2.2.on gp))))
  clear gp
  obtain ⟨e2, he2⟩ : ∃ e2, putE i s X id b.k b.v = e2 := ⟨_, rfl⟩
  rw [he2] at hx1 hx2 ⊢
  by_cases h2 : e2 = 0
  rotate_left
  · obtain rfl := hx1 h2
    have hb1 : (e2 != 0) = true := by simp [h2]
    clear hx1 hx2 he2 h2
    go_wp2_with fail
    refine (wakes_any _).mono ?_
    rintro e w8 ⟨rfl, g8⟩
    go_wp2_with fail
    go_ret
    exact ⟨rfl, grown_below ((G7.out.1.trans (World.grownBy_alloc _ _ none)).trans g8)⟩
  subst h2
  obtain ⟨q1, q2, q3, q4, q5⟩ := P.out.2.2 he2
  obtain ⟨Ay, cy, rfl, sy⟩ := hx2 rfl
  rw [q3] at sy ⊢
  rw [q4.symm] at q2 q5
  obtain ⟨Y, hY⟩ : ∃ Y, ins b.k b.v X = Y := ⟨_, rfl⟩
  rw [hY] at sy q5 ⊢
  obtain ⟨Z, hZ⟩ : ∃ Z, putL ws b.k b.v = Z := ⟨_, rfl⟩
  rw [hZ] at q2 q5
  have hly : Y.length ≤ 4 := by
    rw [← hY]
    have := put_fits he2
    rw [this.1] at he2
    exact (written_of (put_opened this.2 he2).1.ws).1
  have hlz : Z.length ≤ 4 := by
    rw [← hZ, q4]
    have := put_fits q1
    rw [this.1] at q1
    exact (written_of (put_opened this.2 q1).1.ws).1
  have Q := Lib.hid (And.intro q1 (And.intro q2 (And.intro q5 hZ)))
  clear q1 q2 q3 q4 q5 hx1 hx2 he2 hY hZ
  have ct0 := cell_of_row w7 _ 0 _ _ _ R7.out.1
  have ct1 := cell_of_row w7 _ 1 _ _ _ R7.out.1
  have ct2 := cell_of_row w7 _ 2 _ _ _ R7.out.1
  have cb0 := cell_of_row w7 _ 0 _ _ _ R7.out.2.2.1
  have cb1 := cell_of_row w7 _ 1 _ _ _ R7.out.2.2.1
  simp at ct0 ct1 ct2 cb0 cb1
  have lt := (Array.getElem?_eq_some_iff.1 R7.out.1).1
  have lb := (Array.getElem?_eq_some_iff.1 R7.out.2.2.1).1
  go_wp2_with fail
  have gq := World.grownBy_alloc w7 (.cells #[.int .i64 i, .int .i64 s, .slice Ay Y.length cy] 24) none
  have rq := heap_alloc_new w7 (.cells #[.int .i64 i, .int .i64 s, .slice Ay Y.length cy] 24)
  generalize hq : w7.alloc (.cells #[.int .i64 i, .int .i64 s, .slice Ay Y.length cy] 24) = w8 at gq rq ⊢
  clear hq
  generalize w7.heap.size = By at rq ⊢
  clear ct0 ct1 ct2 cb0 cb1 lt lb
  have rt_8 := (gq.block _ (Array.getElem?_eq_some_iff.1 R7.out.1).1 (by simp)).trans R7.out.1
  have ra_8 := (gq.block _ (Array.getElem?_eq_some_iff.1 R7.out.2.1).1 (by simp)).trans R7.out.2.1
  have rb_8 := (gq.block _ (Array.getElem?_eq_some_iff.1 R7.out.2.2.1).1 (by simp)).trans R7.out.2.2.1
  have rx_8 := (gq.block _ (Array.getElem?_eq_some_iff.1 R7.out.2.2.2.1).1 (by simp)).trans R7.out.2.2.2.1
  have rg_8 := (gq.block _ (Array.getElem?_eq_some_iff.1 R7.out.2.2.2.2).1 (by simp)).trans R7.out.2.2.2.2
  have ry_8 := rq
  have R8 := Lib.hid (And.intro rt_8 (And.intro ra_8 (And.intro rb_8 (And.intro rx_8 (And.intro rg_8 ry_8)))))
  clear rt_8 ra_8 rb_8 rx_8 rg_8 ry_8
  have G8 := Lib.hid (And.intro (G7.out.1.trans gq) (And.intro (G7.out.2.1.on gq) (And.intro (G7.out.2.2.1.on gq) (And.intro (G7.out.2.2.2.on gq) ((sy.more (fun b hb => hb.2)).on gq)))))
  clear gq rq
  refine (Put_any i s A n c ws id b.k b.v w8 G8.out.2.1 (by omega)).mono ?_
  rintro e w9 ⟨x9, rfl, gp, hx1, hx2⟩
  have rt_9 := (gp.block _ (Array.getElem?_eq_some_iff.1 R8.out.1).1 (by simp)).trans R8.out.1
  have ra_9 := (gp.block _ (Array.getElem?_eq_some_iff.1 R8.out.2.1).1 (by simp)).trans R8.out.2.1
  have rb_9 := (gp.block _ (Array.getElem?_eq_some_iff.1 R8.out.2.2.1).1 (by simp)).trans R8.out.2.2.1
  have rx_9 := (gp.block _ (Array.getElem?_eq_some_iff.1 R8.out.2.2.2.1).1 (by simp)).trans R8.out.2.2.2.1
  have rg_9 := (gp.block _ (Array.getElem?_eq_some_iff.1 R8.out.2.2.2.2.1).1 (by simp)).trans R8.out.2.2.2.2.1
  have ry_9 := (gp.block _ (Array.getElem?_eq_some_iff.1 R8.out.2.2.2.2.2).1 (by simp)).trans R8.out.2.2.2.2.2
  have R9 := Lib.hid (And.intro rt_9 (And.intro ra_9 (And.intro rb_9 (And.intro rx_9 (And.intro rg_9 ry_9)))))
  clear rt_9 ra_9 rb_9 rx_9 rg_9 ry_9
  have G9 := Lib.hid (And.intro (G8.out.1.trans gp) (And.intro (G8.out.2.1.on gp) (And.intro (G8.out.2.2.1.on gp) (And.intro (G8.out.2.2.2.1.on gp) (G8.out.2.2.2.2.on gp)))))
  clear gp
  rw [Q.out.1, Q.out.2.2.2] at hx2
  obtain ⟨Az, cz, rfl, sz⟩ := hx2 rfl
  rw [Q.out.1]
  have ca0 := cell_of_row w9 _ 0 _ _ _ R9.out.2.1
  have ca1 := cell_of_row w9 _ 1 _ _ _ R9.out.2.1
  simp at ca0 ca1
  have la := (Array.getElem?_eq_some_iff.1 R9.out.2.1).1
  go_wp2_with fail
  have gq := World.grownBy_alloc w9 (.cells #[.int .i64 i, .int .i64 s, .slice Az Z.length cz] 24) none
  have rq := heap_alloc_new w9 (.cells #[.int .i64 i, .int .i64 s, .slice Az Z.length cz] 24)
  generalize hq : w9.alloc (.cells #[.int .i64 i, .int .i64 s, .slice Az Z.length cz] 24) = w10 at gq rq ⊢
  clear hq
  generalize w9.heap.size = Bz at rq ⊢
  clear ca0 ca1 la
  have rt_10 := (gq.block _ (Array.getElem?_eq_some_iff.1 R9.out.1).1 (by simp)).trans R9.out.1
  have ra_10 := (gq.block _ (Array.getElem?_eq_some_iff.1 R9.out.2.1).1 (by simp)).trans R9.out.2.1
  have rb_10 := (gq.block _ (Array.getElem?_eq_some_iff.1 R9.out.2.2.1).1 (by simp)).trans R9.out.2.2.1
  have rx_10 := (gq.block _ (Array.getElem?_eq_some_iff.1 R9.out.2.2.2.1).1 (by simp)).trans R9.out.2.2.2.1
  have rg_10 := (gq.block _ (Array.getElem?_eq_some_iff.1 R9.out.2.2.2.2.1).1 (by simp)).trans R9.out.2.2.2.2.1
  have ry_10 := (gq.block _ (Array.getElem?_eq_some_iff.1 R9.out.2.2.2.2.2).1 (by simp)).trans R9.out.2.2.2.2.2
  have rz_10 := rq
  have R10 := Lib.hid (And.intro rt_10 (And.intro ra_10 (And.intro rb_10 (And.intro rx_10 (And.intro rg_10 (And.intro ry_10 rz_10))))))
  clear rt_10 ra_10 rb_10 rx_10 rg_10 ry_10 rz_10
  have G10 := Lib.hid (And.intro (G9.out.1.trans gq) (And.intro (G9.out.2.1.on gq) (And.intro (G9.out.2.2.1.on gq) (And.intro (G9.out.2.2.2.1.on gq) (And.intro (G9.out.2.2.2.2.on gq) ((sz.more (fun b hb => hb.2)).on gq))))))
  clear gq rq
  refine (Put_any i s Az Z.length cz Z id a.k a.v w10 G10.out.2.2.2.2.2 (by omega)).mono ?_
  rintro e w11 ⟨x11, rfl, gp, hx1, hx2⟩
  have rt_11 := (gp.block _ (Array.getElem?_eq_some_iff.1 R10.out.1).1 (by simp)).trans R10.out.1
  have ra_11 := (gp.block _ (Array.getElem?_eq_some_iff.1 R10.out.2.1).1 (by simp)).trans R10.out.2.1
  have rb_11 := (gp.block _ (Array.getElem?_eq_some_iff.1 R10.out.2.2.1).1 (by simp)).trans R10.out.2.2.1
  have rx_11 := (gp.block _ (Array.getElem?_eq_some_iff.1 R10.out.2.2.2.1).1 (by simp)).trans R10.out.2.2.2.1
  have rg_11 := (gp.block _ (Array.getElem?_eq_some_iff.1 R10.out.2.2.2.2.1).1 (by simp)).trans R10.out.2.2.2.2.1
  have ry_11 := (gp.block _ (Array.getElem?_eq_some_iff.1 R10.out.2.2.2.2.2.1).1 (by simp)).trans R10.out.2.2.2.2.2.1
  have rz_11 := (gp.block _ (Array.getElem?_eq_some_iff.1 R10.out.2.2.2.2.2.2).1 (by simp)).trans R10.out.2.2.2.2.2.2
  have R11 := Lib.hid (And.intro rt_11 (And.intro ra_11 (And.intro rb_11 (And.intro rx_11 (And.intro rg_11 (And.intro ry_11 rz_11))))))
  clear rt_11 ra_11 rb_11 rx_11 rg_11 ry_11 rz_11
  have G11 := Lib.hid (And.intro (G10.out.1.trans gp) (And.intro (G10.out.2.1.on gp) (And.intro (G10.out.2.2.1.on gp) (And.intro (G10.out.2.2.2.1.on gp) (And.intro (G10.out.2.2.2.2.1.on gp) (G10.out.2.2.2.2.2.on gp))))))
  clear gp
  rw [Q.out.2.1, Q.out.2.2.1] at hx2
  obtain ⟨Av, cv, rfl, sv⟩ := hx2 rfl
  rw [Q.out.2.1]
  have cy0 := cell_of_row w11 _ 0 _ _ _ R11.out.2.2.2.2.2.1
  have cy1 := cell_of_row w11 _ 1 _ _ _ R11.out.2.2.2.2.2.1
  have cy2 := cell_of_row w11 _ 2 _ _ _ R11.out.2.2.2.2.2.1
  simp at cy0 cy1 cy2
  have ly := (Array.getElem?_eq_some_iff.1 R11.out.2.2.2.2.2.1).1
  go_wp2_with fail
  have gq := World.grownBy_alloc w11 (.cells #[.int .i64 i, .int .i64 s, .slice Av Y.length cv] 24) none
  have rq := heap_alloc_new w11 (.cells #[.int .i64 i, .int .i64 s, .slice Av Y.length cv] 24)
  generalize hq : w11.alloc (.cells #[.int .i64 i, .int .i64 s, .slice Av Y.length cv] 24) = w12 at gq rq ⊢
  clear hq
  generalize w11.heap.size = Bv at rq ⊢
  clear cy0 cy1 cy2 ly
  have rt_12 := (gq.block _ (Array.getElem?_eq_some_iff.1 R11.out.1).1 (by simp)).trans R11.out.1
  have ra_12 := (gq.block _ (Array.getElem?_eq_some_iff.1 R11.out.2.1).1 (by simp)).trans R11.out.2.1
  have rb_12 := (gq.block _ (Array.getElem?_eq_some_iff.1 R11.out.2.2.1).1 (by simp)).trans R11.out.2.2.1
  have rx_12 := (gq.block _ (Array.getElem?_eq_some_iff.1 R11.out.2.2.2.1).1 (by simp)).trans R11.out.2.2.2.1
  have rg_12 := (gq.block _ (Array.getElem?_eq_some_iff.1 R11.out.2.2.2.2.1).1 (by simp)).trans R11.out.2.2.2.2.1
  have ry_12 := (gq.block _ (Array.getElem?_eq_some_iff.1 R11.out.2.2.2.2.2.1).1 (by simp)).trans R11.out.2.2.2.2.2.1
  have rz_12 := (gq.block _ (Array.getElem?_eq_some_iff.1 R11.out.2.2.2.2.2.2).1 (by simp)).trans R11.out.2.2.2.2.2.2
  have rv_12 := rq
  have R12 := Lib.hid (And.intro rt_12 (And.intro ra_12 (And.intro rb_12 (And.intro rx_12 (And.intro rg_12 (And.intro ry_12 (And.intro rz_12 rv_12)))))))
  clear rt_12 ra_12 rb_12 rx_12 rg_12 ry_12 rz_12 rv_12
  have G12 := Lib.hid (And.intro (G11.out.1.trans gq) (And.intro (G11.out.2.1.on gq) (And.intro (G11.out.2.2.1.on gq) (And.intro (G11.out.2.2.2.1.on gq) (And.intro (G11.out.2.2.2.2.1.on gq) (And.intro (G11.out.2.2.2.2.2.on gq) ((sv.more (fun b hb => hb.2)).on gq)))))))
  clear gq rq
  refine (Same_any i s Ay Av Y.length cy Y.length cv Y w12 G12.out.2.2.2.2.1 G12.out.2.2.2.2.2.2 (by omega)).mono ?_
  rintro e w13 ⟨rfl, g13⟩
  have GE := Lib.hid (G12.out.1.trans g13)
  clear g13
  go_wp2_with fail
  refine (wakes_any _).mono ?_
  rintro e w14 ⟨rfl, g14⟩
  go_wp2_with fail
  go_ret
  exact ⟨rfl, grown_below (GE.out.trans g14)⟩
end Go.Proofs.Ytadaofpjebncnaa
