/- CellAdds: whatever the arguments, the call returns true and changes nothing that was there. No condition. -/
import Derived.Test.YtflenopenifofaaWd5g
import Derived.Test.YtflenopenifofaaWd6
import Derived.Test.YtflenopenifofaaWd9
import Derived.Test.YtflenopenifofaaRw2
import Derived.Test.YtflenopenifofaaApQ
import Derived.Test.YtflenopenifofaaCas
namespace Go.Proofs.Ytflenopenifofaa
open Go Go.RowKit Go.Deep
attribute [local go_sem] cell?_ext frozen?_ext

theorem clamp_in {n : Int} (h1 : -1152921504606846976 ≤ n) (h2 : n ≤ 1152921504606846976) : clamp n = n := by unfold clamp; omega
/-- Two adds of one cell, either way. -/
theorem adds_law {x : Wd} {m : Nat} {v u c : Int} (h : mayW x ⟨3, (m : Int), 0, v, 0, ⟨#[]⟩, []⟩ = true) (h' : mayW x ⟨3, (m : Int), 0, u, 0, ⟨#[]⟩, []⟩ = true) (hm : m < x.c.length) (hc : x.c.getD m 0 = c)
    (c1 : -1125899906842624 ≤ c) (c2 : c ≤ 1125899906842624) (v1 : -1125899906842624 ≤ v) (v2 : v ≤ 1125899906842624) (u1 : -1125899906842624 ≤ u) (u2 : u ≤ 1125899906842624) : ∃ y z q : Wd,
    (doW x ⟨3, (m : Int), 0, v, 0, ⟨#[]⟩, []⟩ = y ∧ resW x ⟨3, (m : Int), 0, v, 0, ⟨#[]⟩, []⟩ = c ∧ errW x ⟨3, (m : Int), 0, v, 0, ⟨#[]⟩, []⟩ = 0) ∧
    (doW y ⟨3, (m : Int), 0, u, 0, ⟨#[]⟩, []⟩ = z ∧ resW y ⟨3, (m : Int), 0, u, 0, ⟨#[]⟩, []⟩ = c + v ∧ errW y ⟨3, (m : Int), 0, u, 0, ⟨#[]⟩, []⟩ = 0) ∧
    (doW x ⟨3, (m : Int), 0, u, 0, ⟨#[]⟩, []⟩ = q ∧ resW x ⟨3, (m : Int), 0, u, 0, ⟨#[]⟩, []⟩ = c ∧ errW x ⟨3, (m : Int), 0, u, 0, ⟨#[]⟩, []⟩ = 0) ∧
    (doW q ⟨3, (m : Int), 0, v, 0, ⟨#[]⟩, []⟩ = z ∧ resW q ⟨3, (m : Int), 0, v, 0, ⟨#[]⟩, []⟩ = c + u ∧ errW q ⟨3, (m : Int), 0, v, 0, ⟨#[]⟩, []⟩ = 0) := by
  have d1 : doneW x ⟨3, (m : Int), 0, v, 0, ⟨#[]⟩, []⟩ = ⟨x.c.set m (c + v), x.d⟩ := done_3c (hy := hc) (hc := clamp_in (by omega) (by omega)) ..
  have d2 : doneW x ⟨3, (m : Int), 0, u, 0, ⟨#[]⟩, []⟩ = ⟨x.c.set m (c + u), x.d⟩ := done_3c (hy := hc) (hc := clamp_in (by omega) (by omega)) ..
  have e1 : (x.c.set m (c + v)).getD m 0 = c + v := by simp [List.getD, hm]
  have e2 : (x.c.set m (c + u)).getD m 0 = c + u := by simp [List.getD, hm]
  have m1 : mayW ⟨x.c.set m (c + v), x.d⟩ ⟨3, (m : Int), 0, u, 0, ⟨#[]⟩, []⟩ = true := by rw [← d1]; exact may_other h' (by decide) (okW_done h) (done_len ..)
  have m2 : mayW ⟨x.c.set m (c + u), x.d⟩ ⟨3, (m : Int), 0, v, 0, ⟨#[]⟩, []⟩ = true := by rw [← d2]; exact may_other h (by decide) (okW_done h') (done_len ..)
  have d3 : doneW ⟨x.c.set m (c + v), x.d⟩ ⟨3, (m : Int), 0, u, 0, ⟨#[]⟩, []⟩ = ⟨x.c.set m (c + v + u), x.d⟩ := by
    rw [done_3c (hy := e1) (hc := clamp_in (by omega) (by omega))]; simp
  have d4 : doneW ⟨x.c.set m (c + u), x.d⟩ ⟨3, (m : Int), 0, v, 0, ⟨#[]⟩, []⟩ = ⟨x.c.set m (c + v + u), x.d⟩ := by
    rw [done_3c (hy := e2) (hc := clamp_in (by omega) (by omega))]; simp; congr 1; omega
  exact ⟨_, _, _, do_yes h d1 (got_3 (hy := hc) ..), do_yes m1 d3 (got_3 (hy := e1) ..), do_yes h' d2 (got_3 (hy := hc) ..), do_yes m2 d4 (got_3 (hy := e2) ..)⟩
theorem keep3 {w : World} {g k : Nat} {o : Obj} (hk : k ≠ g) (u v z : Value) (h : w.heap[k]? = some o) : (((w.setCell ⟨g, 0, none⟩ u).setCell ⟨g, 1, none⟩ v).setCell ⟨g, 2, none⟩ z).heap[k]? = some o :=
  (heap_setCell_other _ ⟨g, 2, none⟩ k _ hk).trans ((heap_setCell_other _ ⟨g, 1, none⟩ k _ hk).trans ((heap_setCell_other _ ⟨g, 0, none⟩ k _ hk).trans h))
theorem may_cell {x : Wd} {a v : Int} (h : mayW x ⟨3, a, 0, v, 0, ⟨#[]⟩, []⟩ = true) : 0 ≤ a ∧ a < (x.c.length : Int) := by
  have hk := ((mayW_iff _ _).1 h).2.2.2
  rw [kind_cell (.inr (.inr (.inr rfl)))] at hk
  obtain ⟨_, ha, hal, _⟩ := (cellB_iff _ _).1 hk
  exact ⟨ha, hal⟩
set_option maxRecDepth 100000 in
set_option maxHeartbeats 16000000 in
theorem adds_any (A0 : Option Addr) (n0 c0 : Nat) (A1 : Option Addr) (n1 c1 : Nat) (A2 : Option Addr) (n2 c2 : Nat) (x : Wd) (a v u : Int) (w : World) (h : WS w A0 n0 c0 A1 n1 c1 A2 n2 c2 x) :
    Calls Try.prog 7 #[wdC A0 n0 c0 A1 n1 c1 A2 n2 c2, .int .i64 a, .int .i64 v, .int .i64 u] w fun e w' => e = .returned (.bool true) ∧ w.grownBy w' none := by
  have hlen := h.s0.length
  obtain ⟨q0, hq0⟩ : ∃ q, (decide ((1200 : Int) < (n0 : Int)) || greatD x.d) = q := ⟨_, rfl⟩
  have g0 := World.grownBy_alloc w (.cells #[.slice A0 n0 c0, .slice A1 n1 c1, .slice A2 n2 c2] 27) none
  have bx := heap_alloc_new w (.cells #[.slice A0 n0 c0, .slice A1 n1 c1, .slice A2 n2 c2] 27)
  obtain ⟨w0, hw0⟩ : ∃ w0, w.alloc (.cells #[.slice A0 n0 c0, .slice A1 n1 c1, .slice A2 n2 c2] 27) = w0 := ⟨_, rfl⟩
  rw [hw0] at g0 bx
  have H := Lib.hid (And.intro (h.on g0) (And.intro g0 (And.intro bx (And.intro hw0 hq0))))
  have HL := Lib.hid hlen
  have t0 := cell_of_row w0 _ 0 _ _ _ bx
  have t1 := cell_of_row w0 _ 1 _ _ _ bx
  have t2 := cell_of_row w0 _ 2 _ _ _ bx
  have lx : w.heap.size < w0.heap.size := (Array.getElem?_eq_some_iff.1 bx).1
  simp at t0 t1 t2
  clear g0 bx hw0 hq0 h hlen
  go_enter Try.func7, Try.ntmps7
  go_wp2_with fail
  rw [H.out.2.2.2.1]
  go_wp2_with fail
  refine (greatW_any A0 n0 c0 A1 n1 c1 A2 n2 c2 x w0 H.out.1).mono ?_
  rintro e w1 ⟨rfl, g1⟩
  rw [H.out.2.2.2.2]
  have bx := keepB H.out.2.2.1 g1
  have H1 := Lib.hid (And.intro (H.out.1.on g1) (And.intro (H.out.2.1.trans g1) bx))
  clear t0 t1 t2 lx
  have t0 := cell_of_row w1 _ 0 _ _ _ bx
  have t1 := cell_of_row w1 _ 1 _ _ _ bx
  have t2 := cell_of_row w1 _ 2 _ _ _ bx
  have lx : w.heap.size < w1.heap.size := (Array.getElem?_eq_some_iff.1 bx).1
  simp at t0 t1 t2
  clear g1 bx H
  cases q0
  case true =>
    go_wp2_with fail
    refine (wakesW_any _).mono ?_
    rintro e wz ⟨rfl, gz⟩
    go_wp2_with fail
    go_ret
    exact ⟨rfl, H1.out.2.1.trans gz⟩
  obtain ⟨w2, hw2⟩ : ∃ w2, pushes w1 [.cells #[.int .i8 3, .int .i64 a, .int .i64 0, .int .i64 v, .int .i64 0, .string ⟨#[]⟩, .slice none 0 0] 30, .cells #[.int .i8 3, .int .i64 a, .int .i64 0, .int .i64 u, .int .i64 0, .string ⟨#[]⟩, .slice none 0 0] 30] = w2 := ⟨_, rfl⟩
  have g2 : w1.grownBy w2 none := by rw [← hw2]; exact pushes_grown _ _
  have ba : w2.heap[w1.heap.size]? = some (.cells #[.int .i8 3, .int .i64 a, .int .i64 0, .int .i64 v, .int .i64 0, .string ⟨#[]⟩, .slice none 0 0] 30 (0, 0)) := by rw [← hw2]; exact pushes_at w1 (i := 0) rfl
  have bb : w2.heap[w1.heap.size + 1]? = some (.cells #[.int .i8 3, .int .i64 a, .int .i64 0, .int .i64 u, .int .i64 0, .string ⟨#[]⟩, .slice none 0 0] 30 (0, 0)) := by rw [← hw2]; exact pushes_at w1 (i := 1) rfl
  have bx := keepB H1.out.2.2 g2
  simp only [pushes] at hw2
  have H2 := Lib.hid (And.intro (H1.out.1.on g2) (And.intro (H1.out.2.1.trans g2) (And.intro bx (And.intro ba bb))))
  have HW := Lib.hid hw2
  clear hw2 g2 ba bb bx
  obtain ⟨mx, hmx⟩ : ∃ q, mayW x ⟨3, a, 0, v, 0, ⟨#[]⟩, []⟩ = q := ⟨_, rfl⟩
  obtain ⟨my, hmy⟩ : ∃ q, mayW x ⟨3, a, 0, u, 0, ⟨#[]⟩, []⟩ = q := ⟨_, rfl⟩
  have HX := Lib.hid hmx
  have HY := Lib.hid hmy
  clear hmx hmy
  go_wp2_with fail
  rw [HW.out]
  obtain ⟨P, hP⟩ : ∃ P, w1.heap.size = P := ⟨_, rfl⟩
  have lP : w.heap.size < P := by rw [← hP]; exact lx
  rw [hP] at H2 ⊢
  clear HW H1 t0 t1 t2 lx hP
  refine (rMayW_any A0 n0 c0 A1 n1 c1 A2 n2 c2 x 3 a 0 v 0 ⟨#[]⟩ [] none 0 0 rfl (by decide) w2 H2.out.1).mono ?_
  rintro e w3 ⟨rfl, g3⟩
  rw [HX.out]
  have bx := keepB H2.out.2.2.1 g3
  have ba := keepB H2.out.2.2.2.1 g3
  have bb := keepB H2.out.2.2.2.2 g3
  have H3 := Lib.hid (And.intro (H2.out.1.on g3) (And.intro (H2.out.2.1.trans g3) (And.intro bx (And.intro ba bb))))
  have t0 := cell_of_row w3 _ 0 _ _ _ bx
  have t1 := cell_of_row w3 _ 1 _ _ _ bx
  have t2 := cell_of_row w3 _ 2 _ _ _ bx
  have lx : w.heap.size < w3.heap.size := (Array.getElem?_eq_some_iff.1 bx).1
  have p0 := cell_of_row w3 _ 0 _ _ _ ba
  have r0 := cell_of_row w3 _ 0 _ _ _ bb
  have p1 := cell_of_row w3 _ 1 _ _ _ ba
  have r1 := cell_of_row w3 _ 1 _ _ _ bb
  have p2 := cell_of_row w3 _ 2 _ _ _ ba
  have r2 := cell_of_row w3 _ 2 _ _ _ bb
  have p3 := cell_of_row w3 _ 3 _ _ _ ba
  have r3 := cell_of_row w3 _ 3 _ _ _ bb
  have p4 := cell_of_row w3 _ 4 _ _ _ ba
  have r4 := cell_of_row w3 _ 4 _ _ _ bb
  have p5 := cell_of_row w3 _ 5 _ _ _ ba
  have r5 := cell_of_row w3 _ 5 _ _ _ bb
  have p6 := cell_of_row w3 _ 6 _ _ _ ba
  have r6 := cell_of_row w3 _ 6 _ _ _ bb
  have lp := (Array.getElem?_eq_some_iff.1 ba).1
  have lr := (Array.getElem?_eq_some_iff.1 bb).1
  simp at t0 t1 t2 p0 p1 p2 p3 p4 p5 p6 r0 r1 r2 r3 r4 r5 r6
  clear g3 bx ba bb H2
  cases mx
  case false =>
    go_wp2_with fail
    refine (wakesW_any _).mono ?_
    rintro e wz ⟨rfl, gz⟩
    go_wp2_with fail
    go_ret
    exact ⟨rfl, H3.out.2.1.trans gz⟩
  go_wp2_with fail
  refine (rMayW_any A0 n0 c0 A1 n1 c1 A2 n2 c2 x 3 a 0 u 0 ⟨#[]⟩ [] none 0 0 rfl (by decide) w3 H3.out.1).mono ?_
  rintro e w4 ⟨rfl, g4⟩
  rw [HY.out]
  have bx := keepB H3.out.2.2.1 g4
  have ba := keepB H3.out.2.2.2.1 g4
  have bb := keepB H3.out.2.2.2.2 g4
  have H4 := Lib.hid (And.intro (H3.out.1.on g4) (And.intro (H3.out.2.1.trans g4) (And.intro bx (And.intro ba bb))))
  clear t0 t1 t2 lx p0 p1 p2 p3 p4 p5 p6 r0 r1 r2 r3 r4 r5 r6 lp lr
  have t0 := cell_of_row w4 _ 0 _ _ _ bx
  have t1 := cell_of_row w4 _ 1 _ _ _ bx
  have t2 := cell_of_row w4 _ 2 _ _ _ bx
  have lx : w.heap.size < w4.heap.size := (Array.getElem?_eq_some_iff.1 bx).1
  have p0 := cell_of_row w4 _ 0 _ _ _ ba
  have r0 := cell_of_row w4 _ 0 _ _ _ bb
  have p1 := cell_of_row w4 _ 1 _ _ _ ba
  have r1 := cell_of_row w4 _ 1 _ _ _ bb
  have p2 := cell_of_row w4 _ 2 _ _ _ ba
  have r2 := cell_of_row w4 _ 2 _ _ _ bb
  have p3 := cell_of_row w4 _ 3 _ _ _ ba
  have r3 := cell_of_row w4 _ 3 _ _ _ bb
  have p4 := cell_of_row w4 _ 4 _ _ _ ba
  have r4 := cell_of_row w4 _ 4 _ _ _ bb
  have p5 := cell_of_row w4 _ 5 _ _ _ ba
  have r5 := cell_of_row w4 _ 5 _ _ _ bb
  have p6 := cell_of_row w4 _ 6 _ _ _ ba
  have r6 := cell_of_row w4 _ 6 _ _ _ bb
  have lp := (Array.getElem?_eq_some_iff.1 ba).1
  have lr := (Array.getElem?_eq_some_iff.1 bb).1
  simp at t0 t1 t2 p0 p1 p2 p3 p4 p5 p6 r0 r1 r2 r3 r4 r5 r6
  clear g4 bx ba bb H3
  cases my
  case false =>
    go_wp2_with fail
    refine (wakesW_any _).mono ?_
    rintro e wz ⟨rfl, gz⟩
    go_wp2_with fail
    go_ret
    exact ⟨rfl, H4.out.2.1.trans gz⟩
  obtain ⟨ha0, han⟩ := may_cell HX.out
  rw [HL.out] at han
  obtain ⟨m, rfl⟩ := Int.eq_ofNat_of_zero_le ha0
  have hmn : m < n0 := by omega
  obtain ⟨c, hc⟩ : ∃ c, x.c[m]? = some c := ⟨_, List.getElem?_eq_getElem (by rw [HL.out]; exact hmn)⟩
  have HC := Lib.hid hc
  obtain ⟨cb, cof, hA, hS, z0⟩ := int_at H4.out.1.s0 hc
  have hcb : cb < w4.heap.size := hS
  clear hc hS
  subst hA
  by_cases k1 : c < -1125899906842624
  · clear HX HY
    go_wp2_with fail
    refine (wakesW_any _).mono ?_
    rintro e wz ⟨rfl, gz⟩
    go_wp2_with fail
    go_ret
    exact ⟨rfl, H4.out.2.1.trans gz⟩
  by_cases k2 : 1125899906842624 < c
  · clear HX HY
    go_wp2_with fail
    refine (wakesW_any _).mono ?_
    rintro e wz ⟨rfl, gz⟩
    go_wp2_with fail
    go_ret
    exact ⟨rfl, H4.out.2.1.trans gz⟩
  by_cases k3 : v < -1125899906842624
  · clear HX HY
    go_wp2_with fail
    refine (wakesW_any _).mono ?_
    rintro e wz ⟨rfl, gz⟩
    go_wp2_with fail
    go_ret
    exact ⟨rfl, H4.out.2.1.trans gz⟩
  by_cases k4 : 1125899906842624 < v
  · clear HX HY
    go_wp2_with fail
    refine (wakesW_any _).mono ?_
    rintro e wz ⟨rfl, gz⟩
    go_wp2_with fail
    go_ret
    exact ⟨rfl, H4.out.2.1.trans gz⟩
  by_cases k5 : u < -1125899906842624
  · clear HX HY
    go_wp2_with fail
    refine (wakesW_any _).mono ?_
    rintro e wz ⟨rfl, gz⟩
    go_wp2_with fail
    go_ret
    exact ⟨rfl, H4.out.2.1.trans gz⟩
  by_cases k6 : 1125899906842624 < u
  · clear HX HY
    go_wp2_with fail
    refine (wakesW_any _).mono ?_
    rintro e wz ⟨rfl, gz⟩
    go_wp2_with fail
    go_ret
    exact ⟨rfl, H4.out.2.1.trans gz⟩
  obtain ⟨y, z, q, L1, L2, L3, L4⟩ := adds_law (c := c) HX.out HY.out (by rw [HL.out]; exact hmn) (by simp [List.getD, HC.out]) (by omega) (by omega) (by omega) (by omega) (by omega) (by omega)
  have L := Lib.hid (And.intro L1 (And.intro L2 (And.intro L3 L4)))
  clear L1 L2 L3 L4 HX HY
  go_wp2_with fail
  clear z0
  refine (DoW_any (some ⟨cb, cof, none⟩) n0 c0 A1 n1 c1 A2 n2 c2 x 3 (m : Int) 0 v 0 ⟨#[]⟩ [] none 0 0 rfl (by decide) w4 H4.out.1).mono ?_
  rintro e w5 ⟨C0, d0, s0, C1, d1, s1, C2, d2, s2, rfl, g5, h5⟩
  rw [L.out.1.2.1, L.out.1.2.2]
  rw [L.out.1.1] at h5
  have hcO : cb < w5.heap.size := Nat.lt_of_lt_of_le hcb g5.size
  clear hcb
  have bx := keepB H4.out.2.2.1 g5
  have ba := keepB H4.out.2.2.2.1 g5
  have bb := keepB H4.out.2.2.2.2 g5
  have H5 := Lib.hid (And.intro (H4.out.1.on g5) (And.intro (H4.out.2.1.trans g5) (And.intro bx (And.intro ba bb))))
  clear t0 t1 t2 lx p0 p1 p2 p3 p4 p5 p6 r0 r1 r2 r3 r4 r5 r6 lp lr
  have t0 := cell_of_row w5 _ 0 _ _ _ bx
  have t1 := cell_of_row w5 _ 1 _ _ _ bx
  have t2 := cell_of_row w5 _ 2 _ _ _ bx
  have lx : w.heap.size < w5.heap.size := (Array.getElem?_eq_some_iff.1 bx).1
  have p0 := cell_of_row w5 _ 0 _ _ _ ba
  have r0 := cell_of_row w5 _ 0 _ _ _ bb
  have p1 := cell_of_row w5 _ 1 _ _ _ ba
  have r1 := cell_of_row w5 _ 1 _ _ _ bb
  have p2 := cell_of_row w5 _ 2 _ _ _ ba
  have r2 := cell_of_row w5 _ 2 _ _ _ bb
  have p3 := cell_of_row w5 _ 3 _ _ _ ba
  have r3 := cell_of_row w5 _ 3 _ _ _ bb
  have p4 := cell_of_row w5 _ 4 _ _ _ ba
  have r4 := cell_of_row w5 _ 4 _ _ _ bb
  have p5 := cell_of_row w5 _ 5 _ _ _ ba
  have r5 := cell_of_row w5 _ 5 _ _ _ bb
  have p6 := cell_of_row w5 _ 6 _ _ _ ba
  have r6 := cell_of_row w5 _ 6 _ _ _ bb
  have lp := (Array.getElem?_eq_some_iff.1 ba).1
  have lr := (Array.getElem?_eq_some_iff.1 bb).1
  simp at t0 t1 t2 p0 p1 p2 p3 p4 p5 p6 r0 r1 r2 r3 r4 r5 r6
  have HY5 := Lib.hid h5
  clear g5 h5 bx ba bb H4
  go_wp2_with fail
  have g6 := World.grownBy_alloc w5 (.cells #[.slice C0 d0 s0, .slice C1 d1 s1, .slice C2 d2 s2] 27) none
  have bo := heap_alloc_new w5 (.cells #[.slice C0 d0 s0, .slice C1 d1 s1, .slice C2 d2 s2] 27)
  obtain ⟨O, hO⟩ : ∃ O, w5.heap.size = O := ⟨_, rfl⟩
  rw [hO] at bo hcO ⊢
  have lO : P + 1 < O := by omega
  generalize w5.alloc (.cells #[.slice C0 d0 s0, .slice C1 d1 s1, .slice C2 d2 s2] 27) = w6 at g6 bo ⊢
  refine (DoW_any C0 d0 s0 C1 d1 s1 C2 d2 s2 y 3 (m : Int) 0 u 0 ⟨#[]⟩ [] none 0 0 rfl (by decide) w6 (HY5.out.on g6)).mono ?_
  rintro e w7 ⟨E0, e0, i0, E1, e1, i1, E2, e2, i2, rfl, g7, h7⟩
  rw [L.out.2.1.2.1, L.out.2.1.2.2]
  rw [L.out.2.1.1] at h7
  have g67 := g6.trans g7
  have bo := keepB bo g7
  have bx := keepB H5.out.2.2.1 g67
  have ba := keepB H5.out.2.2.2.1 g67
  have bb := keepB H5.out.2.2.2.2 g67
  have H7 := Lib.hid (And.intro (H5.out.1.on g67) (And.intro (H5.out.2.1.trans g67) (And.intro bx (And.intro ba bb))))
  clear t0 t1 t2 lx p0 p1 p2 p3 p4 p5 p6 r0 r1 r2 r3 r4 r5 r6 lp lr hO
  have t0 := cell_of_row w7 _ 0 _ _ _ bx
  have t1 := cell_of_row w7 _ 1 _ _ _ bx
  have t2 := cell_of_row w7 _ 2 _ _ _ bx
  have lx : w.heap.size < w7.heap.size := (Array.getElem?_eq_some_iff.1 bx).1
  have p0 := cell_of_row w7 _ 0 _ _ _ ba
  have r0 := cell_of_row w7 _ 0 _ _ _ bb
  have p1 := cell_of_row w7 _ 1 _ _ _ ba
  have r1 := cell_of_row w7 _ 1 _ _ _ bb
  have p2 := cell_of_row w7 _ 2 _ _ _ ba
  have r2 := cell_of_row w7 _ 2 _ _ _ bb
  have p3 := cell_of_row w7 _ 3 _ _ _ ba
  have r3 := cell_of_row w7 _ 3 _ _ _ bb
  have p4 := cell_of_row w7 _ 4 _ _ _ ba
  have r4 := cell_of_row w7 _ 4 _ _ _ bb
  have p5 := cell_of_row w7 _ 5 _ _ _ ba
  have r5 := cell_of_row w7 _ 5 _ _ _ bb
  have p6 := cell_of_row w7 _ 6 _ _ _ ba
  have r6 := cell_of_row w7 _ 6 _ _ _ bb
  have lp := (Array.getElem?_eq_some_iff.1 ba).1
  have lr := (Array.getElem?_eq_some_iff.1 bb).1
  simp at t0 t1 t2 p0 p1 p2 p3 p4 p5 p6 r0 r1 r2 r3 r4 r5 r6
  have o0 := cell_of_row w7 _ 0 _ _ _ bo
  have o1 := cell_of_row w7 _ 1 _ _ _ bo
  have o2 := cell_of_row w7 _ 2 _ _ _ bo
  have f0 := frozen_of_row w7 _ 0 _ _ bo
  have f1 := frozen_of_row w7 _ 1 _ _ bo
  have f2 := frozen_of_row w7 _ 2 _ _ bo
  have lO7 := (Array.getElem?_eq_some_iff.1 bo).1
  simp at o0 o1 o2
  have HE := Lib.hid (And.intro (h7.set3 bo E0 E1 E2 e0 e1 e2 i0 i1 i2) (And.intro (H7.out.1.set3 bo E0 E1 E2 e0 e1 e2 i0 i1 i2) (And.intro (grown_set3 H7.out.2.1 (show w.heap.size ≤ O by omega) (.slice E0 e0 i0) (.slice E1 e1 i1) (.slice E2 e2 i2)) (And.intro (keep3 (show w.heap.size ≠ O by omega) (.slice E0 e0 i0) (.slice E1 e1 i1) (.slice E2 e2 i2) bx) (And.intro (keep3 (show P ≠ O by omega) (.slice E0 e0 i0) (.slice E1 e1 i1) (.slice E2 e2 i2) ba) (And.intro (keep3 (show P + 1 ≠ O by omega) (.slice E0 e0 i0) (.slice E1 e1 i1) (.slice E2 e2 i2) bb) (set3_at bo (.slice E0 e0 i0) (.slice E1 e1 i1) (.slice E2 e2 i2))))))))
  clear g6 g7 g67 h7 bx ba bb bo H5 HY5 H7
  go_wp2_with fail
  generalize ((w7.setCell ⟨O, 0, none⟩ (.slice E0 e0 i0)).setCell ⟨O, 1, none⟩ (.slice E1 e1 i1)).setCell ⟨O, 2, none⟩ (.slice E2 e2 i2) = w8 at HE ⊢
  clear t0 t1 t2 lx p0 p1 p2 p3 p4 p5 p6 r0 r1 r2 r3 r4 r5 r6 lp lr o0 o1 o2 f0 f1 f2 lO7
  refine (DoW_any (some ⟨cb, cof, none⟩) n0 c0 A1 n1 c1 A2 n2 c2 x 3 (m : Int) 0 u 0 ⟨#[]⟩ [] none 0 0 rfl (by decide) w8 HE.out.2.1).mono ?_
  rintro e w9 ⟨F0, r0', j0, F1, r1', j1, F2, r2', j2, rfl, g9, h9⟩
  rw [L.out.2.2.1.2.1, L.out.2.2.1.2.2]
  rw [L.out.2.2.1.1] at h9
  have bx := keepB HE.out.2.2.2.1 g9
  have ba := keepB HE.out.2.2.2.2.1 g9
  have bb := keepB HE.out.2.2.2.2.2.1 g9
  have bo := keepB HE.out.2.2.2.2.2.2 g9
  have t0 := cell_of_row w9 _ 0 _ _ _ bx
  have t1 := cell_of_row w9 _ 1 _ _ _ bx
  have t2 := cell_of_row w9 _ 2 _ _ _ bx
  have lx : w.heap.size < w9.heap.size := (Array.getElem?_eq_some_iff.1 bx).1
  have p0 := cell_of_row w9 _ 0 _ _ _ ba
  have r0 := cell_of_row w9 _ 0 _ _ _ bb
  have p1 := cell_of_row w9 _ 1 _ _ _ ba
  have r1 := cell_of_row w9 _ 1 _ _ _ bb
  have p2 := cell_of_row w9 _ 2 _ _ _ ba
  have r2 := cell_of_row w9 _ 2 _ _ _ bb
  have p3 := cell_of_row w9 _ 3 _ _ _ ba
  have r3 := cell_of_row w9 _ 3 _ _ _ bb
  have p4 := cell_of_row w9 _ 4 _ _ _ ba
  have r4 := cell_of_row w9 _ 4 _ _ _ bb
  have p5 := cell_of_row w9 _ 5 _ _ _ ba
  have r5 := cell_of_row w9 _ 5 _ _ _ bb
  have p6 := cell_of_row w9 _ 6 _ _ _ ba
  have r6 := cell_of_row w9 _ 6 _ _ _ bb
  have lp := (Array.getElem?_eq_some_iff.1 ba).1
  have lr := (Array.getElem?_eq_some_iff.1 bb).1
  simp at t0 t1 t2 p0 p1 p2 p3 p4 p5 p6 r0 r1 r2 r3 r4 r5 r6
  have lO9 := (Array.getElem?_eq_some_iff.1 bo).1
  have H9 := Lib.hid (And.intro (HE.out.2.1.on g9) (And.intro (HE.out.2.2.1.trans g9) (And.intro bx (And.intro ba (And.intro bb (And.intro bo (And.intro (HE.out.1.on g9) h9)))))))
  clear g9 h9 bx ba bb bo HE
  go_wp2_with fail
  have g10 := World.grownBy_alloc w9 (.cells #[.slice F0 r0' j0, .slice F1 r1' j1, .slice F2 r2' j2] 27) none
  have br := heap_alloc_new w9 (.cells #[.slice F0 r0' j0, .slice F1 r1' j1, .slice F2 r2' j2] 27)
  obtain ⟨R, hR⟩ : ∃ R, w9.heap.size = R := ⟨_, rfl⟩
  rw [hR] at br ⊢
  have lR : O < R := by omega
  generalize w9.alloc (.cells #[.slice F0 r0' j0, .slice F1 r1' j1, .slice F2 r2' j2] 27) = w10 at g10 br ⊢
  refine (DoW_any F0 r0' j0 F1 r1' j1 F2 r2' j2 q 3 (m : Int) 0 v 0 ⟨#[]⟩ [] none 0 0 rfl (by decide) w10 (H9.out.2.2.2.2.2.2.2.on g10)).mono ?_
  rintro e w11 ⟨G0, y0, l0, G1, y1, l1, G2, y2, l2, rfl, g11, h11⟩
  rw [L.out.2.2.2.2.1, L.out.2.2.2.2.2]
  rw [L.out.2.2.2.1] at h11
  have g := g10.trans g11
  have br := keepB br g11
  have bx := keepB H9.out.2.2.1 g
  have bo := keepB H9.out.2.2.2.2.2.1 g
  clear t0 t1 t2 lx p0 p1 p2 p3 p4 p5 p6 r0 r1 r2 r3 r4 r5 r6 lp lr hR lO9
  have t0 := cell_of_row w11 _ 0 _ _ _ bx
  have t1 := cell_of_row w11 _ 1 _ _ _ bx
  have t2 := cell_of_row w11 _ 2 _ _ _ bx
  have lx : w.heap.size < w11.heap.size := (Array.getElem?_eq_some_iff.1 bx).1
  have o0 := cell_of_row w11 _ 0 _ _ _ bo
  have o1 := cell_of_row w11 _ 1 _ _ _ bo
  have o2 := cell_of_row w11 _ 2 _ _ _ bo
  have lO11 := (Array.getElem?_eq_some_iff.1 bo).1
  have k0 := cell_of_row w11 _ 0 _ _ _ br
  have k1' := cell_of_row w11 _ 1 _ _ _ br
  have k2' := cell_of_row w11 _ 2 _ _ _ br
  have f0 := frozen_of_row w11 _ 0 _ _ br
  have f1 := frozen_of_row w11 _ 1 _ _ br
  have f2 := frozen_of_row w11 _ 2 _ _ br
  have lR11 := (Array.getElem?_eq_some_iff.1 br).1
  simp at t0 t1 t2 o0 o1 o2 k0 k1' k2'
  obtain ⟨cb', cof', hA', hS', z0⟩ := int_at (H9.out.1.on g).s0 HC.out
  simp only [Option.some.injEq, Addr.mk.injEq] at hA'
  obtain ⟨rfl, rfl, _⟩ := hA'
  have hcb : cb < w11.heap.size := hS'
  have hcR : cb ≠ R := by omega
  have HG := Lib.hid (And.intro ((H9.out.2.2.2.2.2.2.1.on g).set3 br G0 G1 G2 y0 y1 y2 l0 l1 l2) (And.intro (h11.set3 br G0 G1 G2 y0 y1 y2 l0 l1 l2) (grown_set3 (H9.out.2.1.trans g) (show w.heap.size ≤ R by omega) (.slice G0 y0 l0) (.slice G1 y1 l1) (.slice G2 y2 l2))))
  have s1 : (c == c) = true := by simp
  have s2 : ((c + v) == (c + v)) = true := by simp
  have s3 : ((c + u) == (c + u)) = true := by simp
  have s4 : -1125899906842624 ≤ c := by omega
  have s5 : c ≤ 1125899906842624 := by omega
  have s6 : -1125899906842624 ≤ v := by omega
  have s7 : v ≤ 1125899906842624 := by omega
  have s8 : -1125899906842624 ≤ u := by omega
  have s9 : u ≤ 1125899906842624 := by omega
  clear g10 g11 g h11 bx bo br H9 hS' k1 k2 k3 k4 k5 k6
  go_wp2_with fail
  refine (SameW_any E0 e0 i0 E1 e1 i1 E2 e2 i2 G0 y0 l0 G1 y1 l1 G2 y2 l2 z z _ HG.out.1 HG.out.2.1).mono ?_
  rintro e w12 ⟨rfl, g12⟩
  rw [(sameW_iff z z).2 rfl]
  go_wp2_with fail
  refine (wakesW_any _).mono ?_
  rintro e wz ⟨rfl, gz⟩
  go_wp2_with fail
  go_ret
  exact ⟨rfl, (HG.out.2.2.trans g12).trans gz⟩
end Go.Proofs.Ytflenopenifofaa
