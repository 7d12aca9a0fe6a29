/- CellTells: whatever the arguments, the call returns true and changes nothing that was there. No condition. -/
import Derived.Test.YtflenopenifofaaRw4
import Derived.Test.YtflenopenifofaaRw5
import Derived.Test.YtflenopenifofaaWd9
import Derived.Deep.RegionHeld3
namespace Go.Proofs.Ytflenopenifofaa
open Go Go.RowKit Go.Deep
attribute [local go_sem] cell?_ext frozen?_ext

/-- The arguments, as they lie behind some steps. -/
structure TB9 (A0 : Option Addr) (n0 c0 : Nat) (A1 : Option Addr) (n1 c1 : Nat) (A2 : Option Addr) (n2 c2 : Nat) (x : Wd) (B0 : Option Addr) (m0 k0 : Nat) (B1 : Option Addr) (m1 k1 : Nat) (B2 : Option Addr) (m2 k2 : Nat) (o : Wd) (pk pa pb pv pg : Int) (pt : ByteArray) (pr : Option Addr) (pn pc : Nat) (w W : World) : Prop where
  g : w.grownBy W none
  s : WS W A0 n0 c0 A1 n1 c1 A2 n2 c2 x
  so : WS W B0 m0 k0 B1 m1 k1 B2 m2 k2 o
  b0 : W.heap[w.heap.size]? = some (.cells #[.slice A0 n0 c0, .slice A1 n1 c1, .slice A2 n2 c2] 27 (0, 0))
  b1 : W.heap[w.heap.size + 1]? = some (.cells #[.slice B0 m0 k0, .slice B1 m1 k1, .slice B2 m2 k2] 27 (0, 0))
  b2 : W.heap[w.heap.size + 1 + 1]? = some (.cells #[.int .i8 pk, .int .i64 pa, .int .i64 pb, .int .i64 pv, .int .i64 pg, .string pt, .slice pr pn pc] 30 (0, 0))
section
variable {A0 : Option Addr} {n0 c0 : Nat} {A1 : Option Addr} {n1 c1 : Nat} {A2 : Option Addr} {n2 c2 : Nat} {x : Wd} {B0 : Option Addr} {m0 k0 : Nat} {B1 : Option Addr} {m1 k1 : Nat} {B2 : Option Addr} {m2 k2 : Nat} {o : Wd} {pk pa pb pv pg : Int} {pt : ByteArray} {pr : Option Addr} {pn pc : Nat} {w W W' : World}
theorem TB9.on (h : TB9 A0 n0 c0 A1 n1 c1 A2 n2 c2 x B0 m0 k0 B1 m1 k1 B2 m2 k2 o pk pa pb pv pg pt pr pn pc w W) (k : W.grownBy W' none) : TB9 A0 n0 c0 A1 n1 c1 A2 n2 c2 x B0 m0 k0 B1 m1 k1 B2 m2 k2 o pk pa pb pv pg pt pr pn pc w W' := ⟨h.g.trans k, h.s.on k, h.so.on k, keepB h.b0 k, keepB h.b1 k, keepB h.b2 k⟩
theorem kp3 {W : World} {g k : Nat} {ob : Obj} (hk : k ≠ g) (u v z : Value) (h : W.heap[k]? = some ob) : (((W.setCell ⟨g, 0, none⟩ u).setCell ⟨g, 1, none⟩ v).setCell ⟨g, 2, none⟩ z).heap[k]? = some ob :=
  (heap_setCell_other _ ⟨g, 2, none⟩ k _ hk).trans ((heap_setCell_other _ ⟨g, 1, none⟩ k _ hk).trans ((heap_setCell_other _ ⟨g, 0, none⟩ k _ hk).trans h))
theorem TB9.set3 (h : TB9 A0 n0 c0 A1 n1 c1 A2 n2 c2 x B0 m0 k0 B1 m1 k1 B2 m2 k2 o pk pa pb pv pg pt pr pn pc w W) {g : Nat} {E0 E1 E2 : Option Addr} {e0 f0 e1 f1 e2 f2 : Nat} {t : TypeId} (hg : w.heap.size + 1 + 1 < g) (hb : W.heap[g]? = some (.cells #[.slice E0 e0 f0, .slice E1 e1 f1, .slice E2 e2 f2] t (0, 0))) (D0 D1 D2 : Option Addr) (l0 l1 l2 d0 d1 d2 : Nat) :
    TB9 A0 n0 c0 A1 n1 c1 A2 n2 c2 x B0 m0 k0 B1 m1 k1 B2 m2 k2 o pk pa pb pv pg pt pr pn pc w (((W.setCell ⟨g, 0, none⟩ (.slice D0 l0 d0)).setCell ⟨g, 1, none⟩ (.slice D1 l1 d1)).setCell ⟨g, 2, none⟩ (.slice D2 l2 d2)) :=
  ⟨grown_set3 h.g (by omega) _ _ _, h.s.set3 hb _ _ _ _ _ _ _ _ _, h.so.set3 hb _ _ _ _ _ _ _ _ _, kp3 (by omega) _ _ _ h.b0, kp3 (by omega) _ _ _ h.b1, kp3 (by omega) _ _ _ h.b2⟩
theorem tb9_new (h : WS w A0 n0 c0 A1 n1 c1 A2 n2 c2 x) (h' : WS w B0 m0 k0 B1 m1 k1 B2 m2 k2 o) : TB9 A0 n0 c0 A1 n1 c1 A2 n2 c2 x B0 m0 k0 B1 m1 k1 B2 m2 k2 o pk pa pb pv pg pt pr pn pc w (((w.alloc (.cells #[.slice A0 n0 c0, .slice A1 n1 c1, .slice A2 n2 c2] 27)).alloc (.cells #[.slice B0 m0 k0, .slice B1 m1 k1, .slice B2 m2 k2] 27)).alloc (.cells #[.int .i8 pk, .int .i64 pa, .int .i64 pb, .int .i64 pv, .int .i64 pg, .string pt, .slice pr pn pc] 30)) := by
  obtain ⟨w0, hw0⟩ : ∃ w0, pushes w [.cells #[.slice A0 n0 c0, .slice A1 n1 c1, .slice A2 n2 c2] 27, .cells #[.slice B0 m0 k0, .slice B1 m1 k1, .slice B2 m2 k2] 27, .cells #[.int .i8 pk, .int .i64 pa, .int .i64 pb, .int .i64 pv, .int .i64 pg, .string pt, .slice pr pn pc] 30] = w0 := ⟨_, rfl⟩
  have g0 : w.grownBy w0 none := by rw [← hw0]; exact pushes_grown _ _
  have b0 : w0.heap[w.heap.size]? = some (.cells #[.slice A0 n0 c0, .slice A1 n1 c1, .slice A2 n2 c2] 27 (0, 0)) := by rw [← hw0]; exact pushes_at w (i := 0) rfl
  have b1 : w0.heap[w.heap.size + 1]? = some (.cells #[.slice B0 m0 k0, .slice B1 m1 k1, .slice B2 m2 k2] 27 (0, 0)) := by rw [← hw0]; exact pushes_at w (i := 1) rfl
  have b2 : w0.heap[w.heap.size + 1 + 1]? = some (.cells #[.int .i8 pk, .int .i64 pa, .int .i64 pb, .int .i64 pv, .int .i64 pg, .string pt, .slice pr pn pc] 30 (0, 0)) := by rw [← hw0]; exact pushes_at w (i := 2) rfl
  simp only [pushes] at hw0
  rw [hw0]
  exact ⟨g0, h.on g0, h'.on g0, b0, b1, b2⟩
end
/-- A world in a box. -/
structure BX (W : World) (g : Nat) (E0 : Option Addr) (e0 f0 : Nat) (E1 : Option Addr) (e1 f1 : Nat) (E2 : Option Addr) (e2 f2 : Nat) (y : Wd) : Prop where
  b : W.heap[g]? = some (.cells #[.slice E0 e0 f0, .slice E1 e1 f1, .slice E2 e2 f2] 27 (0, 0))
  s : WS W E0 e0 f0 E1 e1 f1 E2 e2 f2 y
theorem BX.on {W W' : World} {g : Nat} {E0 E1 E2 : Option Addr} {e0 f0 e1 f1 e2 f2 : Nat} {y : Wd} (h : BX W g E0 e0 f0 E1 e1 f1 E2 e2 f2 y) (k : W.grownBy W' none) : BX W' g E0 e0 f0 E1 e1 f1 E2 e2 f2 y := ⟨keepB h.b k, h.s.on k⟩
theorem BX.new {W : World} {E0 E1 E2 : Option Addr} {e0 f0 e1 f1 e2 f2 : Nat} {y : Wd} (h : WS W E0 e0 f0 E1 e1 f1 E2 e2 f2 y) : BX (W.alloc (.cells #[.slice E0 e0 f0, .slice E1 e1 f1, .slice E2 e2 f2] 27)) W.heap.size E0 e0 f0 E1 e1 f1 E2 e2 f2 y := ⟨heap_alloc_new _ _, h.on (World.grownBy_alloc _ _ none)⟩
theorem BX.set {W : World} {g : Nat} {E0 E1 E2 : Option Addr} {e0 f0 e1 f1 e2 f2 : Nat} {y z : Wd} (h : BX W g E0 e0 f0 E1 e1 f1 E2 e2 f2 y) {D0 D1 D2 : Option Addr} {l0 d0 l1 d1 l2 d2 : Nat} (hs : WS W D0 l0 d0 D1 l1 d1 D2 l2 d2 z) : BX (((W.setCell ⟨g, 0, none⟩ (.slice D0 l0 d0)).setCell ⟨g, 1, none⟩ (.slice D1 l1 d1)).setCell ⟨g, 2, none⟩ (.slice D2 l2 d2)) g D0 l0 d0 D1 l1 d1 D2 l2 d2 z :=
  ⟨set3_at h.b _ _ _, hs.set3 h.b _ _ _ _ _ _ _ _ _⟩
theorem BX.other {W : World} {g k : Nat} {E0 E1 E2 : Option Addr} {e0 f0 e1 f1 e2 f2 : Nat} {y : Wd} (h : BX W k E0 e0 f0 E1 e1 f1 E2 e2 f2 y) (hk : k ≠ g) {F0 F1 F2 : Option Addr} {a0 b0 a1 b1 a2 b2 : Nat} {t : TypeId} (hb : W.heap[g]? = some (.cells #[.slice F0 a0 b0, .slice F1 a1 b1, .slice F2 a2 b2] t (0, 0))) (D0 D1 D2 : Option Addr) (l0 l1 l2 d0 d1 d2 : Nat) :
    BX (((W.setCell ⟨g, 0, none⟩ (.slice D0 l0 d0)).setCell ⟨g, 1, none⟩ (.slice D1 l1 d1)).setCell ⟨g, 2, none⟩ (.slice D2 l2 d2)) k E0 e0 f0 E1 e1 f1 E2 e2 f2 y := ⟨kp3 hk _ _ _ h.b, h.s.set3 hb _ _ _ _ _ _ _ _ _⟩
theorem sameW_one (x : Wd) : sameW x x = true := (sameW_iff x x).2 rfl

set_option maxRecDepth 100000 in
set_option maxHeartbeats 16000000 in
theorem tells_any (A0 : Option Addr) (n0 c0 : Nat) (A1 : Option Addr) (n1 c1 : Nat) (A2 : Option Addr) (n2 c2 : Nat) (x : Wd) (B0 : Option Addr) (m0 k0 : Nat) (B1 : Option Addr) (m1 k1 : Nat) (B2 : Option Addr) (m2 k2 : Nat) (o : Wd) (pk pa pb pv pg : Int) (pt : ByteArray) (ps : List Int) (pr : Option Addr) (pn pc : Nat) (pl : ps.length = pn) (pm : pt.size ≤ maxLen) (n : Int) (w : World) (h : WS w A0 n0 c0 A1 n1 c1 A2 n2 c2 x) (h' : WS w B0 m0 k0 B1 m1 k1 B2 m2 k2 o) :
    Calls Try.prog 3 #[wdC A0 n0 c0 A1 n1 c1 A2 n2 c2, wdC B0 m0 k0 B1 m1 k1 B2 m2 k2, .agg #[.int .i8 pk, .int .i64 pa, .int .i64 pb, .int .i64 pv, .int .i64 pg, .string pt, .slice pr pn pc], .int .i64 n] w fun e w' => e = .returned (.bool true) ∧ w.grownBy w' none := by
  have T0 := Lib.hid (tb9_new (pk := pk) (pa := pa) (pb := pb) (pv := pv) (pg := pg) (pt := pt) (pr := pr) (pn := pn) (pc := pc) h h')
  clear h h'
  obtain ⟨q1, hq1⟩ : ∃ q, (decide ((1200 : Int) < (n0 : Int)) || greatD x.d) = q := ⟨_, rfl⟩
  obtain ⟨q2, hq2⟩ : ∃ q, (decide ((1200 : Int) < (m0 : Int)) || greatD o.d) = q := ⟨_, rfl⟩
  obtain ⟨q3, hq3⟩ : ∃ q, (decide ((2000 : Int) < (pt.size : Int)) || decide ((200 : Int) < (pn : Int))) = q := ⟨_, rfl⟩
  have HQ := Lib.hid (And.intro hq1 (And.intro hq2 hq3))
  clear hq1 hq2 hq3
  go_enter Try.func3, Try.ntmps3
  go_wp2_with fail
  generalize ((w.alloc (.cells #[.slice A0 n0 c0, .slice A1 n1 c1, .slice A2 n2 c2] 27)).alloc (.cells #[.slice B0 m0 k0, .slice B1 m1 k1, .slice B2 m2 k2] 27)).alloc (.cells #[.int .i8 pk, .int .i64 pa, .int .i64 pb, .int .i64 pv, .int .i64 pg, .string pt, .slice pr pn pc] 30) = w0 at T0 ⊢
  refine (greatW_any A0 n0 c0 A1 n1 c1 A2 n2 c2 x w0 T0.out.s).mono ?_
  rintro e w1 ⟨rfl, g1⟩
  rw [HQ.out.1]
  have T1 := Lib.hid (T0.out.on g1)
  clear g1 T0
  cases q1
  case true =>
    go_wp2_with fail
    refine (wakesW_any _).mono ?_
    rintro e wz ⟨rfl, gz⟩
    go_wp2_with fail
    go_ret
    exact ⟨rfl, T1.out.g.trans gz⟩
  have d0 := cell_of_row w1 _ 0 _ _ _ T1.out.b0
  have d1 := cell_of_row w1 _ 1 _ _ _ T1.out.b0
  have d2 := cell_of_row w1 _ 2 _ _ _ T1.out.b0
  have o0 := cell_of_row w1 _ 0 _ _ _ T1.out.b1
  have o1 := cell_of_row w1 _ 1 _ _ _ T1.out.b1
  have o2 := cell_of_row w1 _ 2 _ _ _ T1.out.b1
  have t0 := cell_of_row w1 _ 0 _ _ _ T1.out.b2
  have t1 := cell_of_row w1 _ 1 _ _ _ T1.out.b2
  have t2 := cell_of_row w1 _ 2 _ _ _ T1.out.b2
  have t3 := cell_of_row w1 _ 3 _ _ _ T1.out.b2
  have t4 := cell_of_row w1 _ 4 _ _ _ T1.out.b2
  have t5 := cell_of_row w1 _ 5 _ _ _ T1.out.b2
  have t6 := cell_of_row w1 _ 6 _ _ _ T1.out.b2
  have l0 := (Array.getElem?_eq_some_iff.1 T1.out.b0).1
  have l1 := (Array.getElem?_eq_some_iff.1 T1.out.b1).1
  have l2 := (Array.getElem?_eq_some_iff.1 T1.out.b2).1
  simp at d0 d1 d2 o0 o1 o2 t0 t1 t2 t3 t4 t5 t6
  go_wp2_with fail
  refine (greatW_any B0 m0 k0 B1 m1 k1 B2 m2 k2 o w1 T1.out.so).mono ?_
  rintro e w2 ⟨rfl, g2⟩
  rw [HQ.out.2.1]
  have T2 := Lib.hid (T1.out.on g2)
  clear g2 T1 d0 d1 d2 o0 o1 o2 t0 t1 t2 t3 t4 t5 t6 l0 l1 l2
  cases q2
  case true =>
    go_wp2_with fail
    refine (wakesW_any _).mono ?_
    rintro e wz ⟨rfl, gz⟩
    go_wp2_with fail
    go_ret
    exact ⟨rfl, T2.out.g.trans gz⟩
  have d0 := cell_of_row w2 _ 0 _ _ _ T2.out.b0
  have d1 := cell_of_row w2 _ 1 _ _ _ T2.out.b0
  have d2 := cell_of_row w2 _ 2 _ _ _ T2.out.b0
  have o0 := cell_of_row w2 _ 0 _ _ _ T2.out.b1
  have o1 := cell_of_row w2 _ 1 _ _ _ T2.out.b1
  have o2 := cell_of_row w2 _ 2 _ _ _ T2.out.b1
  have t0 := cell_of_row w2 _ 0 _ _ _ T2.out.b2
  have t1 := cell_of_row w2 _ 1 _ _ _ T2.out.b2
  have t2 := cell_of_row w2 _ 2 _ _ _ T2.out.b2
  have t3 := cell_of_row w2 _ 3 _ _ _ T2.out.b2
  have t4 := cell_of_row w2 _ 4 _ _ _ T2.out.b2
  have t5 := cell_of_row w2 _ 5 _ _ _ T2.out.b2
  have t6 := cell_of_row w2 _ 6 _ _ _ T2.out.b2
  have l0 := (Array.getElem?_eq_some_iff.1 T2.out.b0).1
  have l1 := (Array.getElem?_eq_some_iff.1 T2.out.b1).1
  have l2 := (Array.getElem?_eq_some_iff.1 T2.out.b2).1
  simp at d0 d1 d2 o0 o1 o2 t0 t1 t2 t3 t4 t5 t6
  go_wp2_with fail
  refine (act_any pk pa pb pv pg pt pr pn pc w2).mono ?_
  rintro e w3 ⟨rfl, g3⟩
  rw [HQ.out.2.2]
  have T3 := Lib.hid (T2.out.on g3)
  clear g3 T2 d0 d1 d2 o0 o1 o2 t0 t1 t2 t3 t4 t5 t6 l0 l1 l2 HQ
  cases q3
  case true =>
    go_wp2_with fail
    refine (wakesW_any _).mono ?_
    rintro e wz ⟨rfl, gz⟩
    go_wp2_with fail
    go_ret
    exact ⟨rfl, T3.out.g.trans gz⟩
  have d0 := cell_of_row w3 _ 0 _ _ _ T3.out.b0
  have d1 := cell_of_row w3 _ 1 _ _ _ T3.out.b0
  have d2 := cell_of_row w3 _ 2 _ _ _ T3.out.b0
  have o0 := cell_of_row w3 _ 0 _ _ _ T3.out.b1
  have o1 := cell_of_row w3 _ 1 _ _ _ T3.out.b1
  have o2 := cell_of_row w3 _ 2 _ _ _ T3.out.b1
  have t0 := cell_of_row w3 _ 0 _ _ _ T3.out.b2
  have t1 := cell_of_row w3 _ 1 _ _ _ T3.out.b2
  have t2 := cell_of_row w3 _ 2 _ _ _ T3.out.b2
  have t3 := cell_of_row w3 _ 3 _ _ _ T3.out.b2
  have t4 := cell_of_row w3 _ 4 _ _ _ T3.out.b2
  have t5 := cell_of_row w3 _ 5 _ _ _ T3.out.b2
  have t6 := cell_of_row w3 _ 6 _ _ _ T3.out.b2
  have l0 := (Array.getElem?_eq_some_iff.1 T3.out.b0).1
  have l1 := (Array.getElem?_eq_some_iff.1 T3.out.b1).1
  have l2 := (Array.getElem?_eq_some_iff.1 T3.out.b2).1
  simp at d0 d1 d2 o0 o1 o2 t0 t1 t2 t3 t4 t5 t6
  obtain ⟨y, hy⟩ : ∃ y, doW x ⟨pk, pa, pb, pv, pg, pt, ps⟩ = y := ⟨_, rfl⟩
  obtain ⟨r, hr⟩ : ∃ r, resW x ⟨pk, pa, pb, pv, pg, pt, ps⟩ = r := ⟨_, rfl⟩
  obtain ⟨er, her⟩ : ∃ r, errW x ⟨pk, pa, pb, pv, pg, pt, ps⟩ = r := ⟨_, rfl⟩
  have HD := Lib.hid (And.intro hy (And.intro hr her))
  clear hy hr her
  go_wp2_with fail
  refine (DoW_any A0 n0 c0 A1 n1 c1 A2 n2 c2 x pk pa pb pv pg pt ps pr pn pc pl pm w3 T3.out.s).mono ?_
  rintro e w4 ⟨X0, x0', xc0, X1, x1', xc1, X2, x2', xc2, rfl, g4, h4⟩
  rw [HD.out.1] at h4
  rw [HD.out.2.1, HD.out.2.2]
  have T4 := Lib.hid (T3.out.on g4)
  have HX := Lib.hid h4
  clear g4 h4 T3 d0 d1 d2 o0 o1 o2 t0 t1 t2 t3 t4 t5 t6 l0 l1 l2
  have d0 := cell_of_row w4 _ 0 _ _ _ T4.out.b0
  have d1 := cell_of_row w4 _ 1 _ _ _ T4.out.b0
  have d2 := cell_of_row w4 _ 2 _ _ _ T4.out.b0
  have o0 := cell_of_row w4 _ 0 _ _ _ T4.out.b1
  have o1 := cell_of_row w4 _ 1 _ _ _ T4.out.b1
  have o2 := cell_of_row w4 _ 2 _ _ _ T4.out.b1
  have t0 := cell_of_row w4 _ 0 _ _ _ T4.out.b2
  have t1 := cell_of_row w4 _ 1 _ _ _ T4.out.b2
  have t2 := cell_of_row w4 _ 2 _ _ _ T4.out.b2
  have t3 := cell_of_row w4 _ 3 _ _ _ T4.out.b2
  have t4 := cell_of_row w4 _ 4 _ _ _ T4.out.b2
  have t5 := cell_of_row w4 _ 5 _ _ _ T4.out.b2
  have t6 := cell_of_row w4 _ 6 _ _ _ T4.out.b2
  have l0 := (Array.getElem?_eq_some_iff.1 T4.out.b0).1
  have l1 := (Array.getElem?_eq_some_iff.1 T4.out.b1).1
  have l2 := (Array.getElem?_eq_some_iff.1 T4.out.b2).1
  simp at d0 d1 d2 o0 o1 o2 t0 t1 t2 t3 t4 t5 t6
  go_wp2_with fail
  have X5 := Lib.hid (BX.new HX.out)
  have T5 := Lib.hid (T4.out.on (World.grownBy_alloc w4 (.cells #[.slice X0 x0' xc0, .slice X1 x1' xc1, .slice X2 x2' xc2] 27) none))
  obtain ⟨P, hP⟩ : ∃ P, w4.heap.size = P := ⟨_, rfl⟩
  rw [hP] at X5 ⊢
  have lP : w.heap.size + 1 + 1 < P := by omega
  generalize w4.alloc (.cells #[.slice X0 x0' xc0, .slice X1 x1' xc1, .slice X2 x2' xc2] 27) = w5 at X5 T5 ⊢
  clear hP HX T4 d0 d1 d2 o0 o1 o2 t0 t1 t2 t3 t4 t5 t6 l0 l1 l2
  refine (rDoW_any A0 n0 c0 A1 n1 c1 A2 n2 c2 x pk pa pb pv pg pt ps pr pn pc pl pm w5 T5.out.s).mono ?_
  rintro e w6 ⟨Y0, y0', yc0, Y1, y1', yc1, Y2, y2', yc2, rfl, g6, h6⟩
  rw [HD.out.1] at h6
  rw [HD.out.2.1, HD.out.2.2]
  have T6 := Lib.hid (T5.out.on g6)
  have X6 := Lib.hid (X5.out.on g6)
  have HY := Lib.hid h6
  clear g6 h6 T5 X5
  have d0 := cell_of_row w6 _ 0 _ _ _ T6.out.b0
  have d1 := cell_of_row w6 _ 1 _ _ _ T6.out.b0
  have d2 := cell_of_row w6 _ 2 _ _ _ T6.out.b0
  have o0 := cell_of_row w6 _ 0 _ _ _ T6.out.b1
  have o1 := cell_of_row w6 _ 1 _ _ _ T6.out.b1
  have o2 := cell_of_row w6 _ 2 _ _ _ T6.out.b1
  have t0 := cell_of_row w6 _ 0 _ _ _ T6.out.b2
  have t1 := cell_of_row w6 _ 1 _ _ _ T6.out.b2
  have t2 := cell_of_row w6 _ 2 _ _ _ T6.out.b2
  have t3 := cell_of_row w6 _ 3 _ _ _ T6.out.b2
  have t4 := cell_of_row w6 _ 4 _ _ _ T6.out.b2
  have t5 := cell_of_row w6 _ 5 _ _ _ T6.out.b2
  have t6 := cell_of_row w6 _ 6 _ _ _ T6.out.b2
  have l0 := (Array.getElem?_eq_some_iff.1 T6.out.b0).1
  have l1 := (Array.getElem?_eq_some_iff.1 T6.out.b1).1
  have l2 := (Array.getElem?_eq_some_iff.1 T6.out.b2).1
  simp at d0 d1 d2 o0 o1 o2 t0 t1 t2 t3 t4 t5 t6
  have x0 := cell_of_row w6 _ 0 _ _ _ X6.out.b
  have x1 := cell_of_row w6 _ 1 _ _ _ X6.out.b
  have x2 := cell_of_row w6 _ 2 _ _ _ X6.out.b
  have lx := (Array.getElem?_eq_some_iff.1 X6.out.b).1
  simp at x0 x1 x2
  go_wp2_with fail
  have Y7 := Lib.hid (BX.new HY.out)
  have X7 := Lib.hid (X6.out.on (World.grownBy_alloc w6 (.cells #[.slice Y0 y0' yc0, .slice Y1 y1' yc1, .slice Y2 y2' yc2] 27) none))
  have T7 := Lib.hid (T6.out.on (World.grownBy_alloc w6 (.cells #[.slice Y0 y0' yc0, .slice Y1 y1' yc1, .slice Y2 y2' yc2] 27) none))
  obtain ⟨Q, hQ⟩ : ∃ Q, w6.heap.size = Q := ⟨_, rfl⟩
  rw [hQ] at Y7 ⊢
  have lQ : P < Q := by omega
  generalize w6.alloc (.cells #[.slice Y0 y0' yc0, .slice Y1 y1' yc1, .slice Y2 y2' yc2] 27) = w7 at Y7 X7 T7 ⊢
  clear hQ HY T6 X6 d0 d1 d2 o0 o1 o2 t0 t1 t2 t3 t4 t5 t6 l0 l1 l2 x0 x1 x2 lx
  refine (rSameW_any X0 x0' xc0 X1 x1' xc1 X2 x2' xc2 Y0 y0' yc0 Y1 y1' yc1 Y2 y2' yc2 y y w7 X7.out.s Y7.out.s).mono ?_
  rintro e w8 ⟨rfl, g8⟩
  rw [sameW_one]
  have T8 := Lib.hid (T7.out.on g8)
  have X8 := Lib.hid (X7.out.on g8)
  have Y8 := Lib.hid (Y7.out.on g8)
  clear g8 T7 X7 Y7 HD
  have rr : (r != r) = false := by simp
  have ee : (er != er) = false := by simp
  go_wp2_with fail
  clear rr ee
  refine (NewW_any n w8).mono ?_
  rintro e w9 ⟨U0, u0', uc0, U1, u1', uc1, U2, u2', uc2, rfl, g9, h9⟩
  obtain ⟨ne, hne⟩ : ∃ r, newE n = r := ⟨_, rfl⟩
  rw [hne]
  have HN := Lib.hid hne
  have T9 := Lib.hid (T8.out.on g9)
  have X9 := Lib.hid (X8.out.on g9)
  have Y9 := Lib.hid (Y8.out.on g9)
  have HU := Lib.hid h9
  clear g9 h9 T8 X8 Y8 hne
  have x0 := cell_of_row w9 _ 0 _ _ _ X9.out.b
  have x1 := cell_of_row w9 _ 1 _ _ _ X9.out.b
  have x2 := cell_of_row w9 _ 2 _ _ _ X9.out.b
  have f0 := frozen_of_row w9 _ 0 _ _ X9.out.b
  have f1 := frozen_of_row w9 _ 1 _ _ X9.out.b
  have f2 := frozen_of_row w9 _ 2 _ _ X9.out.b
  have lx := (Array.getElem?_eq_some_iff.1 X9.out.b).1
  simp at x0 x1 x2
  go_wp2_with fail
  have T10 := Lib.hid (T9.out.set3 (by omega) X9.out.b U0 U1 U2 u0' u1' u2' uc0 uc1 uc2)
  have X10 := Lib.hid (X9.out.set HU.out)
  have Y10 := Lib.hid (Y9.out.other (show Q ≠ P by omega) X9.out.b U0 U1 U2 u0' u1' u2' uc0 uc1 uc2)
  generalize ((w9.setCell ⟨P, 0, none⟩ (.slice U0 u0' uc0)).setCell ⟨P, 1, none⟩ (.slice U1 u1' uc1)).setCell ⟨P, 2, none⟩ (.slice U2 u2' uc2) = w10 at T10 X10 Y10 ⊢
  clear T9 X9 Y9 HU x0 x1 x2 f0 f1 f2 lx
  refine (rNewW_any n w10).mono ?_
  rintro e w11 ⟨V0, v0', vc0, V1, v1', vc1, V2, v2', vc2, rfl, g11, h11⟩
  rw [HN.out]
  have T11 := Lib.hid (T10.out.on g11)
  have X11 := Lib.hid (X10.out.on g11)
  have Y11 := Lib.hid (Y10.out.on g11)
  have HV := Lib.hid h11
  clear g11 h11 T10 X10 Y10
  have x0 := cell_of_row w11 _ 0 _ _ _ Y11.out.b
  have x1 := cell_of_row w11 _ 1 _ _ _ Y11.out.b
  have x2 := cell_of_row w11 _ 2 _ _ _ Y11.out.b
  have f0 := frozen_of_row w11 _ 0 _ _ Y11.out.b
  have f1 := frozen_of_row w11 _ 1 _ _ Y11.out.b
  have f2 := frozen_of_row w11 _ 2 _ _ Y11.out.b
  have lx := (Array.getElem?_eq_some_iff.1 Y11.out.b).1
  simp at x0 x1 x2
  go_upto_region 9 with fail
  have T12 := Lib.hid (T11.out.set3 (by omega) Y11.out.b V0 V1 V2 v0' v1' v2' vc0 vc1 vc2)
  have Y12 := Lib.hid (Y11.out.set HV.out)
  have X12 := Lib.hid (X11.out.other (show P ≠ Q by omega) Y11.out.b V0 V1 V2 v0' v1' v2' vc0 vc1 vc2)
  generalize ((w11.setCell ⟨Q, 0, none⟩ (.slice V0 v0' vc0)).setCell ⟨Q, 1, none⟩ (.slice V1 v1' vc1)).setCell ⟨Q, 2, none⟩ (.slice V2 v2' vc2) = wz at T12 X12 Y12 ⊢
  clear T11 X11 Y11 HV x0 x1 x2 f0 f1 f2 lx
  obtain ⟨ck, hck⟩ : ∃ q, chkW x = q := ⟨_, rfl⟩
  obtain ⟨mz, hmz⟩ : ∃ q, mayW x ⟨pk, pa, pb, pv, pg, pt, ps⟩ = q := ⟨_, rfl⟩
  obtain ⟨sz, hsz⟩ : ∃ q, sameW x o = q := ⟨_, rfl⟩
  have HC := Lib.hid (And.intro hck (And.intro hmz hsz))
  clear hck hmz hsz HN
  have d0 := cell_of_row wz _ 0 _ _ _ T12.out.b0
  have d1 := cell_of_row wz _ 1 _ _ _ T12.out.b0
  have d2 := cell_of_row wz _ 2 _ _ _ T12.out.b0
  have o0 := cell_of_row wz _ 0 _ _ _ T12.out.b1
  have o1 := cell_of_row wz _ 1 _ _ _ T12.out.b1
  have o2 := cell_of_row wz _ 2 _ _ _ T12.out.b1
  have t0 := cell_of_row wz _ 0 _ _ _ T12.out.b2
  have t1 := cell_of_row wz _ 1 _ _ _ T12.out.b2
  have t2 := cell_of_row wz _ 2 _ _ _ T12.out.b2
  have t3 := cell_of_row wz _ 3 _ _ _ T12.out.b2
  have t4 := cell_of_row wz _ 4 _ _ _ T12.out.b2
  have t5 := cell_of_row wz _ 5 _ _ _ T12.out.b2
  have t6 := cell_of_row wz _ 6 _ _ _ T12.out.b2
  have l0 := (Array.getElem?_eq_some_iff.1 T12.out.b0).1
  have l1 := (Array.getElem?_eq_some_iff.1 T12.out.b1).1
  have l2 := (Array.getElem?_eq_some_iff.1 T12.out.b2).1
  simp at d0 d1 d2 o0 o1 o2 t0 t1 t2 t3 t4 t5 t6
  have x0 := cell_of_row wz _ 0 _ _ _ X12.out.b
  have x1 := cell_of_row wz _ 1 _ _ _ X12.out.b
  have x2 := cell_of_row wz _ 2 _ _ _ X12.out.b
  have lx := (Array.getElem?_eq_some_iff.1 X12.out.b).1
  have y0 := cell_of_row wz _ 0 _ _ _ Y12.out.b
  have y1 := cell_of_row wz _ 1 _ _ _ Y12.out.b
  have y2 := cell_of_row wz _ 2 _ _ _ Y12.out.b
  have ly := (Array.getElem?_eq_some_iff.1 Y12.out.b).1
  simp at x0 x1 x2 y0 y1 y2
  have hx : ∀ W : World, wz.grownBy W none → ∀ b o, b < wz.heap.size → W.cell? ⟨b, o, none⟩ = wz.cell? ⟨b, o, none⟩ := fun W hW b o hb => hW.cell_far _ hb (by simp)
  have hd : wz.grownBy wz.drew none := ⟨rfl, rfl, rfl, Nat.le_refl _, fun _ _ _ => rfl⟩
  go_region_held3 (fun w' => wz.grownBy w' none) (first | exact kk | exact hd | go_keep)
    (first
      | (go_at_call_of 15 (Value.agg #[Value.slice U0 u0' uc0, Value.slice U1 u1' uc1, Value.slice U2 u2' uc2]); refine (rSameW_any U0 u0' uc0 U1 u1' uc1 U2 u2' uc2 V0 v0' vc0 V1 v1' vc1 V2 v2' vc2 _ _ _ (X12.out.s.on hd) (Y12.out.s.on hd)).mono ?_; rintro e W1 ⟨rfl, j1⟩; rw [sameW_one]; have kk := hd.trans j1)
      | (go_at_call 18; refine (CheckW_any A0 n0 c0 A1 n1 c1 A2 n2 c2 x _ (T12.out.s.on kk)).mono ?_; rintro e W2 ⟨rfl, j2⟩; rw [HC.out.1]; have kk := kk.trans j2)
      | (go_at_call 19; refine (rCheckW_any A0 n0 c0 A1 n1 c1 A2 n2 c2 x _ (T12.out.s.on kk)).mono ?_; rintro e W3 ⟨rfl, j3⟩; rw [HC.out.1]; have kk := kk.trans j3)
      | (go_at_call 20; refine (MayW_any A0 n0 c0 A1 n1 c1 A2 n2 c2 x pk pa pb pv pg pt ps pr pn pc pl pm _ (T12.out.s.on kk)).mono ?_; rintro e W4 ⟨rfl, j4⟩; rw [HC.out.2.1]; have kk := kk.trans j4)
      | (go_at_call 21; refine (rMayW_any A0 n0 c0 A1 n1 c1 A2 n2 c2 x pk pa pb pv pg pt ps pr pn pc pl pm _ (T12.out.s.on kk)).mono ?_; rintro e W5 ⟨rfl, j5⟩; rw [HC.out.2.1]; have kk := kk.trans j5)
      | (go_at_call 22; refine (SameW_any A0 n0 c0 A1 n1 c1 A2 n2 c2 B0 m0 k0 B1 m1 k1 B2 m2 k2 x o _ (T12.out.s.on kk) (T12.out.so.on kk)).mono ?_; rintro e W6 ⟨rfl, j6⟩; rw [HC.out.2.2]; have kk := kk.trans j6)
      | (go_at_call_of 15 (Value.agg #[Value.slice A0 n0 c0, Value.slice A1 n1 c1, Value.slice A2 n2 c2]); refine (rSameW_any A0 n0 c0 A1 n1 c1 A2 n2 c2 B0 m0 k0 B1 m1 k1 B2 m2 k2 x o _ (T12.out.s.on kk) (T12.out.so.on kk)).mono ?_; rintro e W7 ⟨rfl, j7⟩; rw [HC.out.2.2]; have kk := kk.trans j7)
      | (go_at_call 12; refine (wakesW_any _).mono ?_; rintro e W9 ⟨rfl, j9⟩; have kk := kk.trans j9))
  go_wp2_with fail
  go_ret
  exact ⟨rfl, T12.out.g.trans kk⟩
end Go.Proofs.Ytflenopenifofaa
