/- CellRuns: whatever the arguments, the call returns true and changes nothing that was there. No condition. -/
import Derived.Test.YtflenopenifofaaRn
import Derived.Test.YtflenopenifofaaWd9
import Derived.Test.YtflenopenifofaaRw5
namespace Go.Proofs.Ytflenopenifofaa
open Go Go.RowKit Go.Deep
attribute [local go_sem] cell?_ext frozen?_ext

set_option maxRecDepth 100000 in
set_option maxHeartbeats 16000000 in
theorem runs_any (A0 : Option Addr) (n0 c0 : Nat) (A1 : Option Addr) (n1 c1 : Nat) (A2 : Option Addr) (n2 c2 : Nat) (x : Wd) (A : Option Addr) (n c : Nat) (xs : List Ev9) (w : World) (h : WS w A0 n0 c0 A1 n1 c1 A2 n2 c2 x) (hs : Sl EEv w (· < w.heap.size) A n c xs) :
    Calls Try.prog 8 #[wdC A0 n0 c0 A1 n1 c1 A2 n2 c2, .slice A n c] w fun e w' => e = .returned (.bool true) ∧ w.grownBy w' none := by
  obtain ⟨q0, hq0⟩ : ∃ q, (decide ((1200 : Int) < (n0 : Int)) || greatD x.d) = q := ⟨_, rfl⟩
  obtain ⟨q1, hq1⟩ : ∃ q, greatE xs = q := ⟨_, rfl⟩
  have g0 := World.grownBy_alloc w (.cells #[.slice A0 n0 c0, .slice A1 n1 c1, .slice A2 n2 c2] 27) none
  have b0 := heap_alloc_new w (.cells #[.slice A0 n0 c0, .slice A1 n1 c1, .slice A2 n2 c2] 27)
  obtain ⟨w0, hw0⟩ : ∃ w0, w.alloc (.cells #[.slice A0 n0 c0, .slice A1 n1 c1, .slice A2 n2 c2] 27) = w0 := ⟨_, rfl⟩
  rw [hw0] at g0 b0
  have H0 := Lib.hid (And.intro (h.on g0) (And.intro (hs.on g0) (And.intro g0 b0)))
  have HW := Lib.hid hw0
  have HQ := Lib.hid (And.intro hq0 hq1)
  have t0 := cell_of_row w0 _ 0 _ _ _ b0
  have t1 := cell_of_row w0 _ 1 _ _ _ b0
  have t2 := cell_of_row w0 _ 2 _ _ _ b0
  have lx : w.heap.size < w0.heap.size := (Array.getElem?_eq_some_iff.1 b0).1
  simp at t0 t1 t2
  clear g0 b0 hw0 hq0 hq1 h hs
  go_enter Try.func8, Try.ntmps8
  go_wp2_with fail
  rw [HW.out]
  go_wp2_with fail
  refine (greatW_any A0 n0 c0 A1 n1 c1 A2 n2 c2 x w0 H0.out.1).mono ?_
  rintro e w1 ⟨rfl, g1⟩
  rw [HQ.out.1]
  have b1 := keepB H0.out.2.2.2 g1
  have H1 := Lib.hid (And.intro (H0.out.1.on g1) (And.intro (H0.out.2.1.on g1) (And.intro (H0.out.2.2.1.trans g1) b1)))
  clear t0 t1 t2 lx
  have t0 := cell_of_row w1 _ 0 _ _ _ b1
  have t1 := cell_of_row w1 _ 1 _ _ _ b1
  have t2 := cell_of_row w1 _ 2 _ _ _ b1
  have lx : w.heap.size < w1.heap.size := (Array.getElem?_eq_some_iff.1 b1).1
  simp at t0 t1 t2
  clear g1 b1 H0 HW
  cases q0
  case true =>
    go_wp2_with fail
    refine (wakesW_any _).mono ?_
    rintro e wz ⟨rfl, gz⟩
    go_wp2_with fail
    go_ret
    exact ⟨rfl, H1.out.2.2.1.trans gz⟩
  go_wp2_with fail
  refine (greatE_any A n c xs w1 H1.out.2.1).mono ?_
  rintro e w2 ⟨rfl, rfl⟩
  rw [HQ.out.2]
  cases q1
  case true =>
    go_wp2_with fail
    refine (wakesW_any _).mono ?_
    rintro e wz ⟨rfl, gz⟩
    go_wp2_with fail
    go_ret
    exact ⟨rfl, H1.out.2.2.1.trans gz⟩
  go_wp2_with fail
  refine (RunW_any A0 n0 c0 A1 n1 c1 A2 n2 c2 x A n c xs w1 H1.out.1 H1.out.2.1).mono ?_
  rintro e w3 ⟨y, k, err, hr, D0, r0, s0, D1, r1, s1, D2, r2, s2, rfl, g3, h3⟩
  have b3 := keepB H1.out.2.2.2 g3
  have H3 := Lib.hid (And.intro (H1.out.1.on g3) (And.intro (H1.out.2.1.on g3) (And.intro (H1.out.2.2.1.trans g3) (And.intro b3 h3))))
  have HR := Lib.hid hr
  clear t0 t1 t2 lx
  have t0 := cell_of_row w3 _ 0 _ _ _ b3
  have t1 := cell_of_row w3 _ 1 _ _ _ b3
  have t2 := cell_of_row w3 _ 2 _ _ _ b3
  have lx : w.heap.size < w3.heap.size := (Array.getElem?_eq_some_iff.1 b3).1
  simp at t0 t1 t2
  clear g3 h3 b3 H1 hr
  go_wp2_with fail
  have g4 := World.grownBy_alloc w3 (.cells #[.slice D0 r0 s0, .slice D1 r1 s1, .slice D2 r2 s2] 27) none
  have bo := heap_alloc_new w3 (.cells #[.slice D0 r0 s0, .slice D1 r1 s1, .slice D2 r2 s2] 27)
  obtain ⟨O, hO⟩ : ∃ O, w3.heap.size = O := ⟨_, rfl⟩
  rw [hO] at bo ⊢
  generalize w3.alloc (.cells #[.slice D0 r0 s0, .slice D1 r1 s1, .slice D2 r2 s2] 27) = w4 at g4 bo ⊢
  refine (rRunW_any A0 n0 c0 A1 n1 c1 A2 n2 c2 x A n c xs w4 (H3.out.1.on g4) (H3.out.2.1.on g4)).mono ?_
  rintro e w5 ⟨y2, k2, err2, hr, E0, p0, q0, E1, p1, q1, E2, p2, q2, rfl, g5, h5⟩
  obtain ⟨e1, e2, e3⟩ := HR.out.uniq hr
  subst e1 e2 e3
  have g45 := g4.trans g5
  have b5 := keepB bo g5
  have H5 := Lib.hid (And.intro (H3.out.2.2.2.2.on g45) (And.intro h5 (H3.out.2.2.1.trans g45)))
  clear t0 t1 t2 lx hO
  have o0 := cell_of_row w5 _ 0 _ _ _ b5
  have o1 := cell_of_row w5 _ 1 _ _ _ b5
  have o2 := cell_of_row w5 _ 2 _ _ _ b5
  have lO := (Array.getElem?_eq_some_iff.1 b5).1
  simp at o0 o1 o2
  clear g4 g5 g45 b5 bo h5 hr HR H3
  have i1 : ((k : Int) == (k : Int)) = true := by simp
  have i2 : (err == err) = true := by simp
  go_wp2_with fail
  have g6 := World.grownBy_alloc w5 (.cells #[.slice E0 p0 q0, .slice E1 p1 q1, .slice E2 p2 q2] 27) none
  generalize w5.alloc (.cells #[.slice E0 p0 q0, .slice E1 p1 q1, .slice E2 p2 q2] 27) = w6 at g6 ⊢
  refine (rSameW_any D0 r0 s0 D1 r1 s1 D2 r2 s2 E0 p0 q0 E1 p1 q1 E2 p2 q2 y y w6 (H5.out.1.on g6) (H5.out.2.1.on g6)).mono ?_
  rintro e w8 ⟨rfl, g8⟩
  rw [(sameW_iff y y).2 rfl]
  have HG := Lib.hid ((H5.out.2.2.trans g6).trans g8)
  clear g6 g8 H5
  go_wp2_with fail
  refine (wakesW_any _).mono ?_
  rintro e wz ⟨rfl, gz⟩
  go_wp2_with fail
  go_ret
  exact ⟨rfl, HG.out.trans gz⟩
end Go.Proofs.Ytflenopenifofaa
