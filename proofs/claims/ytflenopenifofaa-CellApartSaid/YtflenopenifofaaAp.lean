/- CellApart: whatever the arguments, the call returns true and changes nothing that was there. No condition. -/
import Derived.Test.YtflenopenifofaaWd5g
import Derived.Test.YtflenopenifofaaWd9
import Derived.Test.YtflenopenifofaaApQ
import Derived.Test.YtflenopenifofaaCas
import Derived.Deep.DeepCutAuto
namespace Go.Proofs.Ytflenopenifofaa
open Go Go.RowKit Go.Deep
attribute [local go_sem] cell?_ext frozen?_ext

theorem turned_do {x : Wd} {a b : Aw} (h : mayW x a = true) (h' : mayW x b = true) (t : Turned x a b) : ∃ y z u : Wd, ∃ r s : Int, (doW x a = y ∧ resW x a = r ∧ errW x a = 0) ∧ (doW y b = z ∧ resW y b = s ∧ errW y b = 0) ∧ (doW x b = u ∧ resW x b = s ∧ errW x b = 0) ∧ (doW u a = z ∧ resW u a = r ∧ errW u a = 0) :=
  ⟨_, _, _, _, _, do_yes h rfl rfl, do_yes t.1 rfl t.2.2.1, do_yes h' rfl rfl, do_yes t.2.1 t.2.2.2.2.symm t.2.2.2.1⟩
def tstB (c s d t : Int) : Bool := decide (0 ≤ c ∧ c = d) || decide (0 ≤ s ∧ s = t) || decide (s = -2 ∧ t ≠ -1) || decide (t = -2 ∧ s ≠ -1)
theorem sameW_self (x : Wd) : sameW x x = true := by unfold sameW; simp
set_option maxRecDepth 100000 in
set_option maxHeartbeats 16000000 in
theorem apart_any (A0 : Option Addr) (n0 c0 : Nat) (A1 : Option Addr) (n1 c1 : Nat) (A2 : Option Addr) (n2 c2 : Nat) (x : Wd) (pk pa pb pv pg : Int) (pt : ByteArray) (ps : List Int) (pr : Option Addr) (pn pc : Nat) (pl : ps.length = pn) (pm : pt.size ≤ maxLen) (qk qa qb qv qg : Int) (qt : ByteArray) (qs : List Int) (qr : Option Addr) (qn qc : Nat) (ql : qs.length = qn) (qm : qt.size ≤ maxLen) (w : World) (h : WS w A0 n0 c0 A1 n1 c1 A2 n2 c2 x) :
    Calls Try.prog 4 #[wdC A0 n0 c0 A1 n1 c1 A2 n2 c2, .agg #[.int .i8 pk, .int .i64 pa, .int .i64 pb, .int .i64 pv, .int .i64 pg, .string pt, .slice pr pn pc], .agg #[.int .i8 qk, .int .i64 qa, .int .i64 qb, .int .i64 qv, .int .i64 qg, .string qt, .slice qr qn qc]] w fun e w' => e = .returned (.bool true) ∧ w.grownBy w' none := by
  obtain ⟨q0, hq0⟩ : ∃ q, (decide ((1200 : Int) < (n0 : Int)) || greatD x.d) = q := ⟨_, rfl⟩
  obtain ⟨w0, hw0⟩ : ∃ w0, pushes w [.cells #[.slice A0 n0 c0, .slice A1 n1 c1, .slice A2 n2 c2] 27, .cells #[.int .i8 pk, .int .i64 pa, .int .i64 pb, .int .i64 pv, .int .i64 pg, .string pt, .slice pr pn pc] 30, .cells #[.int .i8 qk, .int .i64 qa, .int .i64 qb, .int .i64 qv, .int .i64 qg, .string qt, .slice qr qn qc] 30] = w0 := ⟨_, rfl⟩
  have g0 : w.grownBy w0 none := by rw [← hw0]; exact pushes_grown _ _
  have bx : w0.heap[w.heap.size]? = some (.cells #[.slice A0 n0 c0, .slice A1 n1 c1, .slice A2 n2 c2] 27 (0, 0)) := by rw [← hw0]; exact pushes_at w (i := 0) rfl
  have ba : w0.heap[w.heap.size + 1]? = some (.cells #[.int .i8 pk, .int .i64 pa, .int .i64 pb, .int .i64 pv, .int .i64 pg, .string pt, .slice pr pn pc] 30 (0, 0)) := by rw [← hw0]; exact pushes_at w (i := 1) rfl
  have bb : w0.heap[w.heap.size + 1 + 1]? = some (.cells #[.int .i8 qk, .int .i64 qa, .int .i64 qb, .int .i64 qv, .int .i64 qg, .string qt, .slice qr qn qc] 30 (0, 0)) := by rw [← hw0]; exact pushes_at w (i := 2) rfl
  simp only [pushes] at hw0
  have H0 := Lib.hid (And.intro (h.on g0) (And.intro g0 (And.intro bx (And.intro ba bb))))
  have HW := Lib.hid hw0
  have HQ := Lib.hid hq0
  have t0 := cell_of_row w0 _ 0 _ _ _ bx
  have t1 := cell_of_row w0 _ 1 _ _ _ bx
  have t2 := cell_of_row w0 _ 2 _ _ _ bx
  have u0 := cell_of_row w0 _ 0 _ _ _ ba
  have v0 := cell_of_row w0 _ 0 _ _ _ bb
  have u1 := cell_of_row w0 _ 1 _ _ _ ba
  have v1 := cell_of_row w0 _ 1 _ _ _ bb
  have u2 := cell_of_row w0 _ 2 _ _ _ ba
  have v2 := cell_of_row w0 _ 2 _ _ _ bb
  have u3 := cell_of_row w0 _ 3 _ _ _ ba
  have v3 := cell_of_row w0 _ 3 _ _ _ bb
  have u4 := cell_of_row w0 _ 4 _ _ _ ba
  have v4 := cell_of_row w0 _ 4 _ _ _ bb
  have u5 := cell_of_row w0 _ 5 _ _ _ ba
  have v5 := cell_of_row w0 _ 5 _ _ _ bb
  have u6 := cell_of_row w0 _ 6 _ _ _ ba
  have v6 := cell_of_row w0 _ 6 _ _ _ bb
  have lx : w.heap.size < w0.heap.size := (Array.getElem?_eq_some_iff.1 bx).1
  have la : w.heap.size + 1 < w0.heap.size := (Array.getElem?_eq_some_iff.1 ba).1
  have lb : w.heap.size + 1 + 1 < w0.heap.size := (Array.getElem?_eq_some_iff.1 bb).1
  simp at t0 t1 t2 u0 v0 u1 v1 u2 v2 u3 v3 u4 v4 u5 v5 u6 v6
  clear g0 bx ba bb hw0 hq0 h
  go_enter Try.func4, Try.ntmps4
  go_wp2_with fail
  rw [HW.out]
  go_wp2_with fail
  refine (greatW_any A0 n0 c0 A1 n1 c1 A2 n2 c2 x w0 H0.out.1).mono ?_
  rintro e w1 ⟨rfl, g1⟩
  rw [HQ.out]
  have bx := keepB H0.out.2.2.1 g1
  have ba := keepB H0.out.2.2.2.1 g1
  have bb := keepB H0.out.2.2.2.2 g1
  have H1 := Lib.hid (And.intro (H0.out.1.on g1) (And.intro (H0.out.2.1.trans g1) (And.intro bx (And.intro ba bb))))
  clear t0 t1 t2 u0 v0 u1 v1 u2 v2 u3 v3 u4 v4 u5 v5 u6 v6 lx la lb
  have t0 := cell_of_row w1 _ 0 _ _ _ bx
  have t1 := cell_of_row w1 _ 1 _ _ _ bx
  have t2 := cell_of_row w1 _ 2 _ _ _ bx
  have u0 := cell_of_row w1 _ 0 _ _ _ ba
  have v0 := cell_of_row w1 _ 0 _ _ _ bb
  have u1 := cell_of_row w1 _ 1 _ _ _ ba
  have v1 := cell_of_row w1 _ 1 _ _ _ bb
  have u2 := cell_of_row w1 _ 2 _ _ _ ba
  have v2 := cell_of_row w1 _ 2 _ _ _ bb
  have u3 := cell_of_row w1 _ 3 _ _ _ ba
  have v3 := cell_of_row w1 _ 3 _ _ _ bb
  have u4 := cell_of_row w1 _ 4 _ _ _ ba
  have v4 := cell_of_row w1 _ 4 _ _ _ bb
  have u5 := cell_of_row w1 _ 5 _ _ _ ba
  have v5 := cell_of_row w1 _ 5 _ _ _ bb
  have u6 := cell_of_row w1 _ 6 _ _ _ ba
  have v6 := cell_of_row w1 _ 6 _ _ _ bb
  have lx : w.heap.size < w1.heap.size := (Array.getElem?_eq_some_iff.1 bx).1
  have la : w.heap.size + 1 < w1.heap.size := (Array.getElem?_eq_some_iff.1 ba).1
  have lb : w.heap.size + 1 + 1 < w1.heap.size := (Array.getElem?_eq_some_iff.1 bb).1
  simp at t0 t1 t2 u0 v0 u1 v1 u2 v2 u3 v3 u4 v4 u5 v5 u6 v6
  clear g1 bx ba bb H0
  cases q0
  case true =>
    go_wp2_with fail
    refine (wakesW_any _).mono ?_
    rintro e wz ⟨rfl, gz⟩
    go_wp2_with fail
    go_ret
    exact ⟨rfl, H1.out.2.1.trans gz⟩
  obtain ⟨zp, hzp⟩ : ∃ z, (decide ((2000 : Int) < (pt.size : Int)) || decide ((200 : Int) < (pn : Int))) = z := ⟨_, rfl⟩
  have HZp := Lib.hid hzp
  clear hzp
  go_wp2_with fail
  refine (act_any pk pa pb pv pg pt pr pn pc w1).mono ?_
  rintro e w2 ⟨rfl, g2⟩
  rw [HZp.out]
  have bx := keepB H1.out.2.2.1 g2
  have ba := keepB H1.out.2.2.2.1 g2
  have bb := keepB H1.out.2.2.2.2 g2
  have H2 := Lib.hid (And.intro (H1.out.1.on g2) (And.intro (H1.out.2.1.trans g2) (And.intro bx (And.intro ba bb))))
  clear t0 t1 t2 u0 v0 u1 v1 u2 v2 u3 v3 u4 v4 u5 v5 u6 v6 lx la lb
  have t0 := cell_of_row w2 _ 0 _ _ _ bx
  have t1 := cell_of_row w2 _ 1 _ _ _ bx
  have t2 := cell_of_row w2 _ 2 _ _ _ bx
  have u0 := cell_of_row w2 _ 0 _ _ _ ba
  have v0 := cell_of_row w2 _ 0 _ _ _ bb
  have u1 := cell_of_row w2 _ 1 _ _ _ ba
  have v1 := cell_of_row w2 _ 1 _ _ _ bb
  have u2 := cell_of_row w2 _ 2 _ _ _ ba
  have v2 := cell_of_row w2 _ 2 _ _ _ bb
  have u3 := cell_of_row w2 _ 3 _ _ _ ba
  have v3 := cell_of_row w2 _ 3 _ _ _ bb
  have u4 := cell_of_row w2 _ 4 _ _ _ ba
  have v4 := cell_of_row w2 _ 4 _ _ _ bb
  have u5 := cell_of_row w2 _ 5 _ _ _ ba
  have v5 := cell_of_row w2 _ 5 _ _ _ bb
  have u6 := cell_of_row w2 _ 6 _ _ _ ba
  have v6 := cell_of_row w2 _ 6 _ _ _ bb
  have lx : w.heap.size < w2.heap.size := (Array.getElem?_eq_some_iff.1 bx).1
  have la : w.heap.size + 1 < w2.heap.size := (Array.getElem?_eq_some_iff.1 ba).1
  have lb : w.heap.size + 1 + 1 < w2.heap.size := (Array.getElem?_eq_some_iff.1 bb).1
  simp at t0 t1 t2 u0 v0 u1 v1 u2 v2 u3 v3 u4 v4 u5 v5 u6 v6
  clear g2 bx ba bb H1
  cases zp
  case true =>
    go_wp2_with fail
    refine (wakesW_any _).mono ?_
    rintro e wz ⟨rfl, gz⟩
    go_wp2_with fail
    go_ret
    exact ⟨rfl, H2.out.2.1.trans gz⟩
  obtain ⟨zq, hzq⟩ : ∃ z, (decide ((2000 : Int) < (qt.size : Int)) || decide ((200 : Int) < (qn : Int))) = z := ⟨_, rfl⟩
  have HZq := Lib.hid hzq
  clear hzq
  go_wp2_with fail
  refine (act_any qk qa qb qv qg qt qr qn qc w2).mono ?_
  rintro e w3 ⟨rfl, g3⟩
  rw [HZq.out]
  have bx := keepB H2.out.2.2.1 g3
  have ba := keepB H2.out.2.2.2.1 g3
  have bb := keepB H2.out.2.2.2.2 g3
  have H3 := Lib.hid (And.intro (H2.out.1.on g3) (And.intro (H2.out.2.1.trans g3) (And.intro bx (And.intro ba bb))))
  clear t0 t1 t2 u0 v0 u1 v1 u2 v2 u3 v3 u4 v4 u5 v5 u6 v6 lx la lb
  have t0 := cell_of_row w3 _ 0 _ _ _ bx
  have t1 := cell_of_row w3 _ 1 _ _ _ bx
  have t2 := cell_of_row w3 _ 2 _ _ _ bx
  have u0 := cell_of_row w3 _ 0 _ _ _ ba
  have v0 := cell_of_row w3 _ 0 _ _ _ bb
  have u1 := cell_of_row w3 _ 1 _ _ _ ba
  have v1 := cell_of_row w3 _ 1 _ _ _ bb
  have u2 := cell_of_row w3 _ 2 _ _ _ ba
  have v2 := cell_of_row w3 _ 2 _ _ _ bb
  have u3 := cell_of_row w3 _ 3 _ _ _ ba
  have v3 := cell_of_row w3 _ 3 _ _ _ bb
  have u4 := cell_of_row w3 _ 4 _ _ _ ba
  have v4 := cell_of_row w3 _ 4 _ _ _ bb
  have u5 := cell_of_row w3 _ 5 _ _ _ ba
  have v5 := cell_of_row w3 _ 5 _ _ _ bb
  have u6 := cell_of_row w3 _ 6 _ _ _ ba
  have v6 := cell_of_row w3 _ 6 _ _ _ bb
  have lx : w.heap.size < w3.heap.size := (Array.getElem?_eq_some_iff.1 bx).1
  have la : w.heap.size + 1 < w3.heap.size := (Array.getElem?_eq_some_iff.1 ba).1
  have lb : w.heap.size + 1 + 1 < w3.heap.size := (Array.getElem?_eq_some_iff.1 bb).1
  simp at t0 t1 t2 u0 v0 u1 v1 u2 v2 u3 v3 u4 v4 u5 v5 u6 v6
  clear g3 bx ba bb H2
  cases zq
  case true =>
    go_wp2_with fail
    refine (wakesW_any _).mono ?_
    rintro e wz ⟨rfl, gz⟩
    go_wp2_with fail
    go_ret
    exact ⟨rfl, H3.out.2.1.trans gz⟩
  obtain ⟨mp, hmp⟩ : ∃ z, mayW x ⟨pk, pa, pb, pv, pg, pt, ps⟩ = z := ⟨_, rfl⟩
  have HMp := Lib.hid hmp
  clear hmp
  go_wp2_with fail
  refine (MayW_any A0 n0 c0 A1 n1 c1 A2 n2 c2 x pk pa pb pv pg pt ps pr pn pc pl pm w3 H3.out.1).mono ?_
  rintro e w4 ⟨rfl, g4⟩
  rw [HMp.out]
  have bx := keepB H3.out.2.2.1 g4
  have ba := keepB H3.out.2.2.2.1 g4
  have bb := keepB H3.out.2.2.2.2 g4
  have H4 := Lib.hid (And.intro (H3.out.1.on g4) (And.intro (H3.out.2.1.trans g4) (And.intro bx (And.intro ba bb))))
  clear t0 t1 t2 u0 v0 u1 v1 u2 v2 u3 v3 u4 v4 u5 v5 u6 v6 lx la lb
  have t0 := cell_of_row w4 _ 0 _ _ _ bx
  have t1 := cell_of_row w4 _ 1 _ _ _ bx
  have t2 := cell_of_row w4 _ 2 _ _ _ bx
  have u0 := cell_of_row w4 _ 0 _ _ _ ba
  have v0 := cell_of_row w4 _ 0 _ _ _ bb
  have u1 := cell_of_row w4 _ 1 _ _ _ ba
  have v1 := cell_of_row w4 _ 1 _ _ _ bb
  have u2 := cell_of_row w4 _ 2 _ _ _ ba
  have v2 := cell_of_row w4 _ 2 _ _ _ bb
  have u3 := cell_of_row w4 _ 3 _ _ _ ba
  have v3 := cell_of_row w4 _ 3 _ _ _ bb
  have u4 := cell_of_row w4 _ 4 _ _ _ ba
  have v4 := cell_of_row w4 _ 4 _ _ _ bb
  have u5 := cell_of_row w4 _ 5 _ _ _ ba
  have v5 := cell_of_row w4 _ 5 _ _ _ bb
  have u6 := cell_of_row w4 _ 6 _ _ _ ba
  have v6 := cell_of_row w4 _ 6 _ _ _ bb
  have lx : w.heap.size < w4.heap.size := (Array.getElem?_eq_some_iff.1 bx).1
  have la : w.heap.size + 1 < w4.heap.size := (Array.getElem?_eq_some_iff.1 ba).1
  have lb : w.heap.size + 1 + 1 < w4.heap.size := (Array.getElem?_eq_some_iff.1 bb).1
  simp at t0 t1 t2 u0 v0 u1 v1 u2 v2 u3 v3 u4 v4 u5 v5 u6 v6
  clear g4 bx ba bb H3
  cases mp
  case false =>
    go_wp2_with fail
    refine (wakesW_any _).mono ?_
    rintro e wz ⟨rfl, gz⟩
    go_wp2_with fail
    go_ret
    exact ⟨rfl, H4.out.2.1.trans gz⟩
  obtain ⟨mq, hmq⟩ : ∃ z, mayW x ⟨qk, qa, qb, qv, qg, qt, qs⟩ = z := ⟨_, rfl⟩
  have HMq := Lib.hid hmq
  clear hmq
  go_wp2_with fail
  refine (MayW_any A0 n0 c0 A1 n1 c1 A2 n2 c2 x qk qa qb qv qg qt qs qr qn qc ql qm w4 H4.out.1).mono ?_
  rintro e w5 ⟨rfl, g5⟩
  rw [HMq.out]
  have bx := keepB H4.out.2.2.1 g5
  have ba := keepB H4.out.2.2.2.1 g5
  have bb := keepB H4.out.2.2.2.2 g5
  have H5 := Lib.hid (And.intro (H4.out.1.on g5) (And.intro (H4.out.2.1.trans g5) (And.intro bx (And.intro ba bb))))
  clear t0 t1 t2 u0 v0 u1 v1 u2 v2 u3 v3 u4 v4 u5 v5 u6 v6 lx la lb
  have t0 := cell_of_row w5 _ 0 _ _ _ bx
  have t1 := cell_of_row w5 _ 1 _ _ _ bx
  have t2 := cell_of_row w5 _ 2 _ _ _ bx
  have u0 := cell_of_row w5 _ 0 _ _ _ ba
  have v0 := cell_of_row w5 _ 0 _ _ _ bb
  have u1 := cell_of_row w5 _ 1 _ _ _ ba
  have v1 := cell_of_row w5 _ 1 _ _ _ bb
  have u2 := cell_of_row w5 _ 2 _ _ _ ba
  have v2 := cell_of_row w5 _ 2 _ _ _ bb
  have u3 := cell_of_row w5 _ 3 _ _ _ ba
  have v3 := cell_of_row w5 _ 3 _ _ _ bb
  have u4 := cell_of_row w5 _ 4 _ _ _ ba
  have v4 := cell_of_row w5 _ 4 _ _ _ bb
  have u5 := cell_of_row w5 _ 5 _ _ _ ba
  have v5 := cell_of_row w5 _ 5 _ _ _ bb
  have u6 := cell_of_row w5 _ 6 _ _ _ ba
  have v6 := cell_of_row w5 _ 6 _ _ _ bb
  have lx : w.heap.size < w5.heap.size := (Array.getElem?_eq_some_iff.1 bx).1
  have la : w.heap.size + 1 < w5.heap.size := (Array.getElem?_eq_some_iff.1 ba).1
  have lb : w.heap.size + 1 + 1 < w5.heap.size := (Array.getElem?_eq_some_iff.1 bb).1
  simp at t0 t1 t2 u0 v0 u1 v1 u2 v2 u3 v3 u4 v4 u5 v5 u6 v6
  clear g5 bx ba bb H4
  cases mq
  case false =>
    go_wp2_with fail
    refine (wakesW_any _).mono ?_
    rintro e wz ⟨rfl, gz⟩
    go_wp2_with fail
    go_ret
    exact ⟨rfl, H5.out.2.1.trans gz⟩
  obtain ⟨cp, hcp⟩ : ∃ z, (touch pk pa).1 = z := ⟨_, rfl⟩
  obtain ⟨sp, hsp⟩ : ∃ z, (touch pk pa).2 = z := ⟨_, rfl⟩
  have HTp := Lib.hid (And.intro hcp hsp)
  clear hcp hsp
  go_wp2_with fail
  refine (touches_any pk pa pb pv pg pt pr pn pc w5).mono ?_
  rintro e w6 ⟨rfl, g6⟩
  rw [HTp.out.1, HTp.out.2]
  have bx := keepB H5.out.2.2.1 g6
  have ba := keepB H5.out.2.2.2.1 g6
  have bb := keepB H5.out.2.2.2.2 g6
  have H6 := Lib.hid (And.intro (H5.out.1.on g6) (And.intro (H5.out.2.1.trans g6) (And.intro bx (And.intro ba bb))))
  clear t0 t1 t2 u0 v0 u1 v1 u2 v2 u3 v3 u4 v4 u5 v5 u6 v6 lx la lb
  have t0 := cell_of_row w6 _ 0 _ _ _ bx
  have t1 := cell_of_row w6 _ 1 _ _ _ bx
  have t2 := cell_of_row w6 _ 2 _ _ _ bx
  have u0 := cell_of_row w6 _ 0 _ _ _ ba
  have v0 := cell_of_row w6 _ 0 _ _ _ bb
  have u1 := cell_of_row w6 _ 1 _ _ _ ba
  have v1 := cell_of_row w6 _ 1 _ _ _ bb
  have u2 := cell_of_row w6 _ 2 _ _ _ ba
  have v2 := cell_of_row w6 _ 2 _ _ _ bb
  have u3 := cell_of_row w6 _ 3 _ _ _ ba
  have v3 := cell_of_row w6 _ 3 _ _ _ bb
  have u4 := cell_of_row w6 _ 4 _ _ _ ba
  have v4 := cell_of_row w6 _ 4 _ _ _ bb
  have u5 := cell_of_row w6 _ 5 _ _ _ ba
  have v5 := cell_of_row w6 _ 5 _ _ _ bb
  have u6 := cell_of_row w6 _ 6 _ _ _ ba
  have v6 := cell_of_row w6 _ 6 _ _ _ bb
  have lx : w.heap.size < w6.heap.size := (Array.getElem?_eq_some_iff.1 bx).1
  have la : w.heap.size + 1 < w6.heap.size := (Array.getElem?_eq_some_iff.1 ba).1
  have lb : w.heap.size + 1 + 1 < w6.heap.size := (Array.getElem?_eq_some_iff.1 bb).1
  simp at t0 t1 t2 u0 v0 u1 v1 u2 v2 u3 v3 u4 v4 u5 v5 u6 v6
  clear g6 bx ba bb H5
  obtain ⟨cq, hcq⟩ : ∃ z, (touch qk qa).1 = z := ⟨_, rfl⟩
  obtain ⟨sq, hsq⟩ : ∃ z, (touch qk qa).2 = z := ⟨_, rfl⟩
  have HTq := Lib.hid (And.intro hcq hsq)
  clear hcq hsq
  go_wp2_with fail
  refine (touches_any qk qa qb qv qg qt qr qn qc w6).mono ?_
  rintro e w7 ⟨rfl, g7⟩
  rw [HTq.out.1, HTq.out.2]
  have bx := keepB H6.out.2.2.1 g7
  have ba := keepB H6.out.2.2.2.1 g7
  have bb := keepB H6.out.2.2.2.2 g7
  have H7 := Lib.hid (And.intro (H6.out.1.on g7) (And.intro (H6.out.2.1.trans g7) (And.intro bx (And.intro ba bb))))
  clear t0 t1 t2 u0 v0 u1 v1 u2 v2 u3 v3 u4 v4 u5 v5 u6 v6 lx la lb
  have t0 := cell_of_row w7 _ 0 _ _ _ bx
  have t1 := cell_of_row w7 _ 1 _ _ _ bx
  have t2 := cell_of_row w7 _ 2 _ _ _ bx
  have u0 := cell_of_row w7 _ 0 _ _ _ ba
  have v0 := cell_of_row w7 _ 0 _ _ _ bb
  have u1 := cell_of_row w7 _ 1 _ _ _ ba
  have v1 := cell_of_row w7 _ 1 _ _ _ bb
  have u2 := cell_of_row w7 _ 2 _ _ _ ba
  have v2 := cell_of_row w7 _ 2 _ _ _ bb
  have u3 := cell_of_row w7 _ 3 _ _ _ ba
  have v3 := cell_of_row w7 _ 3 _ _ _ bb
  have u4 := cell_of_row w7 _ 4 _ _ _ ba
  have v4 := cell_of_row w7 _ 4 _ _ _ bb
  have u5 := cell_of_row w7 _ 5 _ _ _ ba
  have v5 := cell_of_row w7 _ 5 _ _ _ bb
  have u6 := cell_of_row w7 _ 6 _ _ _ ba
  have v6 := cell_of_row w7 _ 6 _ _ _ bb
  have lx : w.heap.size < w7.heap.size := (Array.getElem?_eq_some_iff.1 bx).1
  have la : w.heap.size + 1 < w7.heap.size := (Array.getElem?_eq_some_iff.1 ba).1
  have lb : w.heap.size + 1 + 1 < w7.heap.size := (Array.getElem?_eq_some_iff.1 bb).1
  simp at t0 t1 t2 u0 v0 u1 v1 u2 v2 u3 v3 u4 v4 u5 v5 u6 v6
  clear g7 bx ba bb H6
  go_upto_region 5 with fail
  go_cut [87] (fun s87 wx => s87 = .bool (tstB cp sp cq sq) ∧ w7 = wx)
  case first =>
    clear HZp HZq HMp HMq HTp HTq H7 t0 t1 t2 u0 v0 u1 v1 u2 v2 u3 v3 u4 v4 u5 v5 u6 v6 lx la lb
    by_cases c0 : 0 ≤ cp
    · by_cases c1 : cp = cq
      · have HT := Lib.hid (show tstB cp sp cq sq = true by unfold tstB; simp; omega)
        have a0 : (cp == cq) = true := by simp; omega
        clear c1
        go_wp2_with fail
        go_meet
        exact ⟨by rw [HT.out], rfl⟩
      · by_cases s0 : 0 ≤ sp
        · by_cases s1 : sp = sq
          · have HT := Lib.hid (show tstB cp sp cq sq = true by unfold tstB; simp; omega)
            have a0 : (cp == cq) = false := by simp; omega
            have a1 : (sp == sq) = true := by simp; omega
            clear c1 s1
            go_wp2_with fail
            go_meet
            exact ⟨by rw [HT.out], rfl⟩
          · by_cases s3 : sq = -2
            · have HT := Lib.hid (show tstB cp sp cq sq = true by unfold tstB; simp; omega)
              have a0 : (cp == cq) = false := by simp; omega
              have a1 : (sp == sq) = false := by simp; omega
              have a2 : (sp == (-2)) = false := by simp; omega
              have a3 : (sq == (-2)) = true := by simp; omega
              have a4 : (sp != (-1)) = true := by simp; omega
              clear c1 s1 s3
              go_wp2_with fail
              go_meet
              exact ⟨by rw [HT.out], rfl⟩
            · have HT := Lib.hid (show tstB cp sp cq sq = false by unfold tstB; simp; omega)
              have a0 : (cp == cq) = false := by simp; omega
              have a1 : (sp == sq) = false := by simp; omega
              have a2 : (sp == (-2)) = false := by simp; omega
              have a3 : (sq == (-2)) = false := by simp; omega
              clear c1 s1 s3
              go_wp2_with fail
              go_meet
              exact ⟨by rw [HT.out], rfl⟩
        · by_cases s2 : sp = -2
          · by_cases s3 : sq = -1
            · have HT := Lib.hid (show tstB cp sp cq sq = false by unfold tstB; simp; omega)
              have a0 : (cp == cq) = false := by simp; omega
              have a1 : (sp == (-2)) = true := by simp; omega
              have a2 : (sq != (-1)) = false := by simp; omega
              have a3 : (sq == (-2)) = false := by simp; omega
              clear c1 s2 s3
              go_wp2_with fail
              go_meet
              exact ⟨by rw [HT.out], rfl⟩
            · have HT := Lib.hid (show tstB cp sp cq sq = true by unfold tstB; simp; omega)
              have a0 : (cp == cq) = false := by simp; omega
              have a1 : (sp == (-2)) = true := by simp; omega
              have a2 : (sq != (-1)) = true := by simp; omega
              clear c1 s2 s3
              go_wp2_with fail
              go_meet
              exact ⟨by rw [HT.out], rfl⟩
          · by_cases s3 : sq = -2
            · by_cases s4 : sp = -1
              · have HT := Lib.hid (show tstB cp sp cq sq = false by unfold tstB; simp; omega)
                have a0 : (cp == cq) = false := by simp; omega
                have a1 : (sp == (-2)) = false := by simp; omega
                have a2 : (sq == (-2)) = true := by simp; omega
                have a3 : (sp != (-1)) = false := by simp; omega
                clear c1 s2 s3 s4
                go_wp2_with fail
                go_meet
                exact ⟨by rw [HT.out], rfl⟩
              · have HT := Lib.hid (show tstB cp sp cq sq = true by unfold tstB; simp; omega)
                have a0 : (cp == cq) = false := by simp; omega
                have a1 : (sp == (-2)) = false := by simp; omega
                have a2 : (sq == (-2)) = true := by simp; omega
                have a3 : (sp != (-1)) = true := by simp; omega
                clear c1 s2 s3 s4
                go_wp2_with fail
                go_meet
                exact ⟨by rw [HT.out], rfl⟩
            · have HT := Lib.hid (show tstB cp sp cq sq = false by unfold tstB; simp; omega)
              have a0 : (cp == cq) = false := by simp; omega
              have a1 : (sp == (-2)) = false := by simp; omega
              have a2 : (sq == (-2)) = false := by simp; omega
              clear c1 s2 s3
              go_wp2_with fail
              go_meet
              exact ⟨by rw [HT.out], rfl⟩
    · by_cases s0 : 0 ≤ sp
      · by_cases s1 : sp = sq
        · have HT := Lib.hid (show tstB cp sp cq sq = true by unfold tstB; simp; omega)
          have a0 : (sp == sq) = true := by simp; omega
          clear s1
          go_wp2_with fail
          go_meet
          exact ⟨by rw [HT.out], rfl⟩
        · by_cases s3 : sq = -2
          · have HT := Lib.hid (show tstB cp sp cq sq = true by unfold tstB; simp; omega)
            have a0 : (sp == sq) = false := by simp; omega
            have a1 : (sp == (-2)) = false := by simp; omega
            have a2 : (sq == (-2)) = true := by simp; omega
            have a3 : (sp != (-1)) = true := by simp; omega
            clear s1 s3
            go_wp2_with fail
            go_meet
            exact ⟨by rw [HT.out], rfl⟩
          · have HT := Lib.hid (show tstB cp sp cq sq = false by unfold tstB; simp; omega)
            have a0 : (sp == sq) = false := by simp; omega
            have a1 : (sp == (-2)) = false := by simp; omega
            have a2 : (sq == (-2)) = false := by simp; omega
            clear s1 s3
            go_wp2_with fail
            go_meet
            exact ⟨by rw [HT.out], rfl⟩
      · by_cases s2 : sp = -2
        · by_cases s3 : sq = -1
          · have HT := Lib.hid (show tstB cp sp cq sq = false by unfold tstB; simp; omega)
            have a0 : (sp == (-2)) = true := by simp; omega
            have a1 : (sq != (-1)) = false := by simp; omega
            have a2 : (sq == (-2)) = false := by simp; omega
            clear s2 s3
            go_wp2_with fail
            go_meet
            exact ⟨by rw [HT.out], rfl⟩
          · have HT := Lib.hid (show tstB cp sp cq sq = true by unfold tstB; simp; omega)
            have a0 : (sp == (-2)) = true := by simp; omega
            have a1 : (sq != (-1)) = true := by simp; omega
            clear s2 s3
            go_wp2_with fail
            go_meet
            exact ⟨by rw [HT.out], rfl⟩
        · by_cases s3 : sq = -2
          · by_cases s4 : sp = -1
            · have HT := Lib.hid (show tstB cp sp cq sq = false by unfold tstB; simp; omega)
              have a0 : (sp == (-2)) = false := by simp; omega
              have a1 : (sq == (-2)) = true := by simp; omega
              have a2 : (sp != (-1)) = false := by simp; omega
              clear s2 s3 s4
              go_wp2_with fail
              go_meet
              exact ⟨by rw [HT.out], rfl⟩
            · have HT := Lib.hid (show tstB cp sp cq sq = true by unfold tstB; simp; omega)
              have a0 : (sp == (-2)) = false := by simp; omega
              have a1 : (sq == (-2)) = true := by simp; omega
              have a2 : (sp != (-1)) = true := by simp; omega
              clear s2 s3 s4
              go_wp2_with fail
              go_meet
              exact ⟨by rw [HT.out], rfl⟩
          · have HT := Lib.hid (show tstB cp sp cq sq = false by unfold tstB; simp; omega)
            have a0 : (sp == (-2)) = false := by simp; omega
            have a1 : (sq == (-2)) = false := by simp; omega
            clear s2 s3
            go_wp2_with fail
            go_meet
            exact ⟨by rw [HT.out], rfl⟩
  case rest =>
    obtain ⟨rfl, rfl⟩ := hcut
    obtain ⟨q, hq⟩ : ∃ q, tstB cp sp cq sq = q := ⟨_, rfl⟩
    rw [hq]
    have HT := Lib.hid hq
    clear hq
    cases q
    case true =>
      go_wp2_with fail
      refine (wakesW_any _).mono ?_
      rintro e wz ⟨rfl, gz⟩
      go_wp2_with fail
      go_ret
      exact ⟨rfl, H7.out.2.1.trans gz⟩
    have hq := HT.out
    unfold tstB at hq
    simp only [Bool.or_eq_false_iff, decide_eq_false_iff_not] at hq
    obtain ⟨⟨⟨E1, E2⟩, E3⟩, E4⟩ := hq
    have T := turned_law HMp.out HMq.out (by rw [HTp.out.1, HTq.out.1]; exact E1) (by rw [HTp.out.2, HTq.out.2]; exact E2) (by rw [HTp.out.2, HTq.out.2]; exact E3) (by rw [HTp.out.2, HTq.out.2]; exact E4)
    obtain ⟨y, z, u, r, s, L1, L2, L3, L4⟩ := turned_do HMp.out HMq.out T
    have L := Lib.hid (And.intro L1 (And.intro L2 (And.intro L3 L4)))
    have i1 : (r == r) = true := by simp
    have i2 : (s == s) = true := by simp
    clear T L1 L2 L3 L4 E1 E2 E3 E4
    go_wp2_with fail
    refine (DoW_any A0 n0 c0 A1 n1 c1 A2 n2 c2 x pk pa pb pv pg pt ps pr pn pc pl pm w7 H7.out.1).mono ?_
    rintro e w8 ⟨D0, Dm0, Dk0, D1, Dm1, Dk1, D2, Dm2, Dk2, rfl, g8, h8⟩
    rw [L.out.1.2.1, L.out.1.2.2]
    rw [L.out.1.1] at h8
    have bx := keepB H7.out.2.2.1 g8
    have ba := keepB H7.out.2.2.2.1 g8
    have bb := keepB H7.out.2.2.2.2 g8
    have H8 := Lib.hid (And.intro (H7.out.1.on g8) (And.intro (H7.out.2.1.trans g8) (And.intro bx (And.intro ba bb))))
    clear t0 t1 t2 u0 v0 u1 v1 u2 v2 u3 v3 u4 v4 u5 v5 u6 v6 lx la lb
    have t0 := cell_of_row w8 _ 0 _ _ _ bx
    have t1 := cell_of_row w8 _ 1 _ _ _ bx
    have t2 := cell_of_row w8 _ 2 _ _ _ bx
    have u0 := cell_of_row w8 _ 0 _ _ _ ba
    have v0 := cell_of_row w8 _ 0 _ _ _ bb
    have u1 := cell_of_row w8 _ 1 _ _ _ ba
    have v1 := cell_of_row w8 _ 1 _ _ _ bb
    have u2 := cell_of_row w8 _ 2 _ _ _ ba
    have v2 := cell_of_row w8 _ 2 _ _ _ bb
    have u3 := cell_of_row w8 _ 3 _ _ _ ba
    have v3 := cell_of_row w8 _ 3 _ _ _ bb
    have u4 := cell_of_row w8 _ 4 _ _ _ ba
    have v4 := cell_of_row w8 _ 4 _ _ _ bb
    have u5 := cell_of_row w8 _ 5 _ _ _ ba
    have v5 := cell_of_row w8 _ 5 _ _ _ bb
    have u6 := cell_of_row w8 _ 6 _ _ _ ba
    have v6 := cell_of_row w8 _ 6 _ _ _ bb
    have lx : w.heap.size < w8.heap.size := (Array.getElem?_eq_some_iff.1 bx).1
    have la : w.heap.size + 1 < w8.heap.size := (Array.getElem?_eq_some_iff.1 ba).1
    have lb : w.heap.size + 1 + 1 < w8.heap.size := (Array.getElem?_eq_some_iff.1 bb).1
    simp at t0 t1 t2 u0 v0 u1 v1 u2 v2 u3 v3 u4 v4 u5 v5 u6 v6
    have hY := Lib.hid h8
    clear g8 bx ba bb h8 H7
    go_wp2_with fail
    have g9 := World.grownBy_alloc w8 (.cells #[.slice D0 Dm0 Dk0, .slice D1 Dm1 Dk1, .slice D2 Dm2 Dk2] 27) none
    generalize w8.alloc (.cells #[.slice D0 Dm0 Dk0, .slice D1 Dm1 Dk1, .slice D2 Dm2 Dk2] 27) = w9 at g9 ⊢
    refine (DoW_any D0 Dm0 Dk0 D1 Dm1 Dk1 D2 Dm2 Dk2 y qk qa qb qv qg qt qs qr qn qc ql qm w9 (hY.out.on g9)).mono ?_
    rintro e w10 ⟨E0, Em0, Ek0, E1, Em1, Ek1, E2, Em2, Ek2, rfl, g10, h10⟩
    rw [L.out.2.1.2.1, L.out.2.1.2.2]
    rw [L.out.2.1.1] at h10
    have g10 := g9.trans g10
    have bx := keepB H8.out.2.2.1 g10
    have ba := keepB H8.out.2.2.2.1 g10
    have bb := keepB H8.out.2.2.2.2 g10
    have H10 := Lib.hid (And.intro (H8.out.1.on g10) (And.intro (H8.out.2.1.trans g10) (And.intro bx (And.intro ba bb))))
    clear t0 t1 t2 u0 v0 u1 v1 u2 v2 u3 v3 u4 v4 u5 v5 u6 v6 lx la lb
    have t0 := cell_of_row w10 _ 0 _ _ _ bx
    have t1 := cell_of_row w10 _ 1 _ _ _ bx
    have t2 := cell_of_row w10 _ 2 _ _ _ bx
    have u0 := cell_of_row w10 _ 0 _ _ _ ba
    have v0 := cell_of_row w10 _ 0 _ _ _ bb
    have u1 := cell_of_row w10 _ 1 _ _ _ ba
    have v1 := cell_of_row w10 _ 1 _ _ _ bb
    have u2 := cell_of_row w10 _ 2 _ _ _ ba
    have v2 := cell_of_row w10 _ 2 _ _ _ bb
    have u3 := cell_of_row w10 _ 3 _ _ _ ba
    have v3 := cell_of_row w10 _ 3 _ _ _ bb
    have u4 := cell_of_row w10 _ 4 _ _ _ ba
    have v4 := cell_of_row w10 _ 4 _ _ _ bb
    have u5 := cell_of_row w10 _ 5 _ _ _ ba
    have v5 := cell_of_row w10 _ 5 _ _ _ bb
    have u6 := cell_of_row w10 _ 6 _ _ _ ba
    have v6 := cell_of_row w10 _ 6 _ _ _ bb
    have lx : w.heap.size < w10.heap.size := (Array.getElem?_eq_some_iff.1 bx).1
    have la : w.heap.size + 1 < w10.heap.size := (Array.getElem?_eq_some_iff.1 ba).1
    have lb : w.heap.size + 1 + 1 < w10.heap.size := (Array.getElem?_eq_some_iff.1 bb).1
    simp at t0 t1 t2 u0 v0 u1 v1 u2 v2 u3 v3 u4 v4 u5 v5 u6 v6
    have hZ := Lib.hid h10
    clear g9 g10 bx ba bb h10 H8 hY
    go_wp2_with fail
    have g11 := World.grownBy_alloc w10 (.cells #[.slice E0 Em0 Ek0, .slice E1 Em1 Ek1, .slice E2 Em2 Ek2] 27) none
    have b11 := heap_alloc_new w10 (.cells #[.slice E0 Em0 Ek0, .slice E1 Em1 Ek1, .slice E2 Em2 Ek2] 27)
    generalize w10.alloc (.cells #[.slice E0 Em0 Ek0, .slice E1 Em1 Ek1, .slice E2 Em2 Ek2] 27) = w11 at g11 b11 ⊢
    refine (DoW_any A0 n0 c0 A1 n1 c1 A2 n2 c2 x qk qa qb qv qg qt qs qr qn qc ql qm w11 (H10.out.1.on g11)).mono ?_
    rintro e w12 ⟨F0, Fm0, Fk0, F1, Fm1, Fk1, F2, Fm2, Fk2, rfl, g12, h12⟩
    rw [L.out.2.2.1.2.1, L.out.2.2.1.2.2]
    rw [L.out.2.2.1.1] at h12
    have bz := keepB b11 g12
    have g12 := g11.trans g12
    have bx := keepB H10.out.2.2.1 g12
    have ba := keepB H10.out.2.2.2.1 g12
    have bb := keepB H10.out.2.2.2.2 g12
    have H12 := Lib.hid (And.intro (H10.out.1.on g12) (And.intro (H10.out.2.1.trans g12) (And.intro bx (And.intro ba bb))))
    clear t0 t1 t2 u0 v0 u1 v1 u2 v2 u3 v3 u4 v4 u5 v5 u6 v6 lx la lb
    have t0 := cell_of_row w12 _ 0 _ _ _ bx
    have t1 := cell_of_row w12 _ 1 _ _ _ bx
    have t2 := cell_of_row w12 _ 2 _ _ _ bx
    have u0 := cell_of_row w12 _ 0 _ _ _ ba
    have v0 := cell_of_row w12 _ 0 _ _ _ bb
    have u1 := cell_of_row w12 _ 1 _ _ _ ba
    have v1 := cell_of_row w12 _ 1 _ _ _ bb
    have u2 := cell_of_row w12 _ 2 _ _ _ ba
    have v2 := cell_of_row w12 _ 2 _ _ _ bb
    have u3 := cell_of_row w12 _ 3 _ _ _ ba
    have v3 := cell_of_row w12 _ 3 _ _ _ bb
    have u4 := cell_of_row w12 _ 4 _ _ _ ba
    have v4 := cell_of_row w12 _ 4 _ _ _ bb
    have u5 := cell_of_row w12 _ 5 _ _ _ ba
    have v5 := cell_of_row w12 _ 5 _ _ _ bb
    have u6 := cell_of_row w12 _ 6 _ _ _ ba
    have v6 := cell_of_row w12 _ 6 _ _ _ bb
    have lx : w.heap.size < w12.heap.size := (Array.getElem?_eq_some_iff.1 bx).1
    have la : w.heap.size + 1 < w12.heap.size := (Array.getElem?_eq_some_iff.1 ba).1
    have lb : w.heap.size + 1 + 1 < w12.heap.size := (Array.getElem?_eq_some_iff.1 bb).1
    simp at t0 t1 t2 u0 v0 u1 v1 u2 v2 u3 v3 u4 v4 u5 v5 u6 v6
    have hU := Lib.hid (And.intro h12 (And.intro (hZ.out.on g12) bz))
    clear g11 g12 bx ba bb h12 b11 bz H10 hZ
    go_wp2_with fail
    have g13 := World.grownBy_alloc w12 (.cells #[.slice F0 Fm0 Fk0, .slice F1 Fm1 Fk1, .slice F2 Fm2 Fk2] 27) none
    generalize w12.alloc (.cells #[.slice F0 Fm0 Fk0, .slice F1 Fm1 Fk1, .slice F2 Fm2 Fk2] 27) = w13 at g13 ⊢
    refine (DoW_any F0 Fm0 Fk0 F1 Fm1 Fk1 F2 Fm2 Fk2 u pk pa pb pv pg pt ps pr pn pc pl pm w13 (hU.out.1.on g13)).mono ?_
    rintro e w14 ⟨G0, Gm0, Gk0, G1, Gm1, Gk1, G2, Gm2, Gk2, rfl, g14, h14⟩
    rw [L.out.2.2.2.2.1, L.out.2.2.2.2.2]
    rw [L.out.2.2.2.1] at h14
    have g14 := g13.trans g14
    have bz := keepB hU.out.2.2 g14
    clear t0 t1 t2 u0 v0 u1 v1 u2 v2 u3 v3 u4 v4 u5 v5 u6 v6 lx la lb
    have t0 := cell_of_row w14 _ 0 _ _ _ bz
    have t1 := cell_of_row w14 _ 1 _ _ _ bz
    have t2 := cell_of_row w14 _ 2 _ _ _ bz
    have lz : w10.heap.size < w14.heap.size := (Array.getElem?_eq_some_iff.1 bz).1
    simp at t0 t1 t2
    have ga := World.grownBy_alloc w14 (.cells #[.slice G0 Gm0 Gk0, .slice G1 Gm1 Gk1, .slice G2 Gm2 Gk2] 27) none
    have HS := Lib.hid (And.intro ((hU.out.2.1.on g14).on ga) (And.intro (h14.on ga) ((H12.out.2.1.trans g14).trans ga)))
    clear g13 g14 bz h14 hU H12 ga L
    go_wp2_with fail
    refine (SameW_any E0 Em0 Ek0 E1 Em1 Ek1 E2 Em2 Ek2 G0 Gm0 Gk0 G1 Gm1 Gk1 G2 Gm2 Gk2 z z _ HS.out.1 HS.out.2.1).mono ?_
    rintro e w16 ⟨rfl, g16⟩
    rw [sameW_self]
    go_wp2_with fail
    refine (wakesW_any _).mono ?_
    rintro e wz ⟨rfl, gz⟩
    go_wp2_with fail
    go_ret
    exact ⟨rfl, (HS.out.2.2.trans g16).trans gz⟩
end Go.Proofs.Ytflenopenifofaa
