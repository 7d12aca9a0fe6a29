/- CellCas: whatever the arguments, the call returns true and changes nothing that was there. No condition. -/
import Derived.Test.YtflenopenifofaaWd5g
import Derived.Test.YtflenopenifofaaWd6
import Derived.Test.YtflenopenifofaaWd9
namespace Go.Proofs.Ytflenopenifofaa
open Go Go.RowKit Go.Deep
attribute [local go_sem] cell?_ext frozen?_ext

theorem may_load {x : Wd} {m : Nat} (ho : okW x = true) (hm : m < x.c.length) : mayW x ⟨0, (m : Int), 0, 0, 0, ⟨#[]⟩, []⟩ = true := by
  refine (mayW_iff _ _).2 ⟨ho, (show (0 : Int) ≤ 0 by decide), rfl, ?_⟩
  rw [kind_cell (.inl rfl)]
  exact (cellB_iff _ _).2 ⟨rfl, by show (0 : Int) ≤ (m : Int); omega, by show (m : Int) < _; omega, .inr rfl, .inr rfl, (show fitB 0 = true by decide), (show fitB 0 = true by decide)⟩
theorem do_yes {x : Wd} {a : Aw} {y : Wd} {r : Int} (h : mayW x a = true) (hd : doneW x a = y) (hg : gotW x a = r) : doW x a = y ∧ resW x a = r ∧ errW x a = 0 := by
  unfold doW resW errW; rw [if_pos h, if_pos h, if_pos h]; exact ⟨hd, hg, rfl⟩
/-- A compare-and-swap that may be: what was there, what it brings, what is there then. -/
theorem cas_law {x : Wd} {a b v : Int} (h : mayW x ⟨2, a, b, v, 0, ⟨#[]⟩, []⟩ = true) : ∃ y z : Wd, ∃ p q r : Int,
    (doW x ⟨0, a, 0, 0, 0, ⟨#[]⟩, []⟩ = z ∧ resW x ⟨0, a, 0, 0, 0, ⟨#[]⟩, []⟩ = p ∧ errW x ⟨0, a, 0, 0, 0, ⟨#[]⟩, []⟩ = 0) ∧
    (doW x ⟨2, a, b, v, 0, ⟨#[]⟩, []⟩ = y ∧ resW x ⟨2, a, b, v, 0, ⟨#[]⟩, []⟩ = q ∧ errW x ⟨2, a, b, v, 0, ⟨#[]⟩, []⟩ = 0) ∧
    (resW y ⟨0, a, 0, 0, 0, ⟨#[]⟩, []⟩ = r ∧ errW y ⟨0, a, 0, 0, 0, ⟨#[]⟩, []⟩ = 0) ∧ ((q = 1 ∧ p = b ∧ r = v) ∨ (q = 0 ∧ p ≠ b ∧ r = p)) := by
  have hk := ((mayW_iff _ _).1 h).2.2.2
  have ho := ((mayW_iff _ _).1 h).1
  rw [kind_cell (.inr (.inr (.inl rfl)))] at hk
  obtain ⟨_, ha, hal, _, _, _, hfv⟩ := (cellB_iff _ _).1 hk
  have ha : 0 ≤ a := ha
  have hal : a < ((x.c.length : Nat) : Int) := hal
  obtain ⟨m, rfl⟩ := Int.eq_ofNat_of_zero_le ha
  have hm : m < x.c.length := by omega
  have h1 := do_yes (may_load ho hm) (done_0 ..) (got_0 (hy := rfl) ..)
  by_cases hb : x.c.getD m 0 = b
  · have h2 := do_yes h (done_2y (hy := rfl) (h := hb) ..) (got_2y (hy := rfl) (h := hb) ..)
    have ho2 : okW ⟨x.c.set m v, x.d⟩ = true := okW_set ho hfv m
    have h3 := do_yes (may_load (m := m) ho2 (by simpa using hm)) (done_0 ..) (got_0 (hy := rfl) ..)
    exact ⟨_, _, _, _, _, h1, h2, h3.2, .inl ⟨rfl, hb, by simp [List.getD, hm]⟩⟩
  · have h2 := do_yes h (done_2n (hy := rfl) (h := hb) ..) (got_2n (hy := rfl) (h := hb) ..)
    exact ⟨_, _, _, _, _, h1, h2, h1.2, .inr ⟨rfl, hb, rfl⟩⟩

set_option maxRecDepth 100000 in
set_option maxHeartbeats 8000000 in
theorem cas_any (A0 : Option Addr) (n0 c0 : Nat) (A1 : Option Addr) (n1 c1 : Nat) (A2 : Option Addr) (n2 c2 : Nat) (x : Wd) (a b v : Int) (w : World) (h : WS w A0 n0 c0 A1 n1 c1 A2 n2 c2 x) :
    Calls Try.prog 6 #[wdC A0 n0 c0 A1 n1 c1 A2 n2 c2, .int .i64 a, .int .i64 b, .int .i64 v] w fun e w' => e = .returned (.bool true) ∧ w.grownBy w' none := by
  obtain ⟨q, hq⟩ : ∃ q, (decide ((1200 : Int) < (n0 : Int)) || greatD x.d) = q := ⟨_, rfl⟩
  have g0 := World.grownBy_alloc w (.cells #[.slice A0 n0 c0, .slice A1 n1 c1, .slice A2 n2 c2] 27) none
  have b0 := heap_alloc_new w (.cells #[.slice A0 n0 c0, .slice A1 n1 c1, .slice A2 n2 c2] 27)
  obtain ⟨w0, hw0⟩ : ∃ w0, w.alloc (.cells #[.slice A0 n0 c0, .slice A1 n1 c1, .slice A2 n2 c2] 27) = w0 := ⟨_, rfl⟩
  rw [hw0] at g0 b0
  have H := Lib.hid (And.intro (h.on g0) (And.intro g0 (And.intro b0 (And.intro hw0 hq))))
  have t0 := cell_of_row w0 _ 0 _ _ _ b0
  have t1 := cell_of_row w0 _ 1 _ _ _ b0
  have t2 := cell_of_row w0 _ 2 _ _ _ b0
  simp at t0 t1 t2
  clear g0 b0 hw0 hq h
  go_enter Try.func6, Try.ntmps6
  go_wp2_with fail
  rw [H.out.2.2.2.1]
  go_wp2_with fail
  refine (greatW_any A0 n0 c0 A1 n1 c1 A2 n2 c2 x w0 H.out.1).mono ?_
  rintro e w1 ⟨rfl, g1⟩
  rw [H.out.2.2.2.2]
  have bx := keepB H.out.2.2.1 g1
  have H1 := Lib.hid (And.intro (H.out.1.on g1) (And.intro (H.out.2.1.trans g1) bx))
  clear t0 t1 t2
  have t0 := cell_of_row w1 _ 0 _ _ _ bx
  have t1 := cell_of_row w1 _ 1 _ _ _ bx
  have t2 := cell_of_row w1 _ 2 _ _ _ bx
  have l1 : w.heap.size < w1.heap.size := (Array.getElem?_eq_some_iff.1 bx).1
  simp at t0 t1 t2
  clear g1 bx H
  cases q
  case true =>
    go_wp2_with fail
    refine (wakesW_any _).mono ?_
    rintro e w2 ⟨rfl, g2⟩
    go_wp2_with fail
    go_ret
    exact ⟨rfl, H1.out.2.1.trans g2⟩
  go_wp2_with fail
  have g2 := World.grownBy_alloc w1 (.cells #[.int .i8 2, .int .i64 a, .int .i64 b, .int .i64 v, .int .i64 0, .string ⟨#[]⟩, .slice none 0 0] 30) none
  have b2 := heap_alloc_new w1 (.cells #[.int .i8 2, .int .i64 a, .int .i64 b, .int .i64 v, .int .i64 0, .string ⟨#[]⟩, .slice none 0 0] 30)
  generalize w1.alloc (.cells #[.int .i8 2, .int .i64 a, .int .i64 b, .int .i64 v, .int .i64 0, .string ⟨#[]⟩, .slice none 0 0] 30) = w2 at g2 b2 ⊢
  refine (MayW_any A0 n0 c0 A1 n1 c1 A2 n2 c2 x 2 a b v 0 ⟨#[]⟩ [] none 0 0 rfl (by decide) w2 (H1.out.1.on g2)).mono ?_
  rintro e w3 ⟨rfl, g3⟩
  have g23 := g2.trans g3
  have bx := keepB H1.out.2.2 g23
  have ba := keepB b2 g3
  have H3 := Lib.hid (And.intro (H1.out.1.on g23) (And.intro (H1.out.2.1.trans g23) (And.intro bx ba)))
  clear t0 t1 t2
  have t0 := cell_of_row w3 _ 0 _ _ _ bx
  have t1 := cell_of_row w3 _ 1 _ _ _ bx
  have t2 := cell_of_row w3 _ 2 _ _ _ bx
  have l3 : w.heap.size < w3.heap.size := (Array.getElem?_eq_some_iff.1 bx).1
  simp at t0 t1 t2
  clear g2 g3 g23 bx ba b2 H1
  obtain ⟨m, hm⟩ : ∃ m, mayW x ⟨2, a, b, v, 0, ⟨#[]⟩, []⟩ = m := ⟨_, rfl⟩
  rw [hm]
  cases m
  case false =>
    clear hm
    go_wp2_with fail
    refine (wakesW_any _).mono ?_
    rintro e w4 ⟨rfl, g4⟩
    go_wp2_with fail
    go_ret
    exact ⟨rfl, H3.out.2.1.trans g4⟩
  obtain ⟨y, z, p, q, r, L1, L2, L3, L4⟩ := cas_law hm
  have L := Lib.hid (And.intro L1 (And.intro L2 L3))
  have HL4 := Lib.hid L4
  clear hm L1 L2 L3 L4
  go_wp2_with fail
  refine (DoW_any A0 n0 c0 A1 n1 c1 A2 n2 c2 x 0 a 0 0 0 ⟨#[]⟩ [] none 0 0 rfl (by decide) w3 H3.out.1).mono ?_
  rintro e w4 ⟨C0, p0, q0, C1, p1, q1, C2, p2, q2, rfl, g4, _⟩
  rw [L.out.1.2.1, L.out.1.2.2]
  have bx := keepB H3.out.2.2.1 g4
  have ba := keepB H3.out.2.2.2 g4
  have H4 := Lib.hid (And.intro (H3.out.1.on g4) (And.intro (H3.out.2.1.trans g4) (And.intro bx ba)))
  clear t0 t1 t2
  have t0 := cell_of_row w4 _ 0 _ _ _ bx
  have t1 := cell_of_row w4 _ 1 _ _ _ bx
  have t2 := cell_of_row w4 _ 2 _ _ _ bx
  have u0 := cell_of_row w4 _ 0 _ _ _ ba
  have u1 := cell_of_row w4 _ 1 _ _ _ ba
  have u2 := cell_of_row w4 _ 2 _ _ _ ba
  have u3 := cell_of_row w4 _ 3 _ _ _ ba
  have u4 := cell_of_row w4 _ 4 _ _ _ ba
  have u5 := cell_of_row w4 _ 5 _ _ _ ba
  have u6 := cell_of_row w4 _ 6 _ _ _ ba
  have l4 : w.heap.size < w4.heap.size := (Array.getElem?_eq_some_iff.1 bx).1
  have l5 : w1.heap.size < w4.heap.size := (Array.getElem?_eq_some_iff.1 ba).1
  simp at t0 t1 t2 u0 u1 u2 u3 u4 u5 u6
  clear g4 bx ba H3
  go_wp2_with fail
  have g5 := World.grownBy_alloc w4 (.cells #[.slice C0 p0 q0, .slice C1 p1 q1, .slice C2 p2 q2] 27) none
  generalize w4.alloc (.cells #[.slice C0 p0 q0, .slice C1 p1 q1, .slice C2 p2 q2] 27) = w5 at g5 ⊢
  refine (DoW_any A0 n0 c0 A1 n1 c1 A2 n2 c2 x 2 a b v 0 ⟨#[]⟩ [] none 0 0 rfl (by decide) w5 (H4.out.1.on g5)).mono ?_
  rintro e w6 ⟨D0, m0, k0, D1, m1, k1, D2, m2, k2, rfl, g6, h6⟩
  rw [L.out.2.1.2.1, L.out.2.1.2.2]
  rw [L.out.2.1.1] at h6
  have H6 := Lib.hid (And.intro h6 (H4.out.2.1.trans (g5.trans g6)))
  clear g5 g6 h6 H4 t0 t1 t2 u0 u1 u2 u3 u4 u5 u6
  go_wp2_with fail
  have g7 := World.grownBy_alloc w6 (.cells #[.slice D0 m0 k0, .slice D1 m1 k1, .slice D2 m2 k2] 27) none
  generalize w6.alloc (.cells #[.slice D0 m0 k0, .slice D1 m1 k1, .slice D2 m2 k2] 27) = w7 at g7 ⊢
  refine (DoW_any D0 m0 k0 D1 m1 k1 D2 m2 k2 y 0 a 0 0 0 ⟨#[]⟩ [] none 0 0 rfl (by decide) w7 (H6.out.1.on g7)).mono ?_
  rintro e w8 ⟨E0, r0, s0, E1, r1, s1, E2, r2, s2, rfl, g8, _⟩
  rw [L.out.2.2.1, L.out.2.2.2]
  have H8 := Lib.hid ((H6.out.2.trans (g7.trans g8)).trans (World.grownBy_alloc w8 (.cells #[.slice E0 r0 s0, .slice E1 r1 s1, .slice E2 r2 s2] 27) none))
  clear g7 g8 H6 L
  rcases HL4.out with ⟨e1, e2, e3⟩ | ⟨e1, e2, e3⟩
  · subst e1 e2 e3
    have i1 : (p == p) = true := by simp
    have i2 : (r == r) = true := by simp
    clear HL4
    go_wp2_with fail
    refine (wakesW_any _).mono ?_
    rintro e w9 ⟨rfl, g9⟩
    go_wp2_with fail
    go_ret
    exact ⟨rfl, H8.out.trans g9⟩
  · subst e1 e3
    have i1 : (r == b) = false := by simpa using e2
    have i2 : (r == r) = true := by simp
    clear HL4 e2
    go_wp2_with fail
    refine (wakesW_any _).mono ?_
    rintro e w9 ⟨rfl, g9⟩
    go_wp2_with fail
    go_ret
    exact ⟨rfl, H8.out.trans g9⟩
end Go.Proofs.Ytflenopenifofaa
