/- DiskTells: whatever the arguments, the call returns true and changes nothing that was there. No condition. -/
import Derived.Test.YtafebhcjkcedhaaRk6
import Derived.Test.YtafebhcjkcedhaaDAct
import Derived.Test.YtafebhcjkcedhaaDWakes
namespace Go.Proofs.Ytafebhcjkcedhaa
open Go Go.RowKit Go.Deep
attribute [local go_sem] cell?_ext frozen?_ext

set_option maxHeartbeats 1000000 in
theorem ints_any (w : World) (A A' : Option Addr) (n c n' c' : Nat) (xs : List Int) (hs : Sl EInt w (· < w.heap.size) A n c xs) (ht : Sl EInt w (· < w.heap.size) A' n' c' xs) (hn : n ≤ 1000) :
    Calls Try.prog 26 #[.slice A n c, .slice A' n' c'] w fun e w' => e = .returned (.bool true) ∧ w.grownBy w' none := by
  have hl := hs.length
  obtain rfl : n' = n := by rw [← hl, ht.length]
  go_enter Try.func26, Try.ntmps26
  go_wp2_with fail
  go_loopw [13] (fun i wr => ∃ k : Nat, i = .int .i64 k ∧ k ≤ n' ∧ w.grownBy wr none) (fun i _ => n' - (intOf i).toNat)
  case atStart => exact ⟨0, rfl, Nat.zero_le _, World.grownBy.refl _ _⟩
  case round =>
    obtain ⟨k, rfl, hk, hg⟩ := hrel
    by_cases hlt : k < n'
    · obtain ⟨x, hx⟩ : ∃ x, xs[k]? = some x := ⟨_, List.getElem?_eq_getElem (by omega)⟩
      obtain ⟨b1, o1, rfl, hb1, hc1⟩ := int_at (hs.on hg) hx
      obtain ⟨b2, o2, rfl, hb2, hc2⟩ := int_at (ht.on hg) hx
      have H := Lib.hid hx
      have i0 : (0 : Int) ≤ (k : Int) := by omega
      have i1 : (k : Int) < (n' : Int) := by omega
      clear hx hs ht
      go_wp2_with fail
      refine wp_region_ext (by kernel_rfl) (by kernel_rfl) ?_
      repeat (any_goals (first | go_big_quiet_step ((fail)) | quiet_step ((fail))))
      refine wpQuiet_nil ?_
      intro wx hwx
      have hbx := ext_elim hwx
      clear hwx
      go_wp2
      go_roundw
      case rel => exact ⟨k + 1, by go_num, by omega, hg.trans (below_grown hbx)⟩
      case measure => simp [intOf]; omega
    · obtain rfl : k = n' := by omega
      go_wp2_with fail
      go_ret
      exact ⟨rfl, hg⟩

/-- The two boxes of the arguments, in a later world. -/
structure TB (w W : World) (A1 : Option Addr) (n1 c1 : Nat) (A2 : Option Addr) (n2 c2 : Nat) (A3 : Option Addr) (n3 c3 : Nat) (A4 : Option Addr) (n4 c4 : Nat) (d o : Dk) : Prop where
  g : w.grownBy W none
  b0 : W.heap[w.heap.size]? = some (.cells #[.slice A1 n1 c1, .slice A2 n2 c2] 27 (0, 0))
  b1 : W.heap[w.heap.size + 1]? = some (.cells #[.slice A3 n3 c3, .slice A4 n4 c4] 27 (0, 0))
  s1 : Sl ESec W (· < W.heap.size) A1 n1 c1 d.now
  s2 : Sl ESec W (· < W.heap.size) A2 n2 c2 d.sure
  s3 : Sl ESec W (· < W.heap.size) A3 n3 c3 o.now
  s4 : Sl ESec W (· < W.heap.size) A4 n4 c4 o.sure
section
variable {w W W' : World} {A1 A2 A3 A4 : Option Addr} {n1 c1 n2 c2 n3 c3 n4 c4 : Nat} {d o : Dk}
theorem TB.on (h : TB w W A1 n1 c1 A2 n2 c2 A3 n3 c3 A4 n4 c4 d o) (k : W.grownBy W' none) : TB w W' A1 n1 c1 A2 n2 c2 A3 n3 c3 A4 n4 c4 d o :=
  ⟨h.g.trans k, (k.block _ (Array.getElem?_eq_some_iff.1 h.b0).1 (by simp)).trans h.b0, (k.block _ (Array.getElem?_eq_some_iff.1 h.b1).1 (by simp)).trans h.b1, h.s1.on k, h.s2.on k, h.s3.on k, h.s4.on k⟩
theorem TB.put (h : TB w W A1 n1 c1 A2 n2 c2 A3 n3 c3 A4 n4 c4 d o) {B : Nat} {D : Dk} (hB : boxD W B D) (hlo : w.heap.size + 1 < B) (u v : Value) : TB w ((W.setCell ⟨B, 0, none⟩ u).setCell ⟨B, 1, none⟩ v) A1 n1 c1 A2 n2 c2 A3 n3 c3 A4 n4 c4 d o := by
  obtain ⟨C1, p1, q1, C2, p2, q2, hb, _, _⟩ := hB
  exact ⟨grown_set2 h.g (by omega) u v, (set2_other (by omega) u v).trans h.b0, (set2_other (by omega) u v).trans h.b1, sl_set2 h.s1 hb u v, sl_set2 h.s2 hb u v, sl_set2 h.s3 hb u v, sl_set2 h.s4 hb u v⟩
end

/-- A disk in a box, by its lists. -/
structure XB (W : World) (B : Nat) (A1 : Option Addr) (n1 c1 : Nat) (A2 : Option Addr) (n2 c2 : Nat) (d : Dk) : Prop where
  b : W.heap[B]? = some (.cells #[.slice A1 n1 c1, .slice A2 n2 c2] 27 (0, 0))
  s1 : Sl ESec W (· < W.heap.size) A1 n1 c1 d.now
  s2 : Sl ESec W (· < W.heap.size) A2 n2 c2 d.sure
section
variable {W W' : World} {B B' : Nat} {A1 A2 A3 A4 : Option Addr} {n1 c1 n2 c2 n3 c3 n4 c4 : Nat} {d D : Dk}
theorem XB.on (h : XB W B A1 n1 c1 A2 n2 c2 d) (k : W.grownBy W' none) : XB W' B A1 n1 c1 A2 n2 c2 d := ⟨(k.block _ (Array.getElem?_eq_some_iff.1 h.b).1 (by simp)).trans h.b, h.s1.on k, h.s2.on k⟩
theorem XB.lt (h : XB W B A1 n1 c1 A2 n2 c2 d) : B < W.heap.size := (Array.getElem?_eq_some_iff.1 h.b).1
theorem XB.new (h1 : Sl ESec W (· < W.heap.size) A1 n1 c1 d.now) (h2 : Sl ESec W (· < W.heap.size) A2 n2 c2 d.sure) : XB (W.alloc (.cells #[.slice A1 n1 c1, .slice A2 n2 c2] 27)) W.heap.size A1 n1 c1 A2 n2 c2 d := ⟨heap_alloc_new W _, h1.push _, h2.push _⟩
theorem XB.put (h : XB W B A1 n1 c1 A2 n2 c2 d) (h1 : Sl ESec W (· < W.heap.size) A3 n3 c3 D.now) (h2 : Sl ESec W (· < W.heap.size) A4 n4 c4 D.sure) : XB ((W.setCell ⟨B, 0, none⟩ (.slice A3 n3 c3)).setCell ⟨B, 1, none⟩ (.slice A4 n4 c4)) B A3 n3 c3 A4 n4 c4 D :=
  ⟨set2_at h.b _ _, sl_set2 h1 h.b _ _, sl_set2 h2 h.b _ _⟩
theorem XB.stay (h : XB W B A1 n1 c1 A2 n2 c2 d) (k : XB W B' A3 n3 c3 A4 n4 c4 D) (hne : B' ≠ B) (u v : Value) : XB ((W.setCell ⟨B, 0, none⟩ u).setCell ⟨B, 1, none⟩ v) B' A3 n3 c3 A4 n4 c4 D :=
  ⟨(set2_other hne u v).trans k.b, sl_set2 k.s1 h.b u v, sl_set2 k.s2 h.b u v⟩
theorem XB.box (h : XB W B A1 n1 c1 A2 n2 c2 d) : boxD W B d := ⟨A1, n1, c1, A2, n2, c2, h.b, h.s1, h.s2⟩
end

theorem tb_new {w : World} {A1 A2 A3 A4 : Option Addr} {n1 c1 n2 c2 n3 c3 n4 c4 : Nat} {d o : Dk} (h1 : Sl ESec w (· < w.heap.size) A1 n1 c1 d.now) (h2 : Sl ESec w (· < w.heap.size) A2 n2 c2 d.sure) (h3 : Sl ESec w (· < w.heap.size) A3 n3 c3 o.now) (h4 : Sl ESec w (· < w.heap.size) A4 n4 c4 o.sure) :
    TB w ((w.alloc (.cells #[.slice A1 n1 c1, .slice A2 n2 c2] 27)).alloc (.cells #[.slice A3 n3 c3, .slice A4 n4 c4] 27)) A1 n1 c1 A2 n2 c2 A3 n3 c3 A4 n4 c4 d o :=
  ⟨(World.grownBy_alloc w _ none).trans (World.grownBy_alloc _ _ none), (Below.heap_alloc _ _ _ (by simp)).trans (heap_alloc_new w _), heap_alloc2_new w _ _, (h1.push _).push _, (h2.push _).push _, (h3.push _).push _, (h4.push _).push _⟩
theorem sameD_self (d : Dk) : sameD d d = true := (sameD_iff d d).2 rfl
theorem greatD_len {d : Dk} (h : greatD d = false) : d.now.length ≤ 60 ∧ d.sure.length ≤ 60 := by
  unfold greatD at h
  simp only [Bool.or_eq_false_iff, decide_eq_false_iff_not] at h
  omega

set_option maxRecDepth 100000 in
set_option maxHeartbeats 32000000 in
theorem tells_in (A1 : Option Addr) (n1 c1 : Nat) (A2 : Option Addr) (n2 c2 : Nat) (d : Dk) (A3 : Option Addr) (n3 c3 : Nat) (A4 : Option Addr) (n4 c4 : Nat) (o : Dk) (sec num : Int) (b : ByteArray) (x : Int) (w : World)
    (h1 : Sl ESec w (· < w.heap.size) A1 n1 c1 d.now) (h2 : Sl ESec w (· < w.heap.size) A2 n2 c2 d.sure) (h3 : Sl ESec w (· < w.heap.size) A3 n3 c3 o.now) (h4 : Sl ESec w (· < w.heap.size) A4 n4 c4 o.sure) (q1 : greatD d = false) (q2 : greatD o = false) (hb : b.size ≤ 3000) :
    Calls Try.prog 7 #[dkC A1 n1 c1 A2 n2 c2, dkC A3 n3 c3 A4 n4 c4, .int .i64 sec, .int .i64 num, .string b, .int .u64 x] w fun e w' => e = .returned (.bool true) ∧ w.grownBy w' none := by
  have hbm : b.size ≤ maxLen := by unfold maxLen; omega
  have T0 := Lib.hid (tb_new h1 h2 h3 h4)
  have HQ := Lib.hid (And.intro q1 (And.intro q2 (greatD_len q1)))
  have hn1 : n1 ≤ 60 := by rw [← h1.length]; exact (greatD_len q1).1
  have hn2 : n2 ≤ 60 := by rw [← h2.length]; exact (greatD_len q1).2
  clear q1 q2 h1 h2 h3 h4
  go_enter Try.func7, Try.ntmps7
  go_wp2_with fail
  generalize (w.alloc (.cells #[.slice A1 n1 c1, .slice A2 n2 c2] 27)).alloc (.cells #[.slice A3 n3 c3, .slice A4 n4 c4] 27) = w0 at T0 ⊢
  refine (rGreat_any A1 n1 c1 A2 n2 c2 d w0 T0.out.s1 T0.out.s2).mono ?_
  rintro e w1 ⟨rfl, g1⟩
  rw [HQ.out.1]
  have T1 := Lib.hid (T0.out.on g1)
  have t0 := cell_of_row w1 _ 0 _ _ _ T1.out.b1
  have t1 := cell_of_row w1 _ 1 _ _ _ T1.out.b1
  simp at t0 t1
  clear g1 T0
  go_wp2_with fail
  refine (rGreat_any A3 n3 c3 A4 n4 c4 o w1 T1.out.s3 T1.out.s4).mono ?_
  rintro e w2 ⟨rfl, g2⟩
  rw [HQ.out.2.1]
  have T2 := Lib.hid (T1.out.on g2)
  clear t0 t1 g2 T1
  have t0 := cell_of_row w2 _ 0 _ _ _ T2.out.b0
  have t1 := cell_of_row w2 _ 1 _ _ _ T2.out.b0
  simp at t0 t1
  go_wp2_with fail
  refine (Put_any A1 n1 c1 A2 n2 c2 d sec num b hbm w2 T2.out.s1 T2.out.s2).mono ?_
  rintro e w3 ⟨A5, n5, c5, A6, n6, c6, rfl, g3, s5, s6⟩
  have g4 := g3.trans (World.grownBy_alloc w3 (.cells #[.slice A5 n5 c5, .slice A6 n6 c6] 27) none)
  have T4 := Lib.hid (T2.out.on g4)
  have X4 := Lib.hid (XB.new s5 s6)
  have T3 := Lib.hid (T2.out.on g3)
  have hlx : w.heap.size + 1 < w3.heap.size := (Array.getElem?_eq_some_iff.1 T3.out.b1).1
  clear t0 t1 g3 g4 s5 s6 T2
  have t0 := cell_of_row w3 _ 0 _ _ _ T3.out.b0
  have t1 := cell_of_row w3 _ 1 _ _ _ T3.out.b0
  simp at t0 t1
  have m0 := (Array.getElem?_eq_some_iff.1 T3.out.b0).1
  obtain ⟨er, her⟩ : ∃ er, putE d sec num b = er := ⟨_, rfl⟩
  rw [her]
  have HEr := Lib.hid her
  obtain ⟨ec, hec⟩ : ∃ ec, chkD d = ec := ⟨_, rfl⟩
  have HEc := Lib.hid hec
  obtain ⟨eg, heg⟩ : ∃ eg, getE d sec = eg := ⟨_, rfl⟩
  obtain ⟨gs, hgs⟩ : ∃ gs, getS d sec = gs := ⟨_, rfl⟩
  have HEg := Lib.hid (And.intro heg hgs)
  clear her hec heg hgs
  go_wp2_with fail
  generalize w3.alloc (.cells #[.slice A5 n5 c5, .slice A6 n6 c6] 27) = w4 at T4 X4 ⊢
  obtain ⟨Bx, hBx⟩ : ∃ Bx, w3.heap.size = Bx := ⟨_, rfl⟩
  rw [hBx] at X4 hlx ⊢
  clear t0 t1 m0 hBx T3
  refine (rPut_any A1 n1 c1 A2 n2 c2 d sec num b hbm w4 T4.out.s1 T4.out.s2).mono ?_
  rintro e w5 ⟨A7, n7, c7, A8, n8, c8, rfl, g5, s7, s8⟩
  rw [HEr.out]
  have g6 := g5.trans (World.grownBy_alloc w5 (.cells #[.slice A7 n7 c7, .slice A8 n8 c8] 27) none)
  have T6 := Lib.hid (T4.out.on g6)
  have X6 := Lib.hid (X4.out.on g6)
  have Y6 := Lib.hid (XB.new s7 s8)
  have X5 := X4.out.on g5
  have hly : w.heap.size + 1 < w5.heap.size ∧ Bx < w5.heap.size := ⟨(Array.getElem?_eq_some_iff.1 (T4.out.on g5).b1).1, X5.lt⟩
  have hlt5 : Bx < w5.heap.size := hly.2
  have t0 := cell_of_row w5 _ 0 _ _ _ X5.b
  have t1 := cell_of_row w5 _ 1 _ _ _ X5.b
  simp at t0 t1
  clear g5 g6 s7 s8 T4 X4 X5
  go_wp2_with fail
  generalize w5.alloc (.cells #[.slice A7 n7 c7, .slice A8 n8 c8] 27) = w6 at T6 X6 Y6 ⊢
  obtain ⟨By, hBy⟩ : ∃ By, w5.heap.size = By := ⟨_, rfl⟩
  rw [hBy] at Y6 hly ⊢
  clear hBy t0 t1 hlt5
  refine (rSame_any A5 n5 c5 A6 n6 c6 A7 n7 c7 A8 n8 c8 _ _ w6 X6.out.s1 X6.out.s2 Y6.out.s1 Y6.out.s2).mono ?_
  rintro e w7 ⟨rfl, g7⟩
  rw [sameD_self]
  have T7 := Lib.hid (T6.out.on g7)
  have X7 := Lib.hid (X6.out.on g7)
  have Y7 := Lib.hid (Y6.out.on g7)
  have t0 := cell_of_row w7 _ 0 _ _ _ T7.out.b0
  have t1 := cell_of_row w7 _ 1 _ _ _ T7.out.b0
  simp at t0 t1
  clear g7 T6 X6 Y6
  go_wp2_with fail
  refine (Sync_any A1 n1 c1 A2 n2 c2 d w7 T7.out.s1 T7.out.s2).mono ?_
  rintro e w8 ⟨A9, n9, c9, A10, n10, c10, rfl, g8, sa, sb⟩
  rw [HEc.out]
  have Tn := T7.out.on g8
  have Xn := X7.out.on g8
  have Yn := Y7.out.on g8
  have T9 := Lib.hid (Tn.put Xn.box hlx (.slice A9 n9 c9) (.slice A10 n10 c10))
  have X9 := Lib.hid (Xn.put sa sb)
  have Y9 := Lib.hid (Xn.stay Yn (by omega) (.slice A9 n9 c9) (.slice A10 n10 c10))
  have u0 := cell_of_row w8 _ 0 _ _ _ Xn.b
  have u1 := cell_of_row w8 _ 1 _ _ _ Xn.b
  have uf0 := frozen_of_row w8 _ 0 _ _ Xn.b
  have uf1 := frozen_of_row w8 _ 1 _ _ Xn.b
  have v0 := cell_of_row w8 _ 0 _ _ _ Yn.b
  have v1 := cell_of_row w8 _ 1 _ _ _ Yn.b
  have y0 := cell_of_row w8 _ 0 _ _ _ Tn.b0
  have y1 := cell_of_row w8 _ 1 _ _ _ Tn.b0
  simp at u0 u1 v0 v1 y0 y1
  have m0 : By ≠ Bx := by omega
  have m1 : Bx ≠ By := by omega
  have m2 : w.heap.size ≠ Bx := by omega
  clear Tn Xn Yn sa sb g8 t0 t1 T7 X7 Y7
  go_wp2_with fail
  generalize (w8.setCell ⟨Bx, 0, none⟩ (.slice A9 n9 c9)).setCell ⟨Bx, 1, none⟩ (.slice A10 n10 c10) = w9 at T9 X9 Y9 ⊢
  clear u0 u1 uf0 uf1 v0 v1 y0 y1 m0 m1 m2
  refine (rSync_any A1 n1 c1 A2 n2 c2 d w9 T9.out.s1 T9.out.s2).mono ?_
  rintro e w10 ⟨A11, n11, c11, A12, n12, c12, rfl, g10, sa, sb⟩
  rw [HEc.out]
  have Tn := T9.out.on g10
  have Xn := X9.out.on g10
  have Yn := Y9.out.on g10
  have T11 := Lib.hid (Tn.put Yn.box hly.1 (.slice A11 n11 c11) (.slice A12 n12 c12))
  have Y11 := Lib.hid (Yn.put sa sb)
  have X11 := Lib.hid (Yn.stay Xn (by omega) (.slice A11 n11 c11) (.slice A12 n12 c12))
  have u0 := cell_of_row w10 _ 0 _ _ _ Yn.b
  have u1 := cell_of_row w10 _ 1 _ _ _ Yn.b
  have uf0 := frozen_of_row w10 _ 0 _ _ Yn.b
  have uf1 := frozen_of_row w10 _ 1 _ _ Yn.b
  have v0 := cell_of_row w10 _ 0 _ _ _ Xn.b
  have v1 := cell_of_row w10 _ 1 _ _ _ Xn.b
  have y0 := cell_of_row w10 _ 0 _ _ _ Tn.b0
  have y1 := cell_of_row w10 _ 1 _ _ _ Tn.b0
  simp at u0 u1 v0 v1 y0 y1
  have m0 : Bx ≠ By := by omega
  have m1 : By ≠ Bx := by omega
  have m2 : w.heap.size ≠ By := by omega
  clear Tn Xn Yn sa sb g10  T9 X9 Y9
  go_wp2_with fail
  generalize (w10.setCell ⟨By, 0, none⟩ (.slice A11 n11 c11)).setCell ⟨By, 1, none⟩ (.slice A12 n12 c12) = w11 at T11 X11 Y11 ⊢
  clear u0 u1 uf0 uf1 v0 v1 y0 y1 m0 m1 m2
  refine (rSame_any A9 n9 c9 A10 n10 c10 A11 n11 c11 A12 n12 c12 _ _ w11 X11.out.s1 X11.out.s2 Y11.out.s1 Y11.out.s2).mono ?_
  rintro e w12 ⟨rfl, g12⟩
  rw [sameD_self]
  have T12 := Lib.hid (T11.out.on g12)
  have X12 := Lib.hid (X11.out.on g12)
  have Y12 := Lib.hid (Y11.out.on g12)
  have t0 := cell_of_row w12 _ 0 _ _ _ T12.out.b0
  have t1 := cell_of_row w12 _ 1 _ _ _ T12.out.b0
  simp at t0 t1
  clear g12 T11 X11 Y11
  go_wp2_with fail
  refine (Crash_any A1 n1 c1 A2 n2 c2 d x w12 T12.out.s1 T12.out.s2).mono ?_
  rintro e w13 ⟨A13, n13, c13, A14, n14, c14, rfl, g13, sa, sb⟩
  rw [HEc.out]
  have Tn := T12.out.on g13
  have Xn := X12.out.on g13
  have Yn := Y12.out.on g13
  have T14 := Lib.hid (Tn.put Xn.box hlx (.slice A13 n13 c13) (.slice A14 n14 c14))
  have X14 := Lib.hid (Xn.put sa sb)
  have Y14 := Lib.hid (Xn.stay Yn (by omega) (.slice A13 n13 c13) (.slice A14 n14 c14))
  have u0 := cell_of_row w13 _ 0 _ _ _ Xn.b
  have u1 := cell_of_row w13 _ 1 _ _ _ Xn.b
  have uf0 := frozen_of_row w13 _ 0 _ _ Xn.b
  have uf1 := frozen_of_row w13 _ 1 _ _ Xn.b
  have v0 := cell_of_row w13 _ 0 _ _ _ Yn.b
  have v1 := cell_of_row w13 _ 1 _ _ _ Yn.b
  have y0 := cell_of_row w13 _ 0 _ _ _ Tn.b0
  have y1 := cell_of_row w13 _ 1 _ _ _ Tn.b0
  simp at u0 u1 v0 v1 y0 y1
  have m0 : By ≠ Bx := by omega
  have m1 : Bx ≠ By := by omega
  have m2 : w.heap.size ≠ Bx := by omega
  clear Tn Xn Yn sa sb g13 t0 t1 T12 X12 Y12
  go_wp2_with fail
  generalize (w13.setCell ⟨Bx, 0, none⟩ (.slice A13 n13 c13)).setCell ⟨Bx, 1, none⟩ (.slice A14 n14 c14) = w14 at T14 X14 Y14 ⊢
  clear u0 u1 uf0 uf1 v0 v1 y0 y1 m0 m1 m2
  refine (rCrash_any A1 n1 c1 A2 n2 c2 d x w14 T14.out.s1 T14.out.s2).mono ?_
  rintro e w15 ⟨A15, n15, c15, A16, n16, c16, rfl, g15, sa, sb⟩
  rw [HEc.out]
  have Tn := T14.out.on g15
  have Xn := X14.out.on g15
  have Yn := Y14.out.on g15
  have T16 := Lib.hid (Tn.put Yn.box hly.1 (.slice A15 n15 c15) (.slice A16 n16 c16))
  have Y16 := Lib.hid (Yn.put sa sb)
  have X16 := Lib.hid (Yn.stay Xn (by omega) (.slice A15 n15 c15) (.slice A16 n16 c16))
  have u0 := cell_of_row w15 _ 0 _ _ _ Yn.b
  have u1 := cell_of_row w15 _ 1 _ _ _ Yn.b
  have uf0 := frozen_of_row w15 _ 0 _ _ Yn.b
  have uf1 := frozen_of_row w15 _ 1 _ _ Yn.b
  have v0 := cell_of_row w15 _ 0 _ _ _ Xn.b
  have v1 := cell_of_row w15 _ 1 _ _ _ Xn.b
  have y0 := cell_of_row w15 _ 0 _ _ _ Tn.b0
  have y1 := cell_of_row w15 _ 1 _ _ _ Tn.b0
  simp at u0 u1 v0 v1 y0 y1
  have m0 : Bx ≠ By := by omega
  have m1 : By ≠ Bx := by omega
  have m2 : w.heap.size ≠ By := by omega
  clear Tn Xn Yn sa sb g15  T14 X14 Y14
  go_wp2_with fail
  generalize (w15.setCell ⟨By, 0, none⟩ (.slice A15 n15 c15)).setCell ⟨By, 1, none⟩ (.slice A16 n16 c16) = w16 at T16 X16 Y16 ⊢
  clear u0 u1 uf0 uf1 v0 v1 y0 y1 m0 m1 m2
  refine (Get_any A1 n1 c1 A2 n2 c2 d sec w16 T16.out.s1 T16.out.s2).mono ?_
  rintro e w17 ⟨rfl, g17⟩
  rw [HEg.out.1, HEg.out.2]
  have g18 := g17.trans (World.grownBy_alloc w17 (.cells #[.int .i64 gs.n, .string gs.b] 36) none)
  have T18 := Lib.hid (T16.out.on g18)
  have X18 := Lib.hid (X16.out.on g18)
  have Y18 := Lib.hid (Y16.out.on g18)
  have S18 := heap_alloc_new w17 (.cells #[.int .i64 gs.n, .string gs.b] 36)
  have T17 := T16.out.on g17
  have m0 := (Array.getElem?_eq_some_iff.1 T17.b0).1
  have t0 := cell_of_row w17 _ 0 _ _ _ T17.b0
  have t1 := cell_of_row w17 _ 1 _ _ _ T17.b0
  simp at t0 t1
  clear g17 g18 T16 X16 Y16 T17
  go_wp2_with fail
  generalize w17.alloc (.cells #[.int .i64 gs.n, .string gs.b] 36) = w18 at T18 X18 Y18 S18 ⊢
  obtain ⟨Bs, hBs⟩ : ∃ Bs, w17.heap.size = Bs := ⟨_, rfl⟩
  rw [hBs] at S18 ⊢
  clear hBs t0 t1 m0
  refine (rGet_any A1 n1 c1 A2 n2 c2 d sec w18 T18.out.s1 T18.out.s2).mono ?_
  rintro e w19 ⟨rfl, g19⟩
  rw [HEg.out.1, HEg.out.2]
  have g20 := g19.trans (World.grownBy_alloc w19 (.cells #[.int .i64 gs.n, .string gs.b] 36) none)
  have T20 := Lib.hid (T18.out.on g20)
  have X20 := Lib.hid (X18.out.on g20)
  have Y20 := Lib.hid (Y18.out.on g20)
  have R20 := heap_alloc_new w19 (.cells #[.int .i64 gs.n, .string gs.b] 36)
  have S20 := (g20.block _ (Array.getElem?_eq_some_iff.1 S18).1 (by simp)).trans S18
  clear g19 g20 T18 X18 Y18 S18
  go_wp2_with fail
  generalize w19.alloc (.cells #[.int .i64 gs.n, .string gs.b] 36) = wz at T20 X20 Y20 S20 R20 ⊢
  obtain ⟨Br, hBr⟩ : ∃ Br, w19.heap.size = Br := ⟨_, rfl⟩
  rw [hBr] at R20 ⊢
  clear hBr
  have d0 := cell_of_row wz _ 0 _ _ _ T20.out.b0
  have d1 := cell_of_row wz _ 1 _ _ _ T20.out.b0
  have o0 := cell_of_row wz _ 0 _ _ _ T20.out.b1
  have o1 := cell_of_row wz _ 1 _ _ _ T20.out.b1
  have x0 := cell_of_row wz _ 0 _ _ _ X20.out.b
  have x1 := cell_of_row wz _ 1 _ _ _ X20.out.b
  have y0 := cell_of_row wz _ 0 _ _ _ Y20.out.b
  have y1 := cell_of_row wz _ 1 _ _ _ Y20.out.b
  have s0 := cell_of_row wz _ 0 _ _ _ S20
  have s1 := cell_of_row wz _ 1 _ _ _ S20
  have r0 := cell_of_row wz _ 0 _ _ _ R20
  have r1 := cell_of_row wz _ 1 _ _ _ R20
  simp at d0 d1 o0 o1 x0 x1 y0 y1 s0 s1 r0 r1
  have m0 := (Array.getElem?_eq_some_iff.1 T20.out.b0).1
  have m1 := (Array.getElem?_eq_some_iff.1 T20.out.b1).1
  have m2 := (Array.getElem?_eq_some_iff.1 X20.out.b).1
  have m3 := (Array.getElem?_eq_some_iff.1 Y20.out.b).1
  have m4 := (Array.getElem?_eq_some_iff.1 S20).1
  have m5 := (Array.getElem?_eq_some_iff.1 R20).1
  clear S20 R20 hlx hly
  have hd1 : (dirtyD d).length ≤ 1000 := by
    unfold dirtyD
    split
    · exact Nat.le_trans (dirty_le d 33) (by omega)
    · exact Nat.zero_le _
  obtain ⟨so, hso⟩ : ∃ so, sameD d o = so := ⟨_, rfl⟩
  have HSo := Lib.hid hso
  clear hso
  have hx : ∀ W : World, wz.grownBy W none → ∀ b o, b < wz.heap.size → W.cell? ⟨b, o, none⟩ = wz.cell? ⟨b, o, none⟩ := fun W hW b o hb => hW.cell_far _ hb (by simp)
  have hd : wz.grownBy wz.drew none := ⟨rfl, rfl, rfl, Nat.le_refl _, fun _ _ _ => rfl⟩
  go_region_held3 (fun w' => wz.grownBy w' none) (first | exact kk | exact hd | go_keep)
    (first
      | (go_at_call_of 21 (Value.agg #[Value.slice A13 n13 c13, Value.slice A14 n14 c14]); refine (rSame_any A13 n13 c13 A14 n14 c14 A15 n15 c15 A16 n16 c16 _ _ _ (X20.out.s1.on hd) (X20.out.s2.on hd) (Y20.out.s1.on hd) (Y20.out.s2.on hd)).mono ?_; rintro e W1 ⟨rfl, k1⟩; rw [sameD_self]; have kk := hd.trans k1)
      | (go_at_call 13; refine (Check_any A1 n1 c1 A2 n2 c2 d _ (T20.out.s1.on kk) (T20.out.s2.on kk)).mono ?_; rintro e W2 ⟨rfl, k2⟩; rw [HEc.out]; have kk := kk.trans k2)
      | (go_at_call 18; refine (rCheck_any A1 n1 c1 A2 n2 c2 d _ (T20.out.s1.on kk) (T20.out.s2.on kk)).mono ?_; rintro e W3 ⟨rfl, k3⟩; rw [HEc.out]; have kk := kk.trans k3)
      | (go_at_call 19; refine (Same_any A1 n1 c1 A2 n2 c2 A3 n3 c3 A4 n4 c4 d o _ (T20.out.s1.on kk) (T20.out.s2.on kk) (T20.out.s3.on kk) (T20.out.s4.on kk)).mono ?_; rintro e W4 ⟨rfl, k4⟩; rw [HSo.out]; have kk := kk.trans k4)
      | (go_at_call_of 21 (Value.agg #[Value.slice A1 n1 c1, Value.slice A2 n2 c2]); refine (rSame_any A1 n1 c1 A2 n2 c2 A3 n3 c3 A4 n4 c4 d o _ (T20.out.s1.on kk) (T20.out.s2.on kk) (T20.out.s3.on kk) (T20.out.s4.on kk)).mono ?_; rintro e W5 ⟨rfl, k5⟩; rw [HSo.out]; have kk := kk.trans k5)
      | (go_at_call 27; refine (Dirty_any A1 n1 c1 A2 n2 c2 d _ (T20.out.s1.on kk) (T20.out.s2.on kk)).mono ?_; rintro e W6 ⟨A6', c6', rfl, k6, h6⟩; have kk := kk.trans k6)
      | (go_at_call 28; refine (rDirty_any A1 n1 c1 A2 n2 c2 d _ (T20.out.s1.on kk) (T20.out.s2.on kk)).mono ?_; rintro e W7 ⟨A7', c7', rfl, k7, h7⟩; have kk := kk.trans k7)
      | (go_at_call 26; refine (ints_any _ _ _ _ _ _ _ (dirtyD d) (h6.on k7) h7 hd1).mono ?_; rintro e W8 ⟨rfl, k8⟩; have kk := kk.trans k8)
      | (go_at_call 10; refine (wakes_any _).mono ?_; rintro e W9 ⟨rfl, k9⟩; have kk := kk.trans k9))
  go_wp2_with fail
  go_ret
  exact ⟨rfl, T20.out.g.trans kk⟩
end Go.Proofs.Ytafebhcjkcedhaa
