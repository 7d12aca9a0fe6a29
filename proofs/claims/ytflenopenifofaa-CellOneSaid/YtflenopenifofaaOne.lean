/- CellOne: whatever the arguments, the call returns true and changes nothing that was there. No condition. -/
import Derived.Test.YtflenopenifofaaWd5g
import Derived.Test.YtflenopenifofaaWd9
import Derived.Test.YtflenopenifofaaOneP
import Derived.Test.YtflenopenifofaaCas
import Derived.Test.YtflenopenifofaaRk1
namespace Go.Proofs.Ytflenopenifofaa
open Go Go.RowKit Go.Deep
attribute [local go_sem] cell?_ext frozen?_ext

theorem one_do {x : Wd} {a : Aw} (h : mayW x a = true) : ∃ y r, (doW x a = y ∧ resW x a = r ∧ errW x a = 0) ∧ OneL x a y ∧ gotW x a = r :=
  ⟨_, _, do_yes h rfl rfl, one_law h, rfl⟩
theorem sameW_self' (x : Wd) : sameW x x = true := by unfold sameW; simp
theorem sameD_self (d : Dk) : sameD d d = true := (sameD_iff d d).2 rfl
set_option maxRecDepth 100000 in
set_option maxHeartbeats 16000000 in
theorem one_any (A0 : Option Addr) (n0 c0 : Nat) (A1 : Option Addr) (n1 c1 : Nat) (A2 : Option Addr) (n2 c2 : Nat) (x : Wd) (pk pa pb pv pg : Int) (pt : ByteArray) (ps : List Int) (pr : Option Addr) (pn pc : Nat) (pl : ps.length = pn) (pm : pt.size ≤ maxLen) (w : World) (h : WS w A0 n0 c0 A1 n1 c1 A2 n2 c2 x) :
    Calls Try.prog 5 #[wdC A0 n0 c0 A1 n1 c1 A2 n2 c2, .agg #[.int .i8 pk, .int .i64 pa, .int .i64 pb, .int .i64 pv, .int .i64 pg, .string pt, .slice pr pn pc]] w fun e w' => e = .returned (.bool true) ∧ w.grownBy w' none := by
  obtain ⟨q0, hq0⟩ : ∃ q, (decide ((1200 : Int) < (n0 : Int)) || greatD x.d) = q := ⟨_, rfl⟩
  obtain ⟨w0, hw0⟩ : ∃ w0, pushes w [.cells #[.slice A0 n0 c0, .slice A1 n1 c1, .slice A2 n2 c2] 27, .cells #[.int .i8 pk, .int .i64 pa, .int .i64 pb, .int .i64 pv, .int .i64 pg, .string pt, .slice pr pn pc] 30] = w0 := ⟨_, rfl⟩
  have g0 : w.grownBy w0 none := by rw [← hw0]; exact pushes_grown _ _
  have bx : w0.heap[w.heap.size]? = some (.cells #[.slice A0 n0 c0, .slice A1 n1 c1, .slice A2 n2 c2] 27 (0, 0)) := by rw [← hw0]; exact pushes_at w (i := 0) rfl
  have ba : w0.heap[w.heap.size + 1]? = some (.cells #[.int .i8 pk, .int .i64 pa, .int .i64 pb, .int .i64 pv, .int .i64 pg, .string pt, .slice pr pn pc] 30 (0, 0)) := by rw [← hw0]; exact pushes_at w (i := 1) rfl
  simp only [pushes] at hw0
  have H0 := Lib.hid (And.intro (h.on g0) (And.intro g0 (And.intro bx ba)))
  have HW := Lib.hid hw0
  have HQ := Lib.hid hq0
  have t0 := cell_of_row w0 _ 0 _ _ _ bx
  have t1 := cell_of_row w0 _ 1 _ _ _ bx
  have t2 := cell_of_row w0 _ 2 _ _ _ bx
  have u0 := cell_of_row w0 _ 0 _ _ _ ba
  have u1 := cell_of_row w0 _ 1 _ _ _ ba
  have u2 := cell_of_row w0 _ 2 _ _ _ ba
  have u3 := cell_of_row w0 _ 3 _ _ _ ba
  have u4 := cell_of_row w0 _ 4 _ _ _ ba
  have u5 := cell_of_row w0 _ 5 _ _ _ ba
  have u6 := cell_of_row w0 _ 6 _ _ _ ba
  have lx : w.heap.size < w0.heap.size := (Array.getElem?_eq_some_iff.1 bx).1
  have la : w.heap.size + 1 < w0.heap.size := (Array.getElem?_eq_some_iff.1 ba).1
  simp at t0 t1 t2 u0 u1 u2 u3 u4 u5 u6
  clear g0 bx ba hw0 hq0 h
  go_enter Try.func5, Try.ntmps5
  go_wp2_with fail
  rw [HW.out]
  go_wp2_with fail
  refine (greatW_any A0 n0 c0 A1 n1 c1 A2 n2 c2 x w0 H0.out.1).mono ?_
  rintro e w1 ⟨rfl, g1⟩
  rw [HQ.out]
  have bx := keepB H0.out.2.2.1 g1
  have ba := keepB H0.out.2.2.2 g1
  have H1 := Lib.hid (And.intro (H0.out.1.on g1) (And.intro (H0.out.2.1.trans g1) (And.intro bx ba)))
  clear t0 t1 t2 u0 u1 u2 u3 u4 u5 u6 lx la
  have t0 := cell_of_row w1 _ 0 _ _ _ bx
  have t1 := cell_of_row w1 _ 1 _ _ _ bx
  have t2 := cell_of_row w1 _ 2 _ _ _ bx
  have u0 := cell_of_row w1 _ 0 _ _ _ ba
  have u1 := cell_of_row w1 _ 1 _ _ _ ba
  have u2 := cell_of_row w1 _ 2 _ _ _ ba
  have u3 := cell_of_row w1 _ 3 _ _ _ ba
  have u4 := cell_of_row w1 _ 4 _ _ _ ba
  have u5 := cell_of_row w1 _ 5 _ _ _ ba
  have u6 := cell_of_row w1 _ 6 _ _ _ ba
  have lx : w.heap.size < w1.heap.size := (Array.getElem?_eq_some_iff.1 bx).1
  have la : w.heap.size + 1 < w1.heap.size := (Array.getElem?_eq_some_iff.1 ba).1
  simp at t0 t1 t2 u0 u1 u2 u3 u4 u5 u6
  clear g1 bx ba H0
  cases q0
  case true =>
    go_wp2_with fail
    refine (wakesW_any _).mono ?_
    rintro e wz ⟨rfl, gz⟩
    go_wp2_with fail
    go_ret
    exact ⟨rfl, H1.out.2.1.trans gz⟩
  obtain ⟨zp, hzp⟩ : ∃ z, (decide ((2000 : Int) < (pt.size : Int)) || decide ((200 : Int) < (pn : Int))) = z := ⟨_, rfl⟩
  have HZp := Lib.hid hzp
  clear hzp
  go_wp2_with fail
  refine (act_any pk pa pb pv pg pt pr pn pc w1).mono ?_
  rintro e w2 ⟨rfl, g2⟩
  rw [HZp.out]
  have bx := keepB H1.out.2.2.1 g2
  have ba := keepB H1.out.2.2.2 g2
  have H2 := Lib.hid (And.intro (H1.out.1.on g2) (And.intro (H1.out.2.1.trans g2) (And.intro bx ba)))
  clear t0 t1 t2 u0 u1 u2 u3 u4 u5 u6 lx la
  have t0 := cell_of_row w2 _ 0 _ _ _ bx
  have t1 := cell_of_row w2 _ 1 _ _ _ bx
  have t2 := cell_of_row w2 _ 2 _ _ _ bx
  have u0 := cell_of_row w2 _ 0 _ _ _ ba
  have u1 := cell_of_row w2 _ 1 _ _ _ ba
  have u2 := cell_of_row w2 _ 2 _ _ _ ba
  have u3 := cell_of_row w2 _ 3 _ _ _ ba
  have u4 := cell_of_row w2 _ 4 _ _ _ ba
  have u5 := cell_of_row w2 _ 5 _ _ _ ba
  have u6 := cell_of_row w2 _ 6 _ _ _ ba
  have lx : w.heap.size < w2.heap.size := (Array.getElem?_eq_some_iff.1 bx).1
  have la : w.heap.size + 1 < w2.heap.size := (Array.getElem?_eq_some_iff.1 ba).1
  simp at t0 t1 t2 u0 u1 u2 u3 u4 u5 u6
  clear g2 bx ba H1
  cases zp
  case true =>
    go_wp2_with fail
    refine (wakesW_any _).mono ?_
    rintro e wz ⟨rfl, gz⟩
    go_wp2_with fail
    go_ret
    exact ⟨rfl, H2.out.2.1.trans gz⟩
  obtain ⟨mp, hmp⟩ : ∃ z, mayW x ⟨pk, pa, pb, pv, pg, pt, ps⟩ = z := ⟨_, rfl⟩
  have HMp := Lib.hid hmp
  clear hmp
  go_wp2_with fail
  refine (MayW_any A0 n0 c0 A1 n1 c1 A2 n2 c2 x pk pa pb pv pg pt ps pr pn pc pl pm w2 H2.out.1).mono ?_
  rintro e w3 ⟨rfl, g3⟩
  rw [HMp.out]
  have bx := keepB H2.out.2.2.1 g3
  have ba := keepB H2.out.2.2.2 g3
  have H3 := Lib.hid (And.intro (H2.out.1.on g3) (And.intro (H2.out.2.1.trans g3) (And.intro bx ba)))
  clear t0 t1 t2 u0 u1 u2 u3 u4 u5 u6 lx la
  have t0 := cell_of_row w3 _ 0 _ _ _ bx
  have t1 := cell_of_row w3 _ 1 _ _ _ bx
  have t2 := cell_of_row w3 _ 2 _ _ _ bx
  have u0 := cell_of_row w3 _ 0 _ _ _ ba
  have u1 := cell_of_row w3 _ 1 _ _ _ ba
  have u2 := cell_of_row w3 _ 2 _ _ _ ba
  have u3 := cell_of_row w3 _ 3 _ _ _ ba
  have u4 := cell_of_row w3 _ 4 _ _ _ ba
  have u5 := cell_of_row w3 _ 5 _ _ _ ba
  have u6 := cell_of_row w3 _ 6 _ _ _ ba
  have lx : w.heap.size < w3.heap.size := (Array.getElem?_eq_some_iff.1 bx).1
  have la : w.heap.size + 1 < w3.heap.size := (Array.getElem?_eq_some_iff.1 ba).1
  simp at t0 t1 t2 u0 u1 u2 u3 u4 u5 u6
  clear g3 bx ba H2
  cases mp
  case false =>
    go_wp2_with fail
    refine (wakesW_any _).mono ?_
    rintro e wz ⟨rfl, gz⟩
    go_wp2_with fail
    go_ret
    exact ⟨rfl, H3.out.2.1.trans gz⟩
  obtain ⟨y, r, L, HO, hgot⟩ := one_do HMp.out
  have L := Lib.hid L
  have HO := Lib.hid (And.intro HO hgot)
  clear hgot
  go_wp2_with fail
  refine (DoW_any A0 n0 c0 A1 n1 c1 A2 n2 c2 x pk pa pb pv pg pt ps pr pn pc pl pm w3 H3.out.1).mono ?_
  rintro e w4 ⟨D0, m0, k0, D1, m1, k1, D2, m2, k2, rfl, g4, h4⟩
  rw [L.out.2.1, L.out.2.2]
  rw [L.out.1] at h4
  have g5 := World.grownBy_alloc w4 (.cells #[.slice D0 m0 k0, .slice D1 m1 k1, .slice D2 m2 k2] 27) none
  have bo := heap_alloc_new w4 (.cells #[.slice D0 m0 k0, .slice D1 m1 k1, .slice D2 m2 k2] 27)
  have bx := keepB H3.out.2.2.1 g4
  have ba := keepB H3.out.2.2.2 g4
  have hm0 : m0 = n0 := by rw [← h4.s0.length, ← H3.out.1.s0.length]; exact HO.out.1.len
  have hm1 : m1 = n1 := by rw [← h4.s1.length, ← H3.out.1.s1.length]; exact HO.out.1.now
  subst hm0 hm1
  have hO : w.heap.size + 1 < w4.heap.size := (Array.getElem?_eq_some_iff.1 ba).1
  have H5 := Lib.hid (And.intro (H3.out.1.on (g4.trans g5)) (And.intro (H3.out.2.1.trans (g4.trans g5)) (And.intro (keepB bx g5) (And.intro (keepB ba g5) (And.intro (h4.on g5) bo)))))
  clear t0 t1 t2 u0 u1 u2 u3 u4 u5 u6 lx la
  have t0 := cell_of_row w4 _ 0 _ _ _ bx
  have t1 := cell_of_row w4 _ 1 _ _ _ bx
  have t2 := cell_of_row w4 _ 2 _ _ _ bx
  have u0 := cell_of_row w4 _ 0 _ _ _ ba
  have u1 := cell_of_row w4 _ 1 _ _ _ ba
  have u2 := cell_of_row w4 _ 2 _ _ _ ba
  have u3 := cell_of_row w4 _ 3 _ _ _ ba
  have u4 := cell_of_row w4 _ 4 _ _ _ ba
  have u5 := cell_of_row w4 _ 5 _ _ _ ba
  have u6 := cell_of_row w4 _ 6 _ _ _ ba
  have lx : w.heap.size < w4.heap.size := (Array.getElem?_eq_some_iff.1 bx).1
  have la : w.heap.size + 1 < w4.heap.size := (Array.getElem?_eq_some_iff.1 ba).1
  simp at t0 t1 t2 u0 u1 u2 u3 u4 u5 u6
  clear g4 g5 h4 bx ba bo H3
  have nn0 : ((m0 : Int) != (m0 : Int)) = false := by simp
  have nn1 : ((m1 : Int) != (m1 : Int)) = false := by simp
  go_wp2_with fail
  obtain ⟨O, hOe⟩ : ∃ O, w4.heap.size = O := ⟨_, rfl⟩
  rw [hOe] at H5 hO ⊢
  generalize w4.alloc (.cells #[.slice D0 m0 k0, .slice D1 m1 k1, .slice D2 m2 k2] 27) = w5 at H5 ⊢
  clear hOe t0 t1 t2 u0 u1 u2 u3 u4 u5 u6 lx la
  obtain ⟨cp, hcp⟩ : ∃ z, (touch pk pa).1 = z := ⟨_, rfl⟩
  obtain ⟨sp, hsp⟩ : ∃ z, (touch pk pa).2 = z := ⟨_, rfl⟩
  have HTp := Lib.hid (And.intro hcp hsp)
  clear hcp hsp nn0 nn1
  refine (touches_any pk pa pb pv pg pt pr pn pc w5).mono ?_
  rintro e w6 ⟨rfl, g6⟩
  rw [HTp.out.1, HTp.out.2]
  have H6 := Lib.hid (And.intro (H5.out.1.on g6) (And.intro (H5.out.2.1.trans g6) (And.intro (keepB H5.out.2.2.1 g6) (And.intro (keepB H5.out.2.2.2.1 g6) (And.intro (H5.out.2.2.2.2.1.on g6) (keepB H5.out.2.2.2.2.2 g6))))))
  clear g6 H5
  have bx := H6.out.2.2.1
  have ba := H6.out.2.2.2.1
  have bo := H6.out.2.2.2.2.2
  have t0 := cell_of_row w6 _ 0 _ _ _ bx
  have t1 := cell_of_row w6 _ 1 _ _ _ bx
  have t2 := cell_of_row w6 _ 2 _ _ _ bx
  have u0 := cell_of_row w6 _ 0 _ _ _ ba
  have u1 := cell_of_row w6 _ 1 _ _ _ ba
  have u2 := cell_of_row w6 _ 2 _ _ _ ba
  have u3 := cell_of_row w6 _ 3 _ _ _ ba
  have u4 := cell_of_row w6 _ 4 _ _ _ ba
  have u5 := cell_of_row w6 _ 5 _ _ _ ba
  have u6 := cell_of_row w6 _ 6 _ _ _ ba
  have lx : w.heap.size < w6.heap.size := (Array.getElem?_eq_some_iff.1 bx).1
  have la : w.heap.size + 1 < w6.heap.size := (Array.getElem?_eq_some_iff.1 ba).1
  have o0 := cell_of_row w6 _ 0 _ _ _ bo
  have o1 := cell_of_row w6 _ 1 _ _ _ bo
  have o2 := cell_of_row w6 _ 2 _ _ _ bo
  have lo : O < w6.heap.size := (Array.getElem?_eq_some_iff.1 bo).1
  simp at t0 t1 t2 u0 u1 u2 u3 u4 u5 u6 o0 o1 o2
  clear bx ba bo
  go_wp2_with fail
  have hnm := H6.out.1.s0.length
  have hnm' := H6.out.2.2.2.2.1.s0.length
  have hnx := H6.out.1.s0.le_max
  have hnc := H6.out.1.s0.le_cap
  clear t0 t1 t2 u0 u1 u2 u3 u4 u5 u6 lx la o0 o1 o2 lo
  go_loopw [62] (fun i wr => ∃ k : Nat, i = .int .i64 k ∧ k ≤ m0 ∧ w6.grownBy wr none) (fun i _ => m0 - (intOf i).toNat)
  case atStart => exact ⟨0, rfl, Nat.zero_le _, World.grownBy.refl _ _⟩
  case round =>
    obtain ⟨k, rfl, hk, hg⟩ := hrel
    have HK := Lib.hid (And.intro (H6.out.1.on hg) (And.intro (H6.out.2.1.trans hg) (And.intro (keepB H6.out.2.2.1 hg) (And.intro (keepB H6.out.2.2.2.1 hg) (And.intro (H6.out.2.2.2.2.1.on hg) (keepB H6.out.2.2.2.2.2 hg))))))
    have bx := HK.out.2.2.1
    have ba := HK.out.2.2.2.1
    have bo := HK.out.2.2.2.2.2
    have t0 := cell_of_row wr _ 0 _ _ _ bx
    have t1 := cell_of_row wr _ 1 _ _ _ bx
    have t2 := cell_of_row wr _ 2 _ _ _ bx
    have u0 := cell_of_row wr _ 0 _ _ _ ba
    have u1 := cell_of_row wr _ 1 _ _ _ ba
    have u2 := cell_of_row wr _ 2 _ _ _ ba
    have u3 := cell_of_row wr _ 3 _ _ _ ba
    have u4 := cell_of_row wr _ 4 _ _ _ ba
    have u5 := cell_of_row wr _ 5 _ _ _ ba
    have u6 := cell_of_row wr _ 6 _ _ _ ba
    have lx : w.heap.size < wr.heap.size := (Array.getElem?_eq_some_iff.1 bx).1
    have la : w.heap.size + 1 < wr.heap.size := (Array.getElem?_eq_some_iff.1 ba).1
    have o0 := cell_of_row wr _ 0 _ _ _ bo
    have o1 := cell_of_row wr _ 1 _ _ _ bo
    have o2 := cell_of_row wr _ 2 _ _ _ bo
    have lo : O < wr.heap.size := (Array.getElem?_eq_some_iff.1 bo).1
    simp at t0 t1 t2 u0 u1 u2 u3 u4 u5 u6 o0 o1 o2
    clear bx ba bo
    by_cases hkn : k < m0
    · obtain ⟨a, ha⟩ : ∃ a, x.c[k]? = some a := ⟨_, List.getElem?_eq_getElem (by omega)⟩
      obtain ⟨b, hb⟩ : ∃ b, y.c[k]? = some b := ⟨_, List.getElem?_eq_getElem (by omega)⟩
      obtain ⟨ab, aof, hA, haS, q0⟩ := int_at HK.out.1.s0 ha
      obtain ⟨bb, bof, hB, hbS, r0⟩ := int_at HK.out.2.2.2.2.1.s0 hb
      have hbl : bb < wr.heap.size := hbS
      have hal : ab < wr.heap.size := haS
      subst hA hB
      have i1 : (0 : Int) ≤ (k : Int) := by omega
      have i2 : (k : Int) < (m0 : Int) := by omega
      have HE := Lib.hid (show (k : Int) ≠ cp → b = a by
        intro hne
        have := HO.out.1.cell k (by rw [HTp.out.1]; exact hne)
        simpa [List.getD, ha, hb] using this)
      clear ha hb haS hbS
      by_cases hc : (k : Int) = cp
      · have hcb : ((k : Int) != cp) = false := by simpa using hc
        have hcc : ((k : Int) == cp) = true := by simpa using hc
        clear hc
        go_wp2_with fail
        refine wp_region_ext (by kernel_rfl) (by kernel_rfl) ?_
        repeat (any_goals (first | go_big_quiet_step ((fail)) | quiet_step ((fail))))
        refine wpQuiet_nil ?_
        intro wx hwx
        have hbx := ext_elim hwx
        clear hwx
        go_wp2
        go_roundw
        case rel => exact ⟨k + 1, by go_num, by omega, hg.trans (below_grown hbx)⟩
        case measure => simp [intOf]; omega
      · have hcb : ((k : Int) != cp) = true := by simpa using hc
        have hcc : ((k : Int) == cp) = false := by simpa using hc
        obtain rfl := HE.out hc
        clear hc
        go_wp2_with fail
        refine wp_region_ext (by kernel_rfl) (by kernel_rfl) ?_
        repeat (any_goals (first | go_big_quiet_step ((fail)) | quiet_step ((fail))))
        refine wpQuiet_nil ?_
        intro wx hwx
        have hbx := ext_elim hwx
        clear hwx
        go_wp2
        go_roundw
        case rel => exact ⟨k + 1, by go_num, by omega, hg.trans (below_grown hbx)⟩
        case measure => simp [intOf]; omega
    · obtain rfl : k = m0 := by omega
      go_wp2_with fail
      have hsm := HK.out.1.s1.length
      have hsm' := HK.out.2.2.2.2.1.s1.length
      clear t0 t1 t2 u0 u1 u2 u3 u4 u5 u6 lx la o0 o1 o2 lo hg hnm hnm' hnx hnc
      have hnx := HK.out.1.s1.le_max
      have hnc := HK.out.1.s1.le_cap
      go_loopw [86] (fun i wi => ∃ k : Nat, i = .int .i64 k ∧ k ≤ m1 ∧ wr.grownBy wi none) (fun i _ => m1 - (intOf i).toNat)
      case atStart => exact ⟨0, rfl, Nat.zero_le _, World.grownBy.refl _ _⟩
      case round =>
        obtain ⟨j, rfl, hj, hgj⟩ := hrel
        have HJ := Lib.hid (And.intro (HK.out.1.on hgj) (And.intro (HK.out.2.1.trans hgj) (And.intro (keepB HK.out.2.2.1 hgj) (And.intro (keepB HK.out.2.2.2.1 hgj) (And.intro (HK.out.2.2.2.2.1.on hgj) (keepB HK.out.2.2.2.2.2 hgj))))))
        have bx := HJ.out.2.2.1
        have ba := HJ.out.2.2.2.1
        have bo := HJ.out.2.2.2.2.2
        have t0 := cell_of_row wr _ 0 _ _ _ bx
        have t1 := cell_of_row wr _ 1 _ _ _ bx
        have t2 := cell_of_row wr _ 2 _ _ _ bx
        have u0 := cell_of_row wr _ 0 _ _ _ ba
        have u1 := cell_of_row wr _ 1 _ _ _ ba
        have u2 := cell_of_row wr _ 2 _ _ _ ba
        have u3 := cell_of_row wr _ 3 _ _ _ ba
        have u4 := cell_of_row wr _ 4 _ _ _ ba
        have u5 := cell_of_row wr _ 5 _ _ _ ba
        have u6 := cell_of_row wr _ 6 _ _ _ ba
        have lx : w.heap.size < wr.heap.size := (Array.getElem?_eq_some_iff.1 bx).1
        have la : w.heap.size + 1 < wr.heap.size := (Array.getElem?_eq_some_iff.1 ba).1
        have o0 := cell_of_row wr _ 0 _ _ _ bo
        have o1 := cell_of_row wr _ 1 _ _ _ bo
        have o2 := cell_of_row wr _ 2 _ _ _ bo
        have lo : O < wr.heap.size := (Array.getElem?_eq_some_iff.1 bo).1
        simp at t0 t1 t2 u0 u1 u2 u3 u4 u5 u6 o0 o1 o2
        clear bx ba bo
        by_cases hjn : j < m1
        · obtain ⟨a, ha⟩ : ∃ a, x.d.now[j]? = some a := ⟨_, List.getElem?_eq_getElem (by omega)⟩
          obtain ⟨b, hb⟩ : ∃ b, y.d.now[j]? = some b := ⟨_, List.getElem?_eq_getElem (by omega)⟩
          obtain ⟨ab, aof, hA, haS, _, q0, q1⟩ := sec_at HJ.out.1.s1 ha
          obtain ⟨bb, bof, hB, hbS, _, r0, r1⟩ := sec_at HJ.out.2.2.2.2.1.s1 hb
          have hbl : bb < wr.heap.size := hbS
          have hal : ab < wr.heap.size := haS
          subst hA hB
          have i1 : (0 : Int) ≤ (j : Int) := by omega
          have i2 : (j : Int) < (m1 : Int) := by omega
          have HE := Lib.hid (show (j : Int) ≠ sp → b = a by
            intro hne
            have := HO.out.1.sec j (by rw [HTp.out.2]; exact hne)
            simpa [List.getD, ha, hb] using this)
          clear ha hb haS hbS
          by_cases hc : (j : Int) = sp
          · have hcb : ((j : Int) != sp) = false := by simpa using hc
            have hcc : ((j : Int) == sp) = true := by simpa using hc
            clear hc
            go_wp2_with fail
            refine wp_region_ext (by kernel_rfl) (by kernel_rfl) ?_
            repeat (any_goals (first | go_big_quiet_step ((fail)) | quiet_step ((fail))))
            refine wpQuiet_nil ?_
            intro wx hwx
            have hbx := ext_elim hwx
            clear hwx
            go_wp2
            go_roundw
            case rel => exact ⟨j + 1, by go_num, by omega, hgj.trans (below_grown hbx)⟩
            case measure => simp [intOf]; omega
          · have hcb : ((j : Int) != sp) = true := by simpa using hc
            have hcc : ((j : Int) == sp) = false := by simpa using hc
            obtain rfl := HE.out hc
            clear hc
            go_wp2_with fail
            refine wp_region_ext (by kernel_rfl) (by kernel_rfl) ?_
            repeat (any_goals (first | go_big_quiet_step ((fail)) | quiet_step ((fail))))
            refine wpQuiet_nil ?_
            intro wx hwx
            have hbx := ext_elim hwx
            clear hwx
            go_wp2
            go_roundw
            case rel => exact ⟨j + 1, by go_num, by omega, hgj.trans (below_grown hbx)⟩
            case measure => simp [intOf]; omega
        · obtain rfl : j = m1 := by omega
          clear hgj hsm hsm' hnx hnc
          by_cases hk0 : pk = 0 ∨ (pk = 2 ∧ r = 0)
          · have hyx : y = x := HO.out.1.none (by rw [HO.out.2]; exact hk0)
            subst hyx
            clear HO L
            rcases hk0 with rfl | ⟨rfl, rfl⟩
            · go_wp2_with fail
              refine (SameW_any D0 k k0 D1 j k1 D2 m2 k2 A0 k c0 A1 j c1 A2 n2 c2 y y wr HJ.out.2.2.2.2.1 HJ.out.1).mono ?_
              rintro e w8 ⟨rfl, g8⟩
              rw [sameW_self']
              go_wp2_with fail
              refine (wakesW_any _).mono ?_
              rintro e wz ⟨rfl, gz⟩
              go_wp2_with fail
              go_ret
              exact ⟨rfl, (HJ.out.2.1.trans g8).trans gz⟩
            · go_wp2_with fail
              refine (SameW_any D0 k k0 D1 j k1 D2 m2 k2 A0 k c0 A1 j c1 A2 n2 c2 y y wr HJ.out.2.2.2.2.1 HJ.out.1).mono ?_
              rintro e w8 ⟨rfl, g8⟩
              rw [sameW_self']
              go_wp2_with fail
              refine (wakesW_any _).mono ?_
              rintro e wz ⟨rfl, gz⟩
              go_wp2_with fail
              go_ret
              exact ⟨rfl, (HJ.out.2.1.trans g8).trans gz⟩
          · have hk1 : (pk == 0) = false := by simpa using (fun e => hk0 (.inl e) : ¬ pk = 0)
            have hdx : cp < 0 ∨ y.d = x.d := by have := HO.out.1.disk; rw [HTp.out.1] at this; exact this
            by_cases hk2 : pk = 2
            · have hk3 : (r == 0) = false := by simpa using (fun e => hk0 (.inr ⟨hk2, e⟩) : ¬ r = 0)
              subst hk2
              clear hk0 hk1
              by_cases hcp : cp < 0
              · clear hdx
                go_wp2_with fail
                refine (wakesW_any _).mono ?_
                rintro e wz ⟨rfl, gz⟩
                go_wp2_with fail
                go_ret
                exact ⟨rfl, HJ.out.2.1.trans gz⟩
              · have hdy : y.d = x.d := by rcases hdx with h | h; exact absurd h hcp; exact h
                have HD := Lib.hid hdy
                clear hdx hdy
                go_wp2_with fail
                refine (rSame_any D1 j k1 D2 m2 k2 A1 j c1 A2 n2 c2 y.d x.d wr HJ.out.2.2.2.2.1.s1 HJ.out.2.2.2.2.1.s2 HJ.out.1.s1 HJ.out.1.s2).mono ?_
                rintro e w8 ⟨rfl, g8⟩
                rw [HD.out, sameD_self]
                go_wp2_with fail
                refine (wakesW_any _).mono ?_
                rintro e wz ⟨rfl, gz⟩
                go_wp2_with fail
                go_ret
                exact ⟨rfl, (HJ.out.2.1.trans g8).trans gz⟩
            · have hk3 : (pk == 2) = false := by simpa using hk2
              clear hk0 hk2
              by_cases hcp : cp < 0
              · clear hdx
                go_wp2_with fail
                refine (wakesW_any _).mono ?_
                rintro e wz ⟨rfl, gz⟩
                go_wp2_with fail
                go_ret
                exact ⟨rfl, HJ.out.2.1.trans gz⟩
              · have hdy : y.d = x.d := by rcases hdx with h | h; exact absurd h hcp; exact h
                have HD := Lib.hid hdy
                clear hdx hdy
                go_wp2_with fail
                refine (rSame_any D1 j k1 D2 m2 k2 A1 j c1 A2 n2 c2 y.d x.d wr HJ.out.2.2.2.2.1.s1 HJ.out.2.2.2.2.1.s2 HJ.out.1.s1 HJ.out.1.s2).mono ?_
                rintro e w8 ⟨rfl, g8⟩
                rw [HD.out, sameD_self]
                go_wp2_with fail
                refine (wakesW_any _).mono ?_
                rintro e wz ⟨rfl, gz⟩
                go_wp2_with fail
                go_ret
                exact ⟨rfl, (HJ.out.2.1.trans g8).trans gz⟩
end Go.Proofs.Ytflenopenifofaa
