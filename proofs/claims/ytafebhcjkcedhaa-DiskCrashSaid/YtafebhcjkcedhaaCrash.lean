/- DiskCrash: whatever the arguments, the call returns true and changes nothing that was there. No condition. -/
import Derived.Test.YtafebhcjkcedhaaRk6
import Derived.Test.YtafebhcjkcedhaaDWakes
import Derived.Test.YtafebhcjkcedhaaDAct
import Derived.Test.YtafebhcjkcedhaaDkL
namespace Go.Proofs.Ytafebhcjkcedhaa
open Go Go.RowKit Go.Deep
attribute [local go_sem] cell?_ext frozen?_ext

theorem mix_at (x : Int) (d : Dk) {j : Nat} (hj : j < 33) : (mix x d)[j]? = some (if bitL x j = true then d.sure.getD j secZ else d.now.getD j secZ) := by simp [mix, hj]
theorem crash_eq {d : Dk} (h : okD d = true) (x : Int) : crashD d x = ⟨mix x d, mix x d⟩ := by unfold crashD; rw [if_pos h]
theorem crash_zero {d : Dk} (h : okD d = true) : crashD d 0 = ⟨d.now, d.now⟩ := by rw [crash_eq h, mix_zero (okD_len h).1]
theorem crash_again {d : Dk} (h : okD d = true) (x : Int) : crashD (crashD d 0) x = crashD d 0 := by
  have h0 := okD_crash h 0
  rw [crash_eq h0, crash_zero h, mix_same x (okD_len h).1]
theorem sameD_refl (d : Dk) : sameD d d = true := (sameD_iff d d).2 rfl

set_option maxRecDepth 100000 in
set_option maxHeartbeats 16000000 in
theorem crash_in (A1 : Option Addr) (n1 c1 : Nat) (A2 : Option Addr) (n2 c2 : Nat) (d : Dk) (x : Int) (w : World) (h1 : Sl ESec w (· < w.heap.size) A1 n1 c1 d.now) (h2 : Sl ESec w (· < w.heap.size) A2 n2 c2 d.sure) (q1 : greatD d = false) (ho : okD d = true) :
    Calls Try.prog 8 #[dkC A1 n1 c1 A2 n2 c2, .int .u64 x] w fun e w' => e = .returned (.bool true) ∧ w.grownBy w' none := by
  have hl := okD_len ho
  obtain rfl : n1 = 33 := by rw [← h1.length]; exact hl.1
  obtain rfl : n2 = 33 := by rw [← h2.length]; exact hl.2
  have g0 := World.grownBy_alloc w (.cells #[.slice A1 33 c1, .slice A2 33 c2] 27) none
  have b0 := heap_alloc_new w (.cells #[.slice A1 33 c1, .slice A2 33 c2] 27)
  obtain ⟨w0, hw0⟩ : ∃ w0, w.alloc (.cells #[.slice A1 33 c1, .slice A2 33 c2] 27) = w0 := ⟨_, rfl⟩
  rw [hw0] at g0 b0
  have H := Lib.hid (And.intro g0 (And.intro b0 (And.intro (h1.on g0) (And.intro (h2.on g0) hw0))))
  have HQ := Lib.hid (And.intro q1 (And.intro ho hl))
  clear g0 b0 h1 h2 hw0 q1 ho hl
  go_enter Try.func8, Try.ntmps8
  go_wp2_with fail
  rw [H.out.2.2.2.2]
  refine (rGreat_any A1 33 c1 A2 33 c2 d w0 H.out.2.2.1 H.out.2.2.2.1).mono ?_
  rintro e w1 ⟨rfl, g1⟩
  rw [HQ.out.1]
  have b0 := (g1.block _ (Array.getElem?_eq_some_iff.1 H.out.2.1).1 (by simp)).trans H.out.2.1
  have H1 := Lib.hid (And.intro (H.out.1.trans g1) (And.intro b0 (And.intro (H.out.2.2.1.on g1) (H.out.2.2.2.1.on g1))))
  have t0 := cell_of_row w1 _ 0 _ _ _ b0
  have t1 := cell_of_row w1 _ 1 _ _ _ b0
  simp at t0 t1
  clear g1 b0 H
  go_wp2_with fail
  refine (rCheck_any A1 33 c1 A2 33 c2 d w1 H1.out.2.2.1 H1.out.2.2.2).mono ?_
  rintro e w2 ⟨rfl, g2⟩
  rw [chk_yes HQ.out.2.1]
  have b0 := (g2.block _ (Array.getElem?_eq_some_iff.1 H1.out.2.1).1 (by simp)).trans H1.out.2.1
  have H2 := Lib.hid (And.intro (H1.out.1.trans g2) (And.intro b0 (And.intro (H1.out.2.2.1.on g2) (H1.out.2.2.2.on g2))))
  clear t0 t1
  have t0 := cell_of_row w2 _ 0 _ _ _ b0
  have t1 := cell_of_row w2 _ 1 _ _ _ b0
  simp at t0 t1
  clear g2 b0 H1
  go_wp2_with fail
  refine (Crash_any A1 33 c1 A2 33 c2 d x w2 H2.out.2.2.1 H2.out.2.2.2).mono ?_
  rintro e w3 ⟨A3, n3, c3, A4, n4, c4, rfl, g3, s3, s4⟩
  rw [chk_yes HQ.out.2.1]
  rw [crash_eq HQ.out.2.1] at s3 s4
  obtain rfl : n3 = 33 := by rw [← s3.length]; exact mix_length x d
  obtain rfl : n4 = 33 := by rw [← s4.length]; exact mix_length x d
  have g4 := g3.trans (World.grownBy_alloc w3 (.cells #[.slice A3 33 c3, .slice A4 33 c4] 27) none)
  have b0 := (g4.block _ (Array.getElem?_eq_some_iff.1 H2.out.2.1).1 (by simp)).trans H2.out.2.1
  have b1 := heap_alloc_new w3 (.cells #[.slice A3 33 c3, .slice A4 33 c4] 27)
  have H4 := Lib.hid (And.intro (H2.out.1.trans g4) (And.intro b0 (And.intro (H2.out.2.2.1.on g4) (And.intro (H2.out.2.2.2.on g4) (And.intro b1 (And.intro (s3.push (.cells #[.slice A3 33 c3, .slice A4 33 c4] 27)) (s4.push (.cells #[.slice A3 33 c3, .slice A4 33 c4] 27))))))))
  clear t0 t1
  have t0 := cell_of_row _ _ 0 _ _ _ b0
  have l0 := (Array.getElem?_eq_some_iff.1 b0).1
  have l00 : w.heap.size < w3.heap.size := Nat.lt_of_lt_of_le (Array.getElem?_eq_some_iff.1 H2.out.2.1).1 g3.size
  have t00 := (g3.cell_far ⟨w.heap.size, 0, none⟩ (Array.getElem?_eq_some_iff.1 H2.out.2.1).1 (by simp)).trans (cell_of_row _ _ 0 _ _ _ H2.out.2.1)
  simp at t00
  clear g3 g4 b0 b1 s3 s4 H2 t0 l0
  go_wp2_with fail
  generalize w3.alloc (.cells #[.slice A3 33 c3, .slice A4 33 c4] 27) = w4 at H4 ⊢
  obtain ⟨B1, hB1⟩ : ∃ B1, w3.heap.size = B1 := ⟨_, rfl⟩
  rw [hB1] at H4 ⊢
  clear t00 l00 hB1
  go_loopw [52] (fun i wr => ∃ k : Nat, i = .int .i64 k ∧ k ≤ 33 ∧ w4.grownBy wr none) (fun i _ => 33 - (intOf i).toNat)
  case atStart => exact ⟨0, rfl, Nat.zero_le _, World.grownBy.refl _ _⟩
  case round =>
    obtain ⟨k, rfl, hk, hg⟩ := hrel
    obtain ⟨gw, b0, sA, sB, b1, s3, s4⟩ := H4.out
    have b0 := (hg.block _ (Array.getElem?_eq_some_iff.1 b0).1 (by simp)).trans b0
    have b1 := (hg.block _ (Array.getElem?_eq_some_iff.1 b1).1 (by simp)).trans b1
    have t0 := cell_of_row _ _ 0 _ _ _ b0
    have t1 := cell_of_row _ _ 1 _ _ _ b0
    have u0 := cell_of_row _ _ 0 _ _ _ b1
    have u1 := cell_of_row _ _ 1 _ _ _ b1
    simp at t0 t1 u0 u1
    have m1 := (Array.getElem?_eq_some_iff.1 b0).1
    have m2 := (Array.getElem?_eq_some_iff.1 b1).1
    by_cases hkn : k < 33
    · have i0 : (0 : Int) ≤ (k : Int) := by omega
      have i1 : (k : Int) < (33 : Int) := by omega
      obtain ⟨y, hy⟩ : ∃ y, d.now[k]? = some y := ⟨_, List.getElem?_eq_getElem (by rw [HQ.out.2.2.1]; exact hkn)⟩
      obtain ⟨z, hz⟩ : ∃ z, d.sure[k]? = some z := ⟨_, List.getElem?_eq_getElem (by rw [HQ.out.2.2.2]; exact hkn)⟩
      have hm := mix_at x d hkn
      rw [getD_some hy, getD_some hz] at hm
      obtain ⟨ba1, oa1, hAa, ha1, _, xa0, xa1⟩ := sec_at (sA.on hg) hy
      obtain ⟨ba2, oa2, hAb, ha2, _, xb0, xb1⟩ := sec_at (sB.on hg) hz
      cases hb : bitL x k
      · have hb' : (bits BinOp.and IntKind.u64 (x / 2 ^ k) 1 == 1) = false := hb
        rw [hb, if_neg (by simp)] at hm
        have HG := Lib.hid (And.intro hg (And.intro b0 (And.intro b1 (And.intro hm (And.intro s3 s4)))))
        subst hAa hAb
        clear gw b0 sA sB b1 s3 s4 hy hz hm hb hg u0 u1 m2
        go_wp2_with fail
        have g5 := World.grownBy_alloc wr (.cells #[.int .i64 y.n, .string y.b] 36) none
        have b5 := heap_alloc_new wr (.cells #[.int .i64 y.n, .string y.b] 36)
        generalize wr.alloc (.cells #[.int .i64 y.n, .string y.b] 36) = w5 at g5 b5 ⊢
        obtain ⟨hg, b0, b1, hm, s3, s4⟩ := HG.out
        have b1 := (g5.block _ (Array.getElem?_eq_some_iff.1 b1).1 (by simp)).trans b1
        have gg := hg.trans g5
        obtain ⟨ba3, oa3, hAc, ha3, _, xc0, xc1⟩ := sec_at (s3.on gg) hm
        obtain ⟨ba4, oa4, hAd, ha4, _, xd0, xd1⟩ := sec_at (s4.on gg) hm
        have u0 := cell_of_row _ _ 0 _ _ _ b1
        have u1 := cell_of_row _ _ 1 _ _ _ b1
        have v0 := cell_of_row _ _ 0 _ _ _ b5
        have v1 := cell_of_row _ _ 1 _ _ _ b5
        simp at u0 u1 v0 v1
        have m2 := (Array.getElem?_eq_some_iff.1 b1).1
        have m3 := (Array.getElem?_eq_some_iff.1 b5).1
        have GG := Lib.hid gg
        subst hAc hAd
        clear t0 t1 xa0 xa1 xb0 xb1 hg b0 b1 hm s3 s4 g5 b5 gg m1 HG hb'
        refine wp_region_ext (by kernel_rfl) (by kernel_rfl) ?_
        repeat (any_goals (first | go_big_quiet_step ((fail)) | quiet_step ((fail))))
        refine wpQuiet_nil ?_
        intro wx hwx
        have hbx := ext_elim hwx
        clear hwx
        go_wp2
        go_roundw
        case rel => exact ⟨k + 1, by go_num, by omega, GG.out.trans (below_grown hbx)⟩
        case measure => simp [intOf]; omega
      · have hb' : (bits BinOp.and IntKind.u64 (x / 2 ^ k) 1 == 1) = true := hb
        rw [hb, if_pos rfl] at hm
        have HG := Lib.hid (And.intro hg (And.intro b0 (And.intro b1 (And.intro hm (And.intro s3 s4)))))
        subst hAa hAb
        clear gw b0 sA sB b1 s3 s4 hy hz hm hb hg u0 u1 m2
        go_wp2_with fail
        have g5 := World.grownBy_alloc wr (.cells #[.int .i64 z.n, .string z.b] 36) none
        have b5 := heap_alloc_new wr (.cells #[.int .i64 z.n, .string z.b] 36)
        generalize wr.alloc (.cells #[.int .i64 z.n, .string z.b] 36) = w5 at g5 b5 ⊢
        obtain ⟨hg, b0, b1, hm, s3, s4⟩ := HG.out
        have b1 := (g5.block _ (Array.getElem?_eq_some_iff.1 b1).1 (by simp)).trans b1
        have gg := hg.trans g5
        obtain ⟨ba3, oa3, hAc, ha3, _, xc0, xc1⟩ := sec_at (s3.on gg) hm
        obtain ⟨ba4, oa4, hAd, ha4, _, xd0, xd1⟩ := sec_at (s4.on gg) hm
        have u0 := cell_of_row _ _ 0 _ _ _ b1
        have u1 := cell_of_row _ _ 1 _ _ _ b1
        have v0 := cell_of_row _ _ 0 _ _ _ b5
        have v1 := cell_of_row _ _ 1 _ _ _ b5
        simp at u0 u1 v0 v1
        have m2 := (Array.getElem?_eq_some_iff.1 b1).1
        have m3 := (Array.getElem?_eq_some_iff.1 b5).1
        have GG := Lib.hid gg
        subst hAc hAd
        clear t0 t1 xa0 xa1 xb0 xb1 hg b0 b1 hm s3 s4 g5 b5 gg m1 HG hb'
        refine wp_region_ext (by kernel_rfl) (by kernel_rfl) ?_
        repeat (any_goals (first | go_big_quiet_step ((fail)) | quiet_step ((fail))))
        refine wpQuiet_nil ?_
        intro wx hwx
        have hbx := ext_elim hwx
        clear hwx
        go_wp2
        go_roundw
        case rel => exact ⟨k + 1, by go_num, by omega, GG.out.trans (below_grown hbx)⟩
        case measure => simp [intOf]; omega
    · obtain rfl : k = 33 := by omega
      have s1 := sA.on hg
      have s2 := sB.on hg
      have HA := Lib.hid (And.intro (gw.trans hg) (And.intro b0 (And.intro b1 (And.intro s1 (And.intro s2 (And.intro (s3.on hg) (s4.on hg)))))))
      clear gw b0 b1 sA sB s3 s4 s1 s2 hg u0 u1 m2
      go_wp2_with fail
      refine (Sync_any A1 33 c1 A2 33 c2 d wr HA.out.2.2.2.1 HA.out.2.2.2.2.1).mono ?_
      rintro e w5 ⟨A5, n5, c5, A6, n6, c6, rfl, g5, s5, s6⟩
      rw [chk_yes HQ.out.2.1]
      obtain ⟨gw, b0, b1, sA, sB, s3, s4⟩ := HA.out
      have g6 := g5.trans (World.grownBy_alloc w5 (.cells #[.slice A5 n5 c5, .slice A6 n6 c6] 27) none)
      have b2 := heap_alloc_new w5 (.cells #[.slice A5 n5 c5, .slice A6 n6 c6] 27)
      have b0' := (g5.block _ (Array.getElem?_eq_some_iff.1 b0).1 (by simp)).trans b0
      have b0 := (g6.block _ (Array.getElem?_eq_some_iff.1 b0).1 (by simp)).trans b0
      have b1 := (g6.block _ (Array.getElem?_eq_some_iff.1 b1).1 (by simp)).trans b1
      have HB := Lib.hid (And.intro (gw.trans g6) (And.intro b0 (And.intro b1 (And.intro b2 (And.intro (sA.on g6) (And.intro (sB.on g6) (And.intro (s3.on g6) (And.intro (s4.on g6) (And.intro (s5.push (.cells #[.slice A5 n5 c5, .slice A6 n6 c6] 27)) (s6.push (.cells #[.slice A5 n5 c5, .slice A6 n6 c6] 27)))))))))))
      clear t0 t1 m1
      have t0 := cell_of_row w5 _ 0 _ _ _ b0'
      have t1 := cell_of_row w5 _ 1 _ _ _ b0'
      simp at t0 t1
      have m1 := (Array.getElem?_eq_some_iff.1 b0').1
      clear gw b0 b0' b1 b2 sA sB s3 s4 s5 s6 g5 g6 HA
      go_wp2_with fail
      generalize w5.alloc (.cells #[.slice A5 n5 c5, .slice A6 n6 c6] 27) = w6 at HB ⊢
      obtain ⟨B2, hB2⟩ : ∃ B2, w5.heap.size = B2 := ⟨_, rfl⟩
      rw [hB2] at HB ⊢
      clear hB2 t0 t1 m1
      refine (Crash_any A1 33 c1 A2 33 c2 d 0 w6 HB.out.2.2.2.2.1 HB.out.2.2.2.2.2.1).mono ?_
      rintro e w7 ⟨A7, n7, c7, A8, n8, c8, rfl, g7, s7, s8⟩
      rw [chk_yes HQ.out.2.1]
      obtain ⟨gw, b0, b1, b2, sA, sB, s3, s4, s5, s6⟩ := HB.out
      have g8 := g7.trans (World.grownBy_alloc w7 (.cells #[.slice A7 n7 c7, .slice A8 n8 c8] 27) none)
      have b3 := heap_alloc_new w7 (.cells #[.slice A7 n7 c7, .slice A8 n8 c8] 27)
      have b2' := (g7.block _ (Array.getElem?_eq_some_iff.1 b2).1 (by simp)).trans b2
      have b2 := (g8.block _ (Array.getElem?_eq_some_iff.1 b2).1 (by simp)).trans b2
      have b1 := (g8.block _ (Array.getElem?_eq_some_iff.1 b1).1 (by simp)).trans b1
      have HC := Lib.hid (And.intro (gw.trans g8) (And.intro b1 (And.intro b2 (And.intro b3 (And.intro (s3.on g8) (And.intro (s4.on g8) (And.intro (s5.on g8) (And.intro (s6.on g8) (And.intro (s7.push (.cells #[.slice A7 n7 c7, .slice A8 n8 c8] 27)) (s8.push (.cells #[.slice A7 n7 c7, .slice A8 n8 c8] 27)))))))))))
      have t0 := cell_of_row w7 _ 0 _ _ _ b2'
      have t1 := cell_of_row w7 _ 1 _ _ _ b2'
      simp at t0 t1
      have m1 := (Array.getElem?_eq_some_iff.1 b2').1
      clear gw b0 b1 b2 b2' b3 sA sB s3 s4 s5 s6 s7 s8 g7 g8 HB
      go_wp2_with fail
      generalize w7.alloc (.cells #[.slice A7 n7 c7, .slice A8 n8 c8] 27) = w8 at HC ⊢
      obtain ⟨B3, hB3⟩ : ∃ B3, w7.heap.size = B3 := ⟨_, rfl⟩
      rw [hB3] at HC ⊢
      clear hB3 t0 t1 m1
      refine (Crash_any A5 n5 c5 A6 n6 c6 (crashD d 0) x w8 HC.out.2.2.2.2.2.2.1 HC.out.2.2.2.2.2.2.2.1).mono ?_
      rintro e w9 ⟨A9, n9, c9, A10, n10, c10, rfl, g9, s9, s10⟩
      rw [crash_again HQ.out.2.1] at s9 s10
      rw [chk_yes (okD_crash HQ.out.2.1 0)]
      obtain ⟨gw, b1, b2, b3, s3, s4, s5, s6, s7, s8⟩ := HC.out
      have ga := g9.trans (World.grownBy_alloc w9 (.cells #[.slice A9 n9 c9, .slice A10 n10 c10] 27) none)
      have b4 := heap_alloc_new w9 (.cells #[.slice A9 n9 c9, .slice A10 n10 c10] 27)
      have b1 := (ga.block _ (Array.getElem?_eq_some_iff.1 b1).1 (by simp)).trans b1
      have b2' := (g9.block _ (Array.getElem?_eq_some_iff.1 b2).1 (by simp)).trans b2
      have b3' := (g9.block _ (Array.getElem?_eq_some_iff.1 b3).1 (by simp)).trans b3
      have b2 := (ga.block _ (Array.getElem?_eq_some_iff.1 b2).1 (by simp)).trans b2
      have b3 := (ga.block _ (Array.getElem?_eq_some_iff.1 b3).1 (by simp)).trans b3
      have HD := Lib.hid (And.intro (gw.trans ga) (And.intro b1 (And.intro b2 (And.intro b3 (And.intro b4 (And.intro (s3.on ga) (And.intro (s4.on ga) (And.intro (s5.on ga) (And.intro (s6.on ga) (And.intro (s7.on ga) (And.intro (s8.on ga) (And.intro (s9.push (.cells #[.slice A9 n9 c9, .slice A10 n10 c10] 27)) (s10.push (.cells #[.slice A9 n9 c9, .slice A10 n10 c10] 27))))))))))))))
      have t0 := cell_of_row w9 _ 0 _ _ _ b2'
      have t1 := cell_of_row w9 _ 1 _ _ _ b2'
      have u0 := cell_of_row w9 _ 0 _ _ _ b3'
      have u1 := cell_of_row w9 _ 1 _ _ _ b3'
      simp at t0 t1 u0 u1
      have m1 := (Array.getElem?_eq_some_iff.1 b2').1
      have m2 := (Array.getElem?_eq_some_iff.1 b3').1
      clear gw b1 b2 b2' b3 b3' b4 s3 s4 s5 s6 s7 s8 s9 s10 g9 ga HC
      go_wp2_with fail
      generalize w9.alloc (.cells #[.slice A9 n9 c9, .slice A10 n10 c10] 27) = wa at HD ⊢
      obtain ⟨B4, hB4⟩ : ∃ B4, w9.heap.size = B4 := ⟨_, rfl⟩
      rw [hB4] at HD ⊢
      clear hB4 t0 t1 u0 u1 m1 m2
      obtain ⟨gw, b1, b2, b3, b4, s3, s4, s5, s6, s7, s8, s9, s10⟩ := HD.out
      refine (Same_any A7 n7 c7 A8 n8 c8 A5 n5 c5 A6 n6 c6 (crashD d 0) (crashD d 0) wa s7 s8 s5 s6).mono ?_
      rintro e wb ⟨rfl, gb⟩
      rw [sameD_refl]
      have b2' := (gb.block _ (Array.getElem?_eq_some_iff.1 b2).1 (by simp)).trans b2
      have b4' := (gb.block _ (Array.getElem?_eq_some_iff.1 b4).1 (by simp)).trans b4
      have t0 := cell_of_row wb _ 0 _ _ _ b2'
      have t1 := cell_of_row wb _ 1 _ _ _ b2'
      have u0 := cell_of_row wb _ 0 _ _ _ b4'
      have u1 := cell_of_row wb _ 1 _ _ _ b4'
      simp at t0 t1 u0 u1
      have GB := Lib.hid gb
      clear gw b1 b2 b2' b3 b4 b4' s3 s4 s5 s6 s7 s8 s9 s10 gb
      go_wp2_with fail
      obtain ⟨gw, b1, b2, b3, b4, s3, s4, s5, s6, s7, s8, s9, s10⟩ := HD.out
      refine (Same_any A9 n9 c9 A10 n10 c10 A5 n5 c5 A6 n6 c6 (crashD d 0) (crashD d 0) wb (s9.on GB.out) (s10.on GB.out) (s5.on GB.out) (s6.on GB.out)).mono ?_
      rintro e wc ⟨rfl, gc⟩
      rw [sameD_refl]
      have gbc := GB.out.trans gc
      have b2' := (gbc.block _ (Array.getElem?_eq_some_iff.1 b2).1 (by simp)).trans b2
      clear t0 t1 u0 u1
      have t0 := cell_of_row wc _ 0 _ _ _ b2'
      have t1 := cell_of_row wc _ 1 _ _ _ b2'
      simp at t0 t1
      have GC := Lib.hid gbc
      clear gw b1 b2 b2' b3 b4 s3 s4 s5 s6 s7 s8 s9 s10 gc gbc
      go_wp2_with fail
      obtain ⟨gw, b1, b2, b3, b4, s3, s4, s5, s6, s7, s8, s9, s10⟩ := HD.out
      refine (Dirty_any A5 n5 c5 A6 n6 c6 (crashD d 0) wc (s5.on GC.out) (s6.on GC.out)).mono ?_
      rintro e wd ⟨Ad, cd, rfl, gd, _⟩
      rw [dirty_crash]
      have gcd := GC.out.trans gd
      have b1' := (gcd.block _ (Array.getElem?_eq_some_iff.1 b1).1 (by simp)).trans b1
      clear t0 t1
      have t0 := cell_of_row wd _ 0 _ _ _ b1'
      have t1 := cell_of_row wd _ 1 _ _ _ b1'
      simp at t0 t1
      have GD := Lib.hid gcd
      clear gw b1 b1' b2 b3 b4 s3 s4 s5 s6 s7 s8 s9 s10 gd gcd
      go_wp2_with fail
      obtain ⟨gw, b1, b2, b3, b4, s3, s4, s5, s6, s7, s8, s9, s10⟩ := HD.out
      refine (Dirty_any A3 33 c3 A4 33 c4 (crashD d x) wd (by rw [crash_eq HQ.out.2.1]; exact s3.on GD.out) (by rw [crash_eq HQ.out.2.1]; exact s4.on GD.out)).mono ?_
      rintro e we ⟨Ae, ce, rfl, ge, _⟩
      rw [dirty_crash]
      have GE := Lib.hid ((gw.trans GD.out).trans ge)
      clear gw b1 b2 b3 b4 s3 s4 s5 s6 s7 s8 s9 s10 ge t0 t1
      go_wp2_with fail
      refine (wakes_any _).mono ?_
      rintro e wf ⟨rfl, gf⟩
      go_wp2_with fail
      go_ret
      exact ⟨rfl, GE.out.trans gf⟩

set_option maxRecDepth 100000 in
set_option maxHeartbeats 8000000 in
theorem crash_any (A1 : Option Addr) (n1 c1 : Nat) (A2 : Option Addr) (n2 c2 : Nat) (d : Dk) (x : Int) (w : World) (h1 : Sl ESec w (· < w.heap.size) A1 n1 c1 d.now) (h2 : Sl ESec w (· < w.heap.size) A2 n2 c2 d.sure) :
    Calls Try.prog 8 #[dkC A1 n1 c1 A2 n2 c2, .int .u64 x] w fun e w' => e = .returned (.bool true) ∧ w.grownBy w' none := by
  cases q1 : greatD d
  · cases ho : okD d
    · have g0 := World.grownBy_alloc w (.cells #[.slice A1 n1 c1, .slice A2 n2 c2] 27) none
      have b0 := heap_alloc_new w (.cells #[.slice A1 n1 c1, .slice A2 n2 c2] 27)
      obtain ⟨w0, hw0⟩ : ∃ w0, w.alloc (.cells #[.slice A1 n1 c1, .slice A2 n2 c2] 27) = w0 := ⟨_, rfl⟩
      rw [hw0] at g0 b0
      have H := Lib.hid (And.intro g0 (And.intro b0 (And.intro (h1.on g0) (And.intro (h2.on g0) hw0))))
      have HQ := Lib.hid (And.intro q1 ho)
      clear g0 b0 h1 h2 hw0 q1 ho
      go_enter Try.func8, Try.ntmps8
      go_wp2_with fail
      rw [H.out.2.2.2.2]
      refine (rGreat_any A1 n1 c1 A2 n2 c2 d w0 H.out.2.2.1 H.out.2.2.2.1).mono ?_
      rintro e w1 ⟨rfl, g1⟩
      rw [HQ.out.1]
      have b0 := (g1.block _ (Array.getElem?_eq_some_iff.1 H.out.2.1).1 (by simp)).trans H.out.2.1
      have H1 := Lib.hid (And.intro (H.out.1.trans g1) (And.intro (H.out.2.2.1.on g1) (H.out.2.2.2.1.on g1)))
      have t0 := cell_of_row w1 _ 0 _ _ _ b0
      have t1 := cell_of_row w1 _ 1 _ _ _ b0
      simp at t0 t1
      clear g1 b0 H
      go_wp2_with fail
      refine (rCheck_any A1 n1 c1 A2 n2 c2 d w1 H1.out.2.1 H1.out.2.2).mono ?_
      rintro e w2 ⟨rfl, g2⟩
      rw [chk_no HQ.out.2]
      have G2 := Lib.hid (H1.out.1.trans g2)
      clear g2 t0 t1
      go_wp2_with fail
      refine (wakes_any _).mono ?_
      rintro e wf ⟨rfl, gf⟩
      go_wp2_with fail
      go_ret
      exact ⟨rfl, G2.out.trans gf⟩
    · exact crash_in A1 n1 c1 A2 n2 c2 d x w h1 h2 q1 ho
  · have g0 := World.grownBy_alloc w (.cells #[.slice A1 n1 c1, .slice A2 n2 c2] 27) none
    obtain ⟨w0, hw0⟩ : ∃ w0, w.alloc (.cells #[.slice A1 n1 c1, .slice A2 n2 c2] 27) = w0 := ⟨_, rfl⟩
    rw [hw0] at g0
    have H := Lib.hid (And.intro g0 (And.intro (h1.on g0) (And.intro (h2.on g0) hw0)))
    have HQ := Lib.hid q1
    clear g0 h1 h2 hw0 q1
    go_enter Try.func8, Try.ntmps8
    go_wp2_with fail
    rw [H.out.2.2.2]
    refine (rGreat_any A1 n1 c1 A2 n2 c2 d w0 H.out.2.1 H.out.2.2.1).mono ?_
    rintro e w1 ⟨rfl, g1⟩
    rw [HQ.out]
    go_wp2_with fail
    refine (wakes_any _).mono ?_
    rintro e wf ⟨rfl, gf⟩
    go_wp2_with fail
    go_ret
    exact ⟨rfl, (H.out.1.trans g1).trans gf⟩
end Go.Proofs.Ytafebhcjkcedhaa
