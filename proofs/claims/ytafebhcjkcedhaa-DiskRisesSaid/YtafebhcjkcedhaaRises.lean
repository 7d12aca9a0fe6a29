/- DiskRises: whatever the arguments, the call returns true and changes nothing that was there. No condition. -/
import Derived.Test.YtafebhcjkcedhaaSure
namespace Go.Proofs.Ytafebhcjkcedhaa
open Go Go.RowKit Go.Deep
attribute [local go_sem] cell?_ext frozen?_ext

set_option maxRecDepth 100000 in
set_option maxHeartbeats 16000000 in
theorem rises_in (w : World) (A : Option Addr) (n c : Nat) (xs : List ActD) (hs : Sl EAct w (· < w.heap.size) A n c xs) (q1 : greatA xs = false) (hn : n ≤ 100) :
    Calls Try.prog 3 #[.slice A n c] w fun e w' => e = .returned (.bool true) ∧ w.grownBy w' none := by
  have q1 := Lib.hid q1
  have hl := hs.length
  have H := Lib.hid (And.intro hs hl)
  clear hs hl
  go_enter Try.func3, Try.ntmps3
  go_wp2_with fail
  refine (great_any w A n c xs H.out.1).mono ?_
  rintro e w1 ⟨rfl, g1⟩
  rw [q1.out]
  go_wp2_with fail
  refine (New_any w1).mono ?_
  rintro e w3 ⟨A1, n1, c1, A2, n2, c2, rfl, g3, s1, s2⟩
  have hbx := boxD.new s1 s2
  have gg := (g1.trans g3).trans (World.grownBy_alloc w3 (.cells #[.slice A1 n1 c1, .slice A2 n2 c2] 27) none)
  have hlo : w.heap.size ≤ w3.heap.size := (g1.trans g3).size
  obtain ⟨B, hB⟩ : ∃ B, w3.heap.size = B := ⟨_, rfl⟩
  rw [hB] at hbx
  go_wp2_with fail
  rw [hB] at hlo
  generalize w3.alloc (.cells #[.slice A1 n1 c1, .slice A2 n2 c2] 27) = w4 at hbx gg ⊢
  clear g1 g3 s1 s2 hB
  have G0 := Lib.hid (And.intro hbx gg)
  clear hbx gg
  go_loopw [14] (fun i wr => ∃ k : Nat, i = .int .i64 k ∧ k ≤ n ∧ boxD wr B ((xs.take k).foldl doD dkNew) ∧ w.grownBy wr none) (fun i _ => n - (intOf i).toNat)
  case atStart => exact ⟨0, rfl, Nat.zero_le _, G0.out.1, G0.out.2⟩
  case round =>
    obtain ⟨k, rfl, hk, hbx, hg⟩ := hrel
    by_cases hkn : k < n
    · obtain ⟨x, hx⟩ : ∃ x, xs[k]? = some x := ⟨_, List.getElem?_eq_getElem (by rw [H.out.2]; exact hkn)⟩
      obtain ⟨ba, off, hA, _, hxm, x0, x1, x2, x3, x4⟩ := act_at (H.out.1.on hg) hx
      have i0 : (0 : Int) ≤ (k : Int) := by omega
      have i1 : (k : Int) < (n : Int) := by omega
      have hst := fold_step dkNew hx
      have hok := ok_fold (xs.take k) dkNew okD_new
      obtain ⟨D, hD⟩ : ∃ D, (xs.take k).foldl doD dkNew = D := ⟨_, rfl⟩
      rw [hD] at hst hok hbx
      have hgn := World.grownBy_alloc wr (.cells #[.int .i64 x.act, .int .i64 x.k, .int .i64 x.n, .string x.b, .int .u64 x.lost] 31) none
      have hb1 := hbx.on hgn
      have hna := heap_alloc_new wr (.cells #[.int .i64 x.act, .int .i64 x.k, .int .i64 x.n, .string x.b, .int .u64 x.lost] 31)
      have HX := Lib.hid (And.intro hst (And.intro hok (And.intro (hg.trans hgn) hna)))
      obtain ⟨A3, n3, c3, A4, n4, c4, hbb, s3, s4⟩ := hbx
      have t0 := cell_of_row wr _ 0 _ _ _ hbb
      have t1 := cell_of_row wr _ 1 _ _ _ hbb
      simp at t0 t1
      have lB : B < wr.heap.size := (Array.getElem?_eq_some_iff.1 hbb).1
      have HS := Lib.hid (And.intro (s3.push (.cells #[.int .i64 x.act, .int .i64 x.k, .int .i64 x.n, .string x.b, .int .u64 x.lost] 31)) (And.intro (s4.push (.cells #[.int .i64 x.act, .int .i64 x.k, .int .i64 x.n, .string x.b, .int .u64 x.lost] 31)) ((hgn.block _ lB (by simp)).trans hbb)))
      subst hA
      clear hst hok hgn hb1 hna hbb s3 s4 hg hx hD
      go_wp2_with fail
      refine (do_any A3 n3 c3 A4 n4 c4 D x hxm _ HS.out.1 HS.out.2.1).mono ?_
      rintro e w5 ⟨A5, n5, c5, A6, n6, c6, rfl, g5, s5, s6⟩
      unfold id
      have hrd := fun j (hj : j < 33) => do_rises HX.out.2.1 x hj
      have hok2 := okD_do HX.out.2.1 x
      obtain ⟨D2, hD2⟩ : ∃ D2, doD D x = D2 := ⟨_, rfl⟩
      rw [hD2] at hrd hok2 s5 s6
      have bB := (g5.block _ (Array.getElem?_eq_some_iff.1 HS.out.2.2).1 (by simp)).trans HS.out.2.2
      have bS := (g5.block _ (Array.getElem?_eq_some_iff.1 HX.out.2.2.2).1 (by simp)).trans HX.out.2.2.2
      have g6 := World.grownBy_alloc w5 (.cells #[.slice A5 n5 c5, .slice A6 n6 c6] 27) none
      have bO := heap_alloc_new w5 (.cells #[.slice A5 n5 c5, .slice A6 n6 c6] 27)
      have H5 := Lib.hid (And.intro (HX.out.2.2.1.trans (g5.trans g6)) (And.intro ((HS.out.1.on g5).on g6) (And.intro ((HS.out.2.1.on g5).on g6) (And.intro (s5.on g6) (And.intro (s6.on g6) (And.intro ((g6.block _ (Array.getElem?_eq_some_iff.1 bB).1 (by simp)).trans bB) (And.intro ((g6.block _ (Array.getElem?_eq_some_iff.1 bS).1 (by simp)).trans bS) bO)))))))
      have HD := Lib.hid (And.intro hrd (And.intro hok2 hD2))
      have hl5 := okD_len hok2
      have hl0 := okD_len HX.out.2.1
      obtain rfl : n5 = 33 := by rw [← s5.length]; exact hl5.1
      obtain rfl : n6 = 33 := by rw [← s6.length]; exact hl5.2
      obtain rfl : n3 = 33 := by rw [← HS.out.1.length]; exact hl0.1
      obtain rfl : n4 = 33 := by rw [← HS.out.2.1.length]; exact hl0.2
      have HLL := Lib.hid (And.intro hl5 hl0)
      clear t0 t1 x0 x1 x2 x3 x4 g5 s5 s6 g6 bB bS bO hrd hok2 hl5 hl0 hD2
      go_wp2_with fail
      generalize w5.alloc (.cells #[.slice A5 33 c5, .slice A6 33 c6] 27) = w6 at H5 ⊢
      refine (Check_any A5 33 c5 A6 33 c6 D2 w6 H5.out.2.2.2.1 H5.out.2.2.2.2.1).mono ?_
      rintro e w7 ⟨rfl, g7⟩
      rw [chk_yes HD.out.2.1]
      obtain ⟨gw, sa, sb, sc, sd, bB, bS, bO⟩ := H5.out
      have bB := (g7.block _ (Array.getElem?_eq_some_iff.1 bB).1 (by simp)).trans bB
      have bS := (g7.block _ (Array.getElem?_eq_some_iff.1 bS).1 (by simp)).trans bS
      have bO := (g7.block _ (Array.getElem?_eq_some_iff.1 bO).1 (by simp)).trans bO
      have t0 := cell_of_row w7 _ 0 _ _ _ bO
      have t1 := cell_of_row w7 _ 1 _ _ _ bO
      simp at t0 t1
      have H7 := Lib.hid (And.intro (gw.trans g7) (And.intro (sa.on g7) (And.intro (sb.on g7) (And.intro (sc.on g7) (And.intro (sd.on g7) (And.intro bB (And.intro bS bO)))))))
      obtain ⟨S0, hS0⟩ : ∃ S0, wr.heap.size = S0 := ⟨_, rfl⟩
      obtain ⟨O, hO⟩ : ∃ O, w5.heap.size = O := ⟨_, rfl⟩
      rw [hS0, hO] at H7
      rw [hO] at t0 t1
      clear gw sa sb sc sd bB bS bO g7 H5 lB
      go_wp2_with fail
      clear t0 t1 hS0 hO
      obtain ⟨wo, hwo⟩ : ∃ wo : World, wo = w7 := ⟨_, rfl⟩
      rw [← hwo] at H7 ⊢
      clear hwo
      go_loopw [39] (fun i wi => ∃ j : Nat, i = .int .i64 j ∧ j ≤ 33 ∧ wo.grownBy wi none) (fun i _ => 33 - (intOf i).toNat)
      case atStart => exact ⟨0, rfl, Nat.zero_le _, World.grownBy.refl _ _⟩
      case round =>
        obtain ⟨j, rfl, hj, hgi⟩ := hrel
        by_cases hj33 : j < 33
        · rename_i wi _
          have i2 : (0 : Int) ≤ (j : Int) := by omega
          have i3 : (j : Int) < (33 : Int) := by omega
          obtain ⟨gw, sa, sb, sc, sd, bB, bS, bO⟩ := H7.out
          obtain ⟨ya, hya⟩ : ∃ y, D.now[j]? = some y := ⟨_, List.getElem?_eq_getElem (by rw [HLL.out.2.1]; exact hj33)⟩
          obtain ⟨yb, hyb⟩ : ∃ y, D.sure[j]? = some y := ⟨_, List.getElem?_eq_getElem (by rw [HLL.out.2.2]; exact hj33)⟩
          obtain ⟨yc, hyc⟩ : ∃ y, D2.now[j]? = some y := ⟨_, List.getElem?_eq_getElem (by rw [HLL.out.1.1]; exact hj33)⟩
          obtain ⟨yd, hyd⟩ : ∃ y, D2.sure[j]? = some y := ⟨_, List.getElem?_eq_getElem (by rw [HLL.out.1.2]; exact hj33)⟩
          obtain ⟨ba1, oa1, hAa, ha1, _, xa0, _⟩ := sec_at (sa.on hgi) hya
          obtain ⟨ba2, oa2, hAb, ha2, _, xb0, _⟩ := sec_at (sb.on hgi) hyb
          obtain ⟨ba3, oa3, hAc, ha3, _, xc0, _⟩ := sec_at (sc.on hgi) hyc
          obtain ⟨ba4, oa4, hAd, ha4, _, xd0, _⟩ := sec_at (sd.on hgi) hyd
          have bB := (hgi.block _ (Array.getElem?_eq_some_iff.1 bB).1 (by simp)).trans bB
          have bS := (hgi.block _ (Array.getElem?_eq_some_iff.1 bS).1 (by simp)).trans bS
          have bO := (hgi.block _ (Array.getElem?_eq_some_iff.1 bO).1 (by simp)).trans bO
          have t0 := cell_of_row _ _ 0 _ _ _ bB
          have t1 := cell_of_row _ _ 1 _ _ _ bB
          have u0 := cell_of_row _ _ 0 _ _ _ bS
          have v0 := cell_of_row _ _ 0 _ _ _ bO
          have v1 := cell_of_row _ _ 1 _ _ _ bO
          simp at t0 t1 u0 v0 v1
          have m1 := (Array.getElem?_eq_some_iff.1 bB).1
          have m2 := (Array.getElem?_eq_some_iff.1 bS).1
          have m3 := (Array.getElem?_eq_some_iff.1 bO).1
          obtain ⟨r1, r2, r3⟩ := HD.out.1 j hj33
          rw [getD_some hyb, getD_some hyd] at r1
          rw [getD_some hya, getD_some hyc] at r2
          rw [getD_some hyb, getD_some hyc] at r3
          subst hAa hAb hAc hAd
          have e1 : decide (yd.n < yb.n) = false := by simp; omega
          have e3 : decide (yc.n < yb.n) = false := by simp; omega
          clear gw sa sb sc sd bB bS bO hya hyb hyc hyd
          by_cases hx2 : x.act = 2
          · have e2 : (x.act != 2) = false := by simp [hx2]
            have hgi := Lib.hid hgi
            clear r1 r2 r3 hx2
            go_wp2_with fail
            refine wp_region_ext (by kernel_rfl) (by kernel_rfl) ?_
            repeat (any_goals (first | go_big_quiet_step ((fail)) | quiet_step ((fail))))
            refine wpQuiet_nil ?_
            intro wx hwx
            have hbx := ext_elim hwx
            clear hwx
            go_wp2
            go_roundw
            case rel => exact ⟨j + 1, by go_num, by omega, hgi.out.trans (below_grown hbx)⟩
            case measure => simp [intOf]; omega
          · have e2 : (x.act != 2) = true := by simp [hx2]
            have r2 := r2 hx2
            have e4 : decide (yc.n < ya.n) = false := by simp; omega
            have hgi := Lib.hid hgi
            clear r1 r2 r3 hx2
            go_wp2_with fail
            refine wp_region_ext (by kernel_rfl) (by kernel_rfl) ?_
            repeat (any_goals (first | go_big_quiet_step ((fail)) | quiet_step ((fail))))
            refine wpQuiet_nil ?_
            intro wx hwx
            have hbx := ext_elim hwx
            clear hwx
            go_wp2
            go_roundw
            case rel => exact ⟨j + 1, by go_num, by omega, hgi.out.trans (below_grown hbx)⟩
            case measure => simp [intOf]; omega
        · obtain rfl : j = 33 := by omega
          obtain ⟨gw, sa, sb, sc, sd, bB, bS, bO⟩ := H7.out
          rename_i wi _
          have bB := (hgi.block _ (Array.getElem?_eq_some_iff.1 bB).1 (by simp)).trans bB
          have bO := (hgi.block _ (Array.getElem?_eq_some_iff.1 bO).1 (by simp)).trans bO
          have t0 := cell_of_row _ _ 0 _ _ _ bB
          have t1 := cell_of_row _ _ 1 _ _ _ bB
          have f0 := frozen_of_row _ _ 0 _ _ bB
          have f1 := frozen_of_row _ _ 1 _ _ bB
          have v0 := cell_of_row _ _ 0 _ _ _ bO
          have v1 := cell_of_row _ _ 1 _ _ _ bO
          simp at t0 t1 v0 v1
          have hfin := boxD.mk' (d := D2) (set2_at bB (.slice A5 33 c5) (.slice A6 33 c6)) (sl_set2 (sc.on hgi) bB _ _) (sl_set2 (sd.on hgi) bB _ _)
          have gfin := grown_set2 (gw.trans hgi) hlo (.slice A5 33 c5) (.slice A6 33 c6)
          have HF := Lib.hid (And.intro hfin gfin)
          clear gw sa sb sc sd bB bS bO hgi hfin gfin
          go_wp2_with fail
          go_roundw
          case rel => exact ⟨k + 1, by go_num, by omega, by rw [HX.out.1, HD.out.2.2]; exact HF.out.1, HF.out.2⟩
          case measure => simp [intOf]; omega
    · obtain rfl : k = n := by omega
      clear hbx
      go_wp2_with fail
      refine (wakes_any _).mono ?_
      rintro e w6 ⟨rfl, g6⟩
      go_wp2_with fail
      go_ret
      exact ⟨rfl, hg.trans g6⟩

set_option maxRecDepth 100000 in
set_option maxHeartbeats 8000000 in
theorem rises_any (w : World) (A : Option Addr) (n c : Nat) (xs : List ActD) (hs : Sl EAct w (· < w.heap.size) A n c xs) :
    Calls Try.prog 3 #[.slice A n c] w fun e w' => e = .returned (.bool true) ∧ Below w.heap.size w w' := by
  cases q1 : greatA xs
  · exact (rises_in w A n c xs hs q1 (by rw [← hs.length]; exact great_len q1)).mono fun e w' ⟨he, hg⟩ => ⟨he, grown_below hg⟩
  · have q1 := Lib.hid q1
    go_enter Try.func3, Try.ntmps3
    go_wp2_with fail
    refine (great_any w A n c xs hs).mono ?_
    rintro e w1 ⟨rfl, g1⟩
    rw [q1.out]
    go_wp2_with fail
    refine (wakes_any _).mono ?_
    rintro e w6 ⟨rfl, g6⟩
    go_wp2_with fail
    go_ret
    exact ⟨rfl, grown_below (g1.trans g6)⟩
end Go.Proofs.Ytafebhcjkcedhaa
